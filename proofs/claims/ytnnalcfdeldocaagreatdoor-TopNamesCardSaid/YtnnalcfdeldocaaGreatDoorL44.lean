/- TopNames: the row's tie. -/
import Derived.Test.YtnnalcfdeldocaaGreatDoorL30
import Derived.LaidByTextLater
import Derived.SevenTiedAt
namespace Go.Proofs.YtnnalcfdeldocaaGreatDoor.X
open Go
theorem fits : Tryz.pinned.checked.prog.listedFits Rows.topNamesRow.laid = true := by
  unfold Program.listedFits
  rw [noOwnUnsafe]
  kernel_rfl
theorem topNames_tie : Rows.topNamesRow.laidByTextAt .later Tryz.pinned [.sentinel, .sentinel, .data, .data, .data, .pinned, .data] true :=
  OpenClaim.laidByTextAt_pinned rfl rfl own_tie rfl rfl rfl rfl (fun y hy _e => by
    simp only [Rows.topNamesRow, List.zip_cons_cons, List.zip_nil_right, List.mem_cons, List.mem_nil_iff, or_false] at hy
    rcases hy with rfl | rfl | rfl | rfl | rfl | rfl | rfl
    · cases _e
    · cases _e
    · cases _e
    · cases _e
    · cases _e
    · exact ⟨pin_laid_unicode_utf8_first, by kernel_rfl⟩
    · cases _e) fits
end Go.Proofs.YtnnalcfdeldocaaGreatDoor.X
