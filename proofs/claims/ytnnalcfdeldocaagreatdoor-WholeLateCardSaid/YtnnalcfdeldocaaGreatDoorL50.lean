/- The tie, fact by fact: joined. WholeLate: the row's tie. -/
import Derived.Test.YtnnalcfdeldocaaGreatDoorL45
import Derived.Test.YtnnalcfdeldocaaGreatDoorL46
import Derived.Test.YtnnalcfdeldocaaGreatDoorL47
import Derived.Test.YtnnalcfdeldocaaGreatDoorL48
import Derived.LaidByTextLater
import Derived.SevenTiedAt
namespace Go.Proofs.YtnnalcfdeldocaaGreatDoor
open Go
theorem own_tie : Tryz.prog.laidByTextLater LD KD true :=
  Program.laidByTextLater_by_run 400 8 tie_hw tie_hw2 tie_hroot tie_hk tie_hg tie_hn tie_hd tie_h1 tie_h2 tie_hp
end Go.Proofs.YtnnalcfdeldocaaGreatDoor
namespace Go.Proofs.YtnnalcfdeldocaaGreatDoor.X
open Go
theorem fits : Tryz.pinned.checked.prog.listedFits Rows.wholeLateRow.laid = true := by
  unfold Program.listedFits
  rw [noOwnUnsafe]
  kernel_rfl
theorem wholeLate_tie : Rows.wholeLateRow.laidByTextAt .later Tryz.pinned [.sentinel, .sentinel, .data, .data, .data, .pinned, .data] true :=
  OpenClaim.laidByTextAt_pinned rfl rfl own_tie rfl rfl rfl rfl (fun y hy _e => by
    simp only [Rows.wholeLateRow, List.zip_cons_cons, List.zip_nil_right, List.mem_cons, List.mem_nil_iff, or_false] at hy
    rcases hy with rfl | rfl | rfl | rfl | rfl | rfl | rfl
    · cases _e
    · cases _e
    · cases _e
    · cases _e
    · cases _e
    · exact ⟨pin_laid_unicode_utf8_first, by kernel_rfl⟩
    · cases _e) fits
end Go.Proofs.YtnnalcfdeldocaaGreatDoor.X
