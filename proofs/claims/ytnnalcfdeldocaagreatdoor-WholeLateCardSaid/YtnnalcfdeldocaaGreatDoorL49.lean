/- wholeLate: the row's closed facts, joined. WholeLate: the row's statement. -/
import Derived.Test.YtnnalcfdeldocaaGreatDoorL39
import Derived.Test.YtnnalcfdeldocaaGreatDoorL40
import Derived.Test.YtnnalcfdeldocaaGreatDoorL41
import Derived.Test.YtnnalcfdeldocaaGreatDoorL42
import Derived.Test.YtnnalcfdeldocaaGreatDoorL43
import Derived.Test.YtnnalcfdeldocaaGreatDoorL38
namespace Go.Proofs.YtnnalcfdeldocaaGreatDoor.X
open Go
theorem and2 {a b : Bool} (h : a = true) (k : b = true) : (a && b) = true := by rw [h, k]; rfl
set_option maxRecDepth 100000 in
theorem wholeLate_facts : joinedFacts Tryz.prog 3 Tryz.f3 Rows.wholeLateSpec Rows.wholeLateRow = true := by
  have h := and2 (and2 (and2 (and2 (and2 (and2 (and2 (and2 (and2 (and2 (and2 (and2 (and2 (and2 (and2 (and2 (and2 (and2 (and2 (and2 (and2 (and2 (and2 (and2 (and2 (and2 (and2 (and2 (and2 (and2 (and2 wf0 wf1) wf2) wf3) wf4) wf5) wf6) wf7) wf8) wf9) wf10) wf11) wf12) wf13) wf14) wf15) wf16) wf17) wf18) wf19) wf20) wf21) wf22) wf23) wf24) wf25) wf26) wf27) wf28) wf29) wf30) wf31
  unfold joinedFacts
  exact h
end Go.Proofs.YtnnalcfdeldocaaGreatDoor.X
namespace Go.Proofs.YtnnalcfdeldocaaGreatDoor.X
open Go Go.RowKit
set_option maxRecDepth 100000 in
theorem late_holds : Rows.WholeLateSaid :=
  OpenClaim.holds_of_wide 3 Tryz.f3 rfl rfl rfl rfl rfl rfl rfl ⟨rfl, rfl, rfl, rfl, rfl⟩ rfl rfl rfl rfl rfl (by kernel_rfl) Tryz.func3 wholeLate_facts
    (of_decide_eq_true (by kernel_rfl)) (by unfold Func.isWrapper; first | (rw [if_pos (by decide +kernel)]; kernel_rfl) | (rw [if_neg (by decide +kernel)]; exact ⟨rfl, rfl⟩))
    (fun os started H enc _ => late_lifted os started H enc)
end Go.Proofs.YtnnalcfdeldocaaGreatDoor.X
