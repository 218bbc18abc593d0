/- TopNames: the row's statement. -/
import Derived.Test.YtnnalcfdeldocaaGreatDoorL42
import Derived.Test.YtnnalcfdeldocaaGreatDoorL40
namespace Go.Proofs.YtnnalcfdeldocaaGreatDoor.X
open Go Go.RowKit
set_option maxRecDepth 100000 in
theorem names_holds : Rows.TopNamesSaid :=
  OpenClaim.holds_of_wide 4 Tryz.f4 rfl rfl rfl rfl rfl rfl rfl ⟨rfl, rfl, rfl, rfl, rfl⟩ rfl rfl rfl rfl rfl (by kernel_rfl) Tryz.func4 topNames_facts
    (of_decide_eq_true (by kernel_rfl)) (by unfold Func.isWrapper; first | (rw [if_pos (by decide +kernel)]; kernel_rfl) | (rw [if_neg (by decide +kernel)]; exact ⟨rfl, rfl⟩))
    (fun os started H enc _ => names_lifted os started H enc)
end Go.Proofs.YtnnalcfdeldocaaGreatDoor.X
