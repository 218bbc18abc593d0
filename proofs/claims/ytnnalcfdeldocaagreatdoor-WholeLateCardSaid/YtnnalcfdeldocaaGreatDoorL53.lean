/- WholeLate: THE CARD. For every qty and late, within the bounds that the row names, the call returns true, and the arguments read behind the call as they read before. -/
import Derived.Test.YtnnalcfdeldocaaGreatDoorL49
import Derived.Test.YtnnalcfdeldocaaGreatDoorL50
import Derived.Test.YtnnalcfdeldocaaGreatDoorL51
import Derived.Test.YtnnalcfdeldocaaGreatDoorL52
namespace Go.Proofs.YtnnalcfdeldocaaGreatDoor
open Go
theorem X.noStand3 : Tryz.pinned.checked.prog.wantsStandIn 3 = false := by kernel_rfl
theorem late_card : Rows.WholeLateCardSaid :=
  Claim7.holds_tied_plain_at .later [] [.sentinel, .sentinel, .data, .data, .data, .pinned, .data] true (true, "9cfeef1ef2a2dd5e8525ca65c26f922a1023fb751f012cd2256ca6296dbe6fd8") true
    X.late_holds (fun _ h => by cases h) X.card_wf (fun _ h => by cases h) X.wholeLate_tie rfl ⟨rfl, rfl⟩ X.card_main rfl
    (fun f fn hf hfn => by
      obtain rfl : f = 3 := Option.some.inj ((show Tryz.prog.funcNamed "pannier/panniertop.WholeLate" = some 3 by kernel_rfl).symm.trans hf) |>.symm
      obtain rfl : fn = Tryz.f3 := (Option.some.inj (Tryz.func3.symm.trans hfn)).symm
      exact ⟨X.card_looks, fun j t ht => by
        rw [Tryz.params3] at ht
        have hm := Array.mem_of_getElem? ht
        simp at hm
        subst hm
        exact X.noStand3⟩)
    X.card_goes
#print axioms late_card
end Go.Proofs.YtnnalcfdeldocaaGreatDoor
