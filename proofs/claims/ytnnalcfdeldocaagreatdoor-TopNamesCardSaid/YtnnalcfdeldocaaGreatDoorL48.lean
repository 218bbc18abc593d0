/- TopNames: THE CARD. -/
import Derived.Test.YtnnalcfdeldocaaGreatDoorL43
import Derived.Test.YtnnalcfdeldocaaGreatDoorL44
import Derived.Test.YtnnalcfdeldocaaGreatDoorL45
import Derived.Test.YtnnalcfdeldocaaGreatDoorL46
import Derived.Test.YtnnalcfdeldocaaGreatDoorL47
namespace Go.Proofs.YtnnalcfdeldocaaGreatDoor
open Go
theorem names_card : Rows.TopNamesCardSaid :=
  Claim7.holds_tied_plain_at .later [] [.sentinel, .sentinel, .data, .data, .data, .pinned, .data] true (true, "9cfeef1ef2a2dd5e8525ca65c26f922a1023fb751f012cd2256ca6296dbe6fd8") true
    X.names_holds (fun _ h => by cases h) X.card_wf (fun _ h => by cases h) X.topNames_tie rfl ⟨rfl, rfl⟩ X.card_main rfl
    (fun f fn hf hfn => by
      obtain rfl : f = 4 := Option.some.inj ((show Tryz.prog.funcNamed "pannier/panniertop.TopNames" = some 4 by kernel_rfl).symm.trans hf) |>.symm
      obtain rfl : fn = Tryz.f4 := (Option.some.inj (Tryz.func4.symm.trans hfn)).symm
      exact ⟨X.card_looks, fun j t ht => by
        rw [Tryz.params4] at ht
        simp at ht⟩)
    X.card_goes
#print axioms names_card
end Go.Proofs.YtnnalcfdeldocaaGreatDoor
