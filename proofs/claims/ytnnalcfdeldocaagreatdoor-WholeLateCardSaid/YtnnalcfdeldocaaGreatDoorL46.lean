/- The tie, fact by fact: the initialisers end. -/
import Derived.Test.YtnnalcfdeldocaaGreatDoorL44
namespace Go.Proofs.YtnnalcfdeldocaaGreatDoor
open Go
theorem tie_hd : ∀ os tape, varsDone Tryz.prog 400 (varsId Tryz.prog) os tape = true := fun _ _ => by kernel_rfl
end Go.Proofs.YtnnalcfdeldocaaGreatDoor
