/- The tie, fact by fact: what the variables read as. -/
import Derived.Test.YtnnalcfdeldocaaGreatDoorL44
namespace Go.Proofs.YtnnalcfdeldocaaGreatDoor
open Go
theorem tie_h1 : ∀ os tape, (DataW.laidRun Tryz.prog (varsWorld Tryz.prog 400 (varsId Tryz.prog) os tape).memory 8 (LD.map (·.1))).map (·.1) = some LD := fun _ _ => by kernel_rfl
end Go.Proofs.YtnnalcfdeldocaaGreatDoor
