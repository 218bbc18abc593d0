/- The tie, fact by fact: where the variables lie. -/
import Derived.Test.YtnnalcfdeldocaaGreatDoorL44
namespace Go.Proofs.YtnnalcfdeldocaaGreatDoor
open Go
theorem tie_h2 : ∀ os tape, (DataW.laidRun Tryz.prog (varsWorld Tryz.prog 400 (varsId Tryz.prog) os tape).memory 8 (LD.map (·.1))).map (fun x => decide x.2.Nodup && laidRowsB Tryz.prog (varsWorld Tryz.prog 400 (varsId Tryz.prog) os tape).memory x.2) = some true := fun _ _ => by kernel_rfl
end Go.Proofs.YtnnalcfdeldocaaGreatDoor
