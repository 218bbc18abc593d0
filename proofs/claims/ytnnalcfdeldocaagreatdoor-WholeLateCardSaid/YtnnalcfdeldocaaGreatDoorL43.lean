/- wholeLate: a closed fact of the row. wholeLate: a closed fact of the row. -/
import Derived.Test.YtnnalcfdeldocaaGreatDoorRows
import Derived.JoinedOf
import Derived.KernelRfl
namespace Go.Proofs.YtnnalcfdeldocaaGreatDoor.X
open Go
set_option maxRecDepth 100000
theorem wf24 : Tryz.prog.stopsHeard = true := by kernel_rfl
end Go.Proofs.YtnnalcfdeldocaaGreatDoor.X
namespace Go.Proofs.YtnnalcfdeldocaaGreatDoor.X
open Go
set_option maxRecDepth 100000
theorem wf25 : Tryz.prog.mayEnter = true := by kernel_rfl
end Go.Proofs.YtnnalcfdeldocaaGreatDoor.X
