/- wholeLate: a closed fact of the row. wholeLate: a closed fact of the row. -/
import Derived.Test.YtnnalcfdeldocaaGreatDoorRows
import Derived.JoinedOf
import Derived.KernelRfl
namespace Go.Proofs.YtnnalcfdeldocaaGreatDoor.X
open Go
set_option maxRecDepth 100000
theorem wf1 : laidOutB Tryz.prog = true := by kernel_rfl
end Go.Proofs.YtnnalcfdeldocaaGreatDoor.X
namespace Go.Proofs.YtnnalcfdeldocaaGreatDoor.X
open Go
set_option maxRecDepth 100000
theorem wf2 : mapsRowed Tryz.prog = true := by kernel_rfl
end Go.Proofs.YtnnalcfdeldocaaGreatDoor.X
