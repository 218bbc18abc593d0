/- wholeLate: a closed fact of the row. wholeLate: a closed fact of the row. -/
import Derived.Test.YtnnalcfdeldocaaGreatDoorRows
import Derived.JoinedOf
import Derived.KernelRfl
namespace Go.Proofs.YtnnalcfdeldocaaGreatDoor.X
open Go
set_option maxRecDepth 100000
theorem wf9 : (Rows.wholeLateRow.inPlace == Tryz.prog.inPlace 3) = true := by kernel_rfl
end Go.Proofs.YtnnalcfdeldocaaGreatDoor.X
namespace Go.Proofs.YtnnalcfdeldocaaGreatDoor.X
open Go
set_option maxRecDepth 100000
theorem wf10 : (Rows.wholeLateRow.unfollowed == Tryz.prog.unfollowed 3) = true := by kernel_rfl
end Go.Proofs.YtnnalcfdeldocaaGreatDoor.X
