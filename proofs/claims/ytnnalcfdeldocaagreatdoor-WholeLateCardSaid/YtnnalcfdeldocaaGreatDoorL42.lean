/- wholeLate: a closed fact of the row. wholeLate: a closed fact of the row. -/
import Derived.Test.YtnnalcfdeldocaaGreatDoorRows
import Derived.JoinedOf
import Derived.KernelRfl
namespace Go.Proofs.YtnnalcfdeldocaaGreatDoor.X
open Go
set_option maxRecDepth 100000
theorem wf11 : (Rows.wholeLateRow.recurses == Tryz.prog.recurses 3) = true := by kernel_rfl
end Go.Proofs.YtnnalcfdeldocaaGreatDoor.X
namespace Go.Proofs.YtnnalcfdeldocaaGreatDoor.X
open Go
set_option maxRecDepth 100000
theorem wf12 : (Rows.wholeLateRow.named == Tryz.prog.varsNamed 3) = true := by kernel_rfl
end Go.Proofs.YtnnalcfdeldocaaGreatDoor.X
