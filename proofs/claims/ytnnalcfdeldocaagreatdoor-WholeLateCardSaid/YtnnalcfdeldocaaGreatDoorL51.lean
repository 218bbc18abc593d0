/- WholeLate: a closed fact of the card. WholeLate: a closed fact of the card. -/
import Derived.Test.YtnnalcfdeldocaaGreatDoorCards
import Derived.JoinedOf
import Derived.SevenTiedAt
import Derived.KernelRfl
namespace Go.Proofs.YtnnalcfdeldocaaGreatDoor.X
open Go
theorem card_looks : true = Tryz.pinned.checked.prog.looks [] := by kernel_rfl
end Go.Proofs.YtnnalcfdeldocaaGreatDoor.X
namespace Go.Proofs.YtnnalcfdeldocaaGreatDoor.X
open Go
theorem card_wf : Rows.wholeLateRow.wfByText (OpenSpec.ofChange Rows.wholeLateSpec) = true := by kernel_rfl
theorem card_main : Tryz.pinned.checked.prog.mainIs = some (true, "9cfeef1ef2a2dd5e8525ca65c26f922a1023fb751f012cd2256ca6296dbe6fd8".toList) := by kernel_rfl
end Go.Proofs.YtnnalcfdeldocaaGreatDoor.X
