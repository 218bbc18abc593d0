/- wholeLate: closed facts of the row: the light ones. -/
import Derived.Test.YtnnalcfdeldocaaGreatDoorRows
import Derived.JoinedOf
import Derived.KernelRfl
namespace Go.Proofs.YtnnalcfdeldocaaGreatDoor.X
open Go
set_option maxRecDepth 100000
theorem wf0 : Rows.wholeLateRow.wf (OpenSpec.ofChange Rows.wholeLateSpec) = true := by kernel_rfl
theorem wf3 : Tryz.f3.params.all (Tryz.prog.readableRec ·) = true := by kernel_rfl
theorem wf4 : namedTie Tryz.prog Rows.wholeLateRow.named Rows.wholeLateSpec.vars = true := by kernel_rfl
theorem wf5 : (Rows.wholeLateRow.stops == []) = true := by kernel_rfl
theorem wf6 : (Tryz.prog.stops == []) = true := by kernel_rfl
theorem wf7 : (Rows.wholeLateRow.knobs == []) = true := by kernel_rfl
theorem wf8 : (Tryz.prog.stopKnobs == []) = true := by kernel_rfl
theorem wf13 : (Rows.wholeLateRow.maps == (Tryz.f3.params.toList ++ Rows.wholeLateSpec.plain.varTypes Tryz.prog).any (Tryz.prog.mapsRec ·)) = true := by kernel_rfl
theorem wf14 : (Rows.wholeLateRow.ifaces == (Tryz.f3.params.toList ++ Rows.wholeLateSpec.plain.varTypes Tryz.prog).any (Tryz.prog.ifacesRec ·)) = true := by kernel_rfl
theorem wf15 : (Rows.wholeLateRow.mapsOut == Tryz.prog.mapsAmong Tryz.f3.resultTypes.toList) = true := by kernel_rfl
theorem wf16 : (Rows.wholeLateRow.loops == (Tryz.f3.params.toList ++ Rows.wholeLateSpec.plain.varTypes Tryz.prog).any (Tryz.prog.loopsFrom ·)) = true := by kernel_rfl
theorem wf17 : (Rows.wholeLateRow.wideKeys == (Tryz.f3.params.toList ++ Rows.wholeLateSpec.plain.varTypes Tryz.prog ++ Tryz.f3.resultTypes.toList).any (Tryz.prog.wideKeysFrom ·)) = true := by kernel_rfl
theorem wf18 : Rows.wholeLateSpec.vars.all (Tryz.prog.varReadable ·) = true := by kernel_rfl
theorem wf19 : Tryz.f3.resultTypes.all (fun t => Tryz.prog.readableRec t && decide (t < Tryz.prog.types.size)) = true := by kernel_rfl
theorem wf20 : (Rows.wholeLateRow.ifacesOut == Tryz.f3.resultTypes.toList.any (Tryz.prog.ifacesRec ·)) = true := by kernel_rfl
theorem wf21 : (Rows.wholeLateRow.loopsOut == Tryz.f3.resultTypes.toList.any (Tryz.prog.loopsFrom ·)) = true := by kernel_rfl
theorem wf22 : (Rows.wholeLateRow.plainKeys == Tryz.prog.plainKeys) = true := by kernel_rfl
theorem wf23 : Rows.wholeLateRow.shortTexts.isNone = true := by kernel_rfl
theorem wf26 : (Rows.wholeLateRow.lifted == Tryz.prog.liftsFinal) = true := by kernel_rfl
theorem wf27 : (Tryz.prog.make == some Rows.wholeLateRow.make) = true := by kernel_rfl
theorem wf28 : (Rows.wholeLateRow.kinds == (if Rows.wholeLateRow.domain.isEmpty then [] else Tryz.f3.params.toList.map fun t => match Tryz.prog.underlying t with | some (.int k) => some k | _ => none)) = true := by kernel_rfl
theorem wf29 : (Rows.wholeLateRow.pinned == Rows.wholeLateRow.pinnedBy) = true := by kernel_rfl
theorem wf30 : (Rows.wholeLateRow.veiled == (Tryz.f3.params.toList ++ Rows.wholeLateSpec.plain.varTypes Tryz.prog ++ Tryz.f3.resultTypes.toList).any (Tryz.prog.veiledRec ·)) = true := by kernel_rfl
theorem wf31 : Rows.wholeLateRow.veiledFits Tryz.prog Tryz.f3.params.toList (Tryz.f3.params.toList ++ Rows.wholeLateSpec.plain.varTypes Tryz.prog ++ Tryz.f3.resultTypes.toList) = true := by kernel_rfl
end Go.Proofs.YtnnalcfdeldocaaGreatDoor.X
