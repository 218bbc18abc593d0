/- topNames: closed facts of the row: the light ones. -/
import Derived.Test.YtnnalcfdeldocaaGreatDoorRows
import Derived.JoinedOf
import Derived.KernelRfl
namespace Go.Proofs.YtnnalcfdeldocaaGreatDoor.X
open Go
set_option maxRecDepth 100000
theorem tf0 : Rows.topNamesRow.wf (OpenSpec.ofChange Rows.topNamesSpec) = true := by kernel_rfl
theorem tf3 : Tryz.f4.params.all (Tryz.prog.readableRec ·) = true := by kernel_rfl
theorem tf4 : namedTie Tryz.prog Rows.topNamesRow.named Rows.topNamesSpec.vars = true := by kernel_rfl
theorem tf5 : (Rows.topNamesRow.stops == []) = true := by kernel_rfl
theorem tf6 : (Tryz.prog.stops == []) = true := by kernel_rfl
theorem tf7 : (Rows.topNamesRow.knobs == []) = true := by kernel_rfl
theorem tf8 : (Tryz.prog.stopKnobs == []) = true := by kernel_rfl
theorem tf13 : (Rows.topNamesRow.maps == (Tryz.f4.params.toList ++ Rows.topNamesSpec.plain.varTypes Tryz.prog).any (Tryz.prog.mapsRec ·)) = true := by kernel_rfl
theorem tf14 : (Rows.topNamesRow.ifaces == (Tryz.f4.params.toList ++ Rows.topNamesSpec.plain.varTypes Tryz.prog).any (Tryz.prog.ifacesRec ·)) = true := by kernel_rfl
theorem tf15 : (Rows.topNamesRow.mapsOut == Tryz.prog.mapsAmong Tryz.f4.resultTypes.toList) = true := by kernel_rfl
theorem tf16 : (Rows.topNamesRow.loops == (Tryz.f4.params.toList ++ Rows.topNamesSpec.plain.varTypes Tryz.prog).any (Tryz.prog.loopsFrom ·)) = true := by kernel_rfl
theorem tf17 : (Rows.topNamesRow.wideKeys == (Tryz.f4.params.toList ++ Rows.topNamesSpec.plain.varTypes Tryz.prog ++ Tryz.f4.resultTypes.toList).any (Tryz.prog.wideKeysFrom ·)) = true := by kernel_rfl
theorem tf18 : Rows.topNamesSpec.vars.all (Tryz.prog.varReadable ·) = true := by kernel_rfl
theorem tf19 : Tryz.f4.resultTypes.all (fun t => Tryz.prog.readableRec t && decide (t < Tryz.prog.types.size)) = true := by kernel_rfl
theorem tf20 : (Rows.topNamesRow.ifacesOut == Tryz.f4.resultTypes.toList.any (Tryz.prog.ifacesRec ·)) = true := by kernel_rfl
theorem tf21 : (Rows.topNamesRow.loopsOut == Tryz.f4.resultTypes.toList.any (Tryz.prog.loopsFrom ·)) = true := by kernel_rfl
theorem tf22 : (Rows.topNamesRow.plainKeys == Tryz.prog.plainKeys) = true := by kernel_rfl
theorem tf23 : Rows.topNamesRow.shortTexts.isNone = true := by kernel_rfl
theorem tf26 : (Rows.topNamesRow.lifted == Tryz.prog.liftsFinal) = true := by kernel_rfl
theorem tf27 : (Tryz.prog.make == some Rows.topNamesRow.make) = true := by kernel_rfl
theorem tf28 : (Rows.topNamesRow.kinds == (if Rows.topNamesRow.domain.isEmpty then [] else Tryz.f4.params.toList.map fun t => match Tryz.prog.underlying t with | some (.int k) => some k | _ => none)) = true := by kernel_rfl
theorem tf29 : (Rows.topNamesRow.pinned == Rows.topNamesRow.pinnedBy) = true := by kernel_rfl
theorem tf30 : (Rows.topNamesRow.veiled == (Tryz.f4.params.toList ++ Rows.topNamesSpec.plain.varTypes Tryz.prog ++ Tryz.f4.resultTypes.toList).any (Tryz.prog.veiledRec ·)) = true := by kernel_rfl
theorem tf31 : Rows.topNamesRow.veiledFits Tryz.prog Tryz.f4.params.toList (Tryz.f4.params.toList ++ Rows.topNamesSpec.plain.varTypes Tryz.prog ++ Tryz.f4.resultTypes.toList) = true := by kernel_rfl
end Go.Proofs.YtnnalcfdeldocaaGreatDoor.X
