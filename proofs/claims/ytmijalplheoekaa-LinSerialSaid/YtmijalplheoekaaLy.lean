/- LinSerial: as its row hands the argument. -/
import Derived.Test.YtmijalplheoekaaLs
import Derived.Test.YtmijalplheoekaaLw
namespace Go.Proofs.Ytmijalplheoekaa.P
open Go.RowKit Go.Proofs.YtmijalplheoekaaW.PrintWords Go.Proofs.YtmijalplheoekaaW.PrintLast Go.Proofs.YtmijalplheoekaaW.PrintMore
set_option linter.unusedVariables false
theorem pannierlaw25_LinSerial.walked (w : World) (A0 : Option Addr) (c0 : Nat) (l0 : List S31) (w0 : Kd.C k31 w A0 l0.length l0) (z0 : l0.length ≤ c0) (y0 : l0.length * Try.prog.bytesOf 31 ≤ reachBytes) (x0 : ∀ y ∈ l0, s31wf y) :
    Calls Try.prog 5 #[.slice A0 l0.length c0] w fun e w' => e = .returned (.bool true) ∧ Below w.heap.size w w' :=
  LinSerial.at A0 c0 l0 w w0 (by
    rw [bytes31] at y0
    have hr : reachBytes ≤ 140737488355328 := by decide
    omega) (fun x hx => (x0 x hx).1)
end Go.Proofs.Ytmijalplheoekaa.P
