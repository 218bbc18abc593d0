/- LinRows: as its row hands the arguments. -/
import Derived.Test.YtmijalplheoekaaMf
import Derived.Test.YtmijalplheoekaaLw
namespace Go.Proofs.Ytmijalplheoekaa.P
open Go.RowKit Go.Proofs.YtmijalplheoekaaW.PrintWords Go.Proofs.YtmijalplheoekaaW.PrintLast Go.Proofs.YtmijalplheoekaaW.PrintMore
set_option linter.unusedVariables false
theorem pannierlaw25_LinRows.walked (w : World) (A0 : Option Addr) (c0 : Nat) (l0 : List S31) (w0 : Kd.C k31 w A0 l0.length l0) (z0 : l0.length ≤ c0) (y0 : l0.length * Try.prog.bytesOf 31 ≤ reachBytes) (x0 : ∀ y ∈ l0, s31wf y)
    (A1 : Option Addr) (c1 : Nat) (l1 : List ByteArray) (w1 : Kd.C Kd.string w A1 l1.length l1) (z1 : l1.length ≤ c1) (y1 : l1.length * Try.prog.bytesOf 9 ≤ reachBytes) (x1 : ∀ y ∈ l1, y.size ≤ maxLen) :
    Calls Try.prog 3 #[.slice A0 l0.length c0, .slice A1 l1.length c1] w fun e w' => e = .returned (.bool true) ∧ Below w.heap.size w w' :=
  LinRows.at A0 c0 l0 A1 c1 l1 w (CkArg.row w0 z0 y0 x0 w1 y1 x1) z1
end Go.Proofs.Ytmijalplheoekaa.P
