/- LinLooser: as its row hands the arguments. -/
import Derived.Test.YtmijalplheoekaaLi
import Derived.Test.YtmijalplheoekaaLw
namespace Go.Proofs.Ytmijalplheoekaa.P
open Go.RowKit Go.Proofs.YtmijalplheoekaaW.PrintWords Go.Proofs.YtmijalplheoekaaW.PrintLast Go.Proofs.YtmijalplheoekaaW.PrintMore
theorem pannierlaw25_LinLooser.walked (w : World) (A0 : Option Addr) (c0 : Nat) (l0 : List S31) (w0 : Kd.C k31 w A0 l0.length l0) (z0 : l0.length ≤ c0) (y0 : l0.length * Try.prog.bytesOf 31 ≤ reachBytes) (x0 : ∀ y ∈ l0, s31wf y)
    (A1 : Option Addr) (c1 : Nat) (l1 : List ByteArray) (w1 : Kd.C Kd.string w A1 l1.length l1) (z1 : l1.length ≤ c1) (y1 : l1.length * Try.prog.bytesOf 9 ≤ reachBytes) (x1 : ∀ y ∈ l1, y.size ≤ maxLen) (a2 : Int) (w2 : (Lit.int .i64 a2).wf = true) (a3 : Int) (w3 : (Lit.int .i64 a3).wf = true) :
    Calls Try.prog 6 #[.slice A0 l0.length c0, .slice A1 l1.length c1, .int .i64 a2, .int .i64 a3] w fun e w' => e = .returned (.bool true) ∧ Below w.heap.size w w' :=
  LinLooser.at A0 c0 l0 A1 c1 l1 a2 a3 w (CkArg.row w0 z0 y0 x0 w1 y1 x1) (by
    rw [bytes31] at y0
    have hr : reachBytes ≤ 140737488355328 := by decide
    omega) (wf_range w2) (fun x hx => by
    have h := x0 x hx
    have h1 := wf_range h.2.1
    have h2 := wf_range h.2.2.1
    exact ⟨h1.1, h1.2, h2.1, h2.2⟩)
end Go.Proofs.Ytmijalplheoekaa.P
