/- LinFewer: as its row hands the arguments. -/
import Derived.Test.YtmijalplheoekaaLh
import Derived.Test.YtmijalplheoekaaLo
namespace Go.Proofs.Ytmijalplheoekaa.P
open Go.RowKit Go.Proofs.YtmijalplheoekaaW.PrintWords Go.Proofs.YtmijalplheoekaaW.PrintLast Go.Proofs.YtmijalplheoekaaW.PrintMore
theorem bytes31 : Try.prog.bytesOf 31 = 48 := by kernel_rfl
theorem bytes9 : Try.prog.bytesOf 9 = 16 := by kernel_rfl
theorem wf_range {x : Int} (h : (Lit.int .i64 x).wf = true) : -9223372036854775808 ≤ x ∧ x ≤ 9223372036854775807 := by
  simp only [Lit.wf, IntKind.min, IntKind.max, IntKind.signed, IntKind.bits, Bool.and_eq_true, decide_eq_true_eq, if_true] at h
  omega
theorem CkArg.row {w : World} {A0 A1 : Option Addr} {c0 c1 : Nat} {l0 : List S31} {l1 : List ByteArray} (w0 : Kd.C k31 w A0 l0.length l0) (z0 : l0.length ≤ c0) (y0 : l0.length * Try.prog.bytesOf 31 ≤ reachBytes) (x0 : ∀ y ∈ l0, s31wf y)
    (w1 : Kd.C Kd.string w A1 l1.length l1) (y1 : l1.length * Try.prog.bytesOf 9 ≤ reachBytes) (x1 : ∀ y ∈ l1, y.size ≤ maxLen) : CkArg w A0 c0 l0 A1 c1 l1 := by
  rw [bytes31] at y0
  rw [bytes9] at y1
  have hr : reachBytes ≤ 140737488355328 := by decide
  exact ⟨w0, w1, z0, by omega, by omega, fun x hx => (x0 x hx).1, x1⟩
theorem pannierlaw25_LinFewer.walked (w : World) (A0 : Option Addr) (c0 : Nat) (l0 : List S31) (w0 : Kd.C k31 w A0 l0.length l0) (z0 : l0.length ≤ c0) (y0 : l0.length * Try.prog.bytesOf 31 ≤ reachBytes) (x0 : ∀ y ∈ l0, s31wf y)
    (A1 : Option Addr) (c1 : Nat) (l1 : List ByteArray) (w1 : Kd.C Kd.string w A1 l1.length l1) (z1 : l1.length ≤ c1) (y1 : l1.length * Try.prog.bytesOf 9 ≤ reachBytes) (x1 : ∀ y ∈ l1, y.size ≤ maxLen) (a2 : Int) (w2 : (Lit.int .i64 a2).wf = true) :
    Calls Try.prog 4 #[.slice A0 l0.length c0, .slice A1 l1.length c1, .int .i64 a2] w fun e w' => e = .returned (.bool true) ∧ Below w.heap.size w w' :=
  LinFewer.at A0 c0 l0 A1 c1 l1 a2 w (CkArg.row w0 z0 y0 x0 w1 y1 x1) (by rw [bytes31] at y0; have hr : reachBytes ≤ 140737488355328 := by decide
                                                                          omega) (wf_range w2)
end Go.Proofs.Ytmijalplheoekaa.P
