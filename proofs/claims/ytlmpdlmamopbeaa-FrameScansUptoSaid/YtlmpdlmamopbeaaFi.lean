/- FramePuts: check sums, and the frame of any payload, behind any bytes. -/
import Derived.Test.YtlmpdlmamopbeaaFh
namespace Go.Proofs.Ytlmpdlmamopbeaa.P
open Go.RowKit Go.Proofs.YtlmpdlmamopbeaaW.PrintWords Go.Proofs.YtlmpdlmamopbeaaW.PrintLast Go.Proofs.YtlmpdlmamopbeaaW.PrintMore
set_option linter.unusedVariables false
set_option linter.unusedSimpArgs false
/-- What Put answers of any payload. -/
def PutX (b : List Int) (p : ByteArray) : List Int := if 65536 < p.size then [] else PutL b p
def PutE (p : ByteArray) : Int := if 65536 < p.size then 20 else 0
theorem PutX_length (b : List Int) (p : ByteArray) : (PutX b p).length ≤ b.length + 65544 := by
  unfold PutX PutL
  split
  · simp
  · rw [List.length_append, List.length_append, headL_length, bytesOf_length]; omega
def PutPost (b : List Int) (p : ByteArray) (w : World) (e : Ending) (w' : World) : Prop := ∃ (A : Option Addr) (c : Nat), e = .returned (.tuple #[.slice A (PutX b p).length c, .int .i64 (PutE p)]) ∧ RB w' w.heap.size (.slice A (PutX b p).length c) (PutX b p) ∧ Below w.heap.size w w'
theorem Put.any (A0 : Option Addr) (c0 : Nat) (b : List Int) (p : ByteArray) (w : World) (hr : Kd.C (Kd.int .u8) w A0 b.length b) (hl : b.length ≤ 70368744177664) : Calls Try.prog 9 #[.slice A0 b.length c0, .string p] w (PutPost b p w) := by
  by_cases q : 65536 < p.size
  · refine (Put.long A0 c0 b.length p q w).mono fun e w' h => ⟨none, 0, ?_, ?_, h.2⟩
    · unfold PutX PutE; rw [if_pos q, if_pos q]; exact h.1
    · unfold PutX; rw [if_pos q]; exact Kd.R_nil _ _ _ _ _
  · refine (Put.at A0 c0 b p (by omega) w hr hl).mono ?_
    rintro e w' ⟨v, rfl, ho, hb⟩
    obtain ⟨A, c, rfl⟩ := Kd.R_slice ho
    refine ⟨A, c, ?_, ?_, hb⟩
    · unfold PutX PutE; rw [if_neg q, if_neg q]
    · unfold PutX; rw [if_neg q]; exact ho
theorem refPut.any (A0 : Option Addr) (c0 : Nat) (b : List Int) (p : ByteArray) (w : World) (hr : Kd.C (Kd.int .u8) w A0 b.length b) (hl : b.length ≤ 70368744177664) : Calls Try.prog 10 #[.slice A0 b.length c0, .string p] w (PutPost b p w) := by
  by_cases q : 65536 < p.size
  · refine (refPut.long A0 c0 b.length p q w).mono fun e w' h => ⟨none, 0, ?_, ?_, h.2⟩
    · unfold PutX PutE; rw [if_pos q, if_pos q]; exact h.1
    · unfold PutX; rw [if_pos q]; exact Kd.R_nil _ _ _ _ _
  · refine (refPut.at A0 c0 b p (by omega) w hr hl).mono ?_
    rintro e w' ⟨v, rfl, ho, hb⟩
    obtain ⟨A, c, rfl⟩ := Kd.R_slice ho
    refine ⟨A, c, ?_, ?_, hb⟩
    · unfold PutX PutE; rw [if_neg q, if_neg q]
    · unfold PutX; rw [if_neg q]; exact ho
theorem RB.C {W : World} {base n c : Nat} {A : Option Addr} {xs : List Int} (h : RB W base (.slice A n c) xs) : Kd.C (Kd.int .u8) W A xs.length xs := (Kd.R_reads' h).2.2
theorem RB.str {W : World} {base c : Nat} {A : Option Addr} {xs : List Int} (h : RB W base (.slice A xs.length c) xs) : (convert 22 9 (.slice A xs.length c)).run Try.prog W = .ok (.string (strOfNums xs)) W := Kd.C_string (P := Try.prog) Try.underlying22 Try.underlying5 Try.underlying9 h.C
set_option maxHeartbeats 4000000 in
set_option maxRecDepth 100000 in
theorem FramePuts.at (A0 : Option Addr) (c0 : Nat) (b : List Int) (p : ByteArray) (w : World) (hr : Kd.C (Kd.int .u8) w A0 b.length b) (hc : b.length ≤ c0) (hb : Bts b) (hl : b.length ≤ 1048576) :
    Calls Try.prog 3 #[.slice A0 b.length c0, .string p] w fun e w' => e = .returned (.bool true) ∧ Below w.heap.size w w' := by
  have HR := Aside0.mk hr
  have HC := Aside0.mk hc
  have HBt := Aside0.mk hb
  have HL := Aside0.mk hl
  clear hr hc hb hl
  go_enter Try.func3, Try.ntmps3
  go_wp2_with (first
    | ((with_reducible refine gate_dst (N := 10) rfl ?_); refine Kd.R_lit (Kd.int .u8) (w0 := w) (w).heap.size 5 ?hg (N := 10) ?hd (xs := ([] : List Int)) (inner := []) (ok := fun _ => True) (okp := fun _ => True) ?hr ?hp (fun _ hk => hk) trivial (Below.refl w.heap.size w) ((Below.refl w.heap.size w)).size (by simp) ?_; (case hd => rfl); (case hg => rfl); (case hr => first | (go_simp; done) | (go_simp; rfl)); (case hp => exact (Reps.none _ _)); intro v1 w1 ho hb hg_ hnew_; clear hg_ hnew_; have H1 : Aside0 (RB w1 (w).heap.size v1 []) := ⟨ho⟩; have HB1 := Aside0.mk hb; clear hb ho)
    | ((with_reducible refine gate_builtin (b := .append) (xs := #[.tmp 10, .tmp 11]) rfl ?_); at_builtin; refine appR (w0 := w) (w).heap.size rfl (.tmp 10) (.tmp 11) rfl v1 [] b _ _ rfl rfl H1.out (Kd.C_below HR.out HB1.out) HB1.out HB1.out.size ?hl ?_; (case hl => have := HL.out; simp only [List.length_nil]; omega); intro v2 w2 ho hb; have H2 := Aside0.mk ho; have HB2 := Aside0.mk hb; clear ho hb)
    | fail)
  rw [List.nil_append] at H2
  obtain ⟨A2, c2, rfl⟩ := Kd.R_slice H2.out
  refine (Put.any A2 c2 b p _ H2.out.C (by have := HL.out; omega)).mono ?_
  rintro e w3 ⟨A3, c3, rfl, h3, hb⟩
  have H3 := Aside0.mk h3
  have H2' : Aside0 (RB w3 w.heap.size (.slice A2 b.length c2) b) := ⟨RB.below H2.out hb⟩
  have HB3 : Aside0 (Below w.heap.size w w3) := ⟨below_step HB2.out hb⟩
  clear h3 hb H1 HB1 H2 HB2
  go_wp2_with fail
  refine (refPut.any A0 c0 b p _ (Kd.C_below HR.out HB3.out) (by have := HL.out; omega)).mono ?_
  rintro e w4 ⟨A4, c4, rfl, h4, hb⟩
  have H4 := Aside0.mk h4
  have H3' : Aside0 (RB w4 w2.heap.size (.slice A3 (PutX b p).length c3) (PutX b p)) := ⟨RB.below H3.out hb⟩
  have H2 : Aside0 (RB w4 w.heap.size (.slice A2 b.length c2) b) := ⟨RB.below H2'.out hb⟩
  have HB4 : Aside0 (Below w.heap.size w w4) := ⟨below_step HB3.out hb⟩
  clear h4 hb H2' HB3 H3
  go_wp2_with fail
  refine (lives.at _).mono ?_
  rintro e w5 ⟨rfl, hb⟩
  have h3 := (RB.below H3'.out hb).str
  have h4 := (RB.below H4.out hb).str
  have h2 := (RB.below H2.out hb).str
  have HB5 : Aside0 (Below w.heap.size w w5) := ⟨below_step HB4.out hb⟩
  have H5 : Aside0 (RB w5 w.heap.size (.slice A2 b.length c2) b) := ⟨RB.below H2.out hb⟩
  have h0 : (convert 22 9 (.slice A0 b.length c0)).run Try.prog w5 = .ok (.string (strOfNums b)) w5 := Kd.C_string (P := Try.prog) Try.underlying22 Try.underlying5 Try.underlying9 (Kd.C_below HR.out HB5.out)
  obtain ⟨X, eX⟩ : ∃ X, PutX b p = X := ⟨_, rfl⟩
  rw [eX] at h3 h4 ⊢
  clear eX hb H4 H3' H2 HB4
  go_wp2_with fail
  refine (Sum.at A2 c2 b _ H5.out.C HBt.out (by have := HL.out; omega)).mono ?_
  rintro e w6 ⟨rfl, hb⟩
  have HB6 : Aside0 (Below w.heap.size w w6) := ⟨below_step HB5.out hb⟩
  clear hb h3 h4 h2 h0
  go_wp2_with fail
  refine (refSum_at A0 c0 b _ (Kd.C_below HR.out HB6.out) HC.out HBt.out (by have := HL.out; omega)).mono ?_
  rintro e w7 ⟨rfl, hb⟩
  have HB7 : Aside0 (Below w.heap.size w w7) := ⟨below_step HB6.out hb⟩
  clear hb
  go_wp2
  go_ret
  exact ⟨rfl, HB7.out⟩
theorem pannierlaw02_FramePuts.walked (w : World) (A0 : Option Addr) (c0 : Nat) (b : List Int) (hr : Kd.C (Kd.int .u8) w A0 b.length b) (hc : b.length ≤ c0) (hb : Bts b) (hl : b.length ≤ 1048576) (p : ByteArray) (hp : p.size ≤ 1048576) :
    Calls Try.prog 3 #[.slice A0 b.length c0, .string p] w fun e w' => e = .returned (.bool true) ∧ Below w.heap.size w w' := FramePuts.at A0 c0 b p w hr hc hb hl
end Go.Proofs.Ytlmpdlmamopbeaa.P
