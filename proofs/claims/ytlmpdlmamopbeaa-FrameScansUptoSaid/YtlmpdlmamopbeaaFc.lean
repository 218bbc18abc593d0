/- Sum, Clone, number and head, in plain words. -/
import Derived.Test.YtlmpdlmamopbeaaFb
import Derived.WalkSpells
namespace Go.Proofs.Ytlmpdlmamopbeaa.P
open Go.RowKit Go.Proofs.YtlmpdlmamopbeaaW.PrintWords Go.Proofs.YtlmpdlmamopbeaaW.PrintLast Go.Proofs.YtlmpdlmamopbeaaW.PrintMore
set_option linter.unusedVariables false
set_option linter.unusedSimpArgs false
set_option maxHeartbeats 2000000 in
set_option maxRecDepth 100000 in
theorem Sum.at (A0 : Option Addr) (c0 : Nat) (b : List Int) (w : World) (hr : Kd.C (Kd.int .u8) w A0 b.length b) (hb : Bts b) (hl : b.length < 4611686018427387904) :
    Calls Try.prog 12 #[.slice A0 b.length c0] w fun e w' => e = .returned (.int .u32 ((crc b : Nat) : Int)) ∧ Below w.heap.size w w' := by
  have HR := Aside0.mk hr
  have HBt := Aside0.mk hb
  have HL := Aside0.mk hl
  clear hr hb hl
  have HB := Aside0.mk (Below.refl w.heap.size w)
  obtain ⟨R, eR⟩ : ∃ R, crcF b 4294967295 = R := ⟨_, rfl⟩
  have HRr : Aside0 (crc b = R ^^^ 4294967295 ∧ R < 2 ^ 32) := ⟨by rw [← eR]; exact ⟨rfl, crcF_lt HBt.out (by decide)⟩⟩
  have HStep : Aside0 (∀ (W : World) (y : Nat), y < 2 ^ 32 → Calls Try.prog 20 #[.int .u32 (y : Int)] W fun e w' => e = .returned (.int .u32 ((stN 8 y : Nat) : Int)) ∧ Below W.heap.size W w') := ⟨fun W y hy => (frame_step.calls 9 _ _ W (step_f hy)).mono fun e w' h => ⟨h.1, Drawn0.below h.2⟩⟩
  go_enter Try.func12, Try.ntmps12
  go_wp2
  go_loopg [3, 8] b.length (fun kq v3 v8 wc => ∃ (x : Nat) (i : Int), v3 = .int .u32 (x : Int) ∧ v8 = .int .i64 i ∧ Aside0 (∃ j : Nat, i = (j : Int) ∧ j + kq = b.length ∧ x < 2 ^ 32 ∧ crcF (b.drop j) x = R) ∧ Aside0 (Below w.heap.size w wc))
  case atStart => exact ⟨4294967295, 0, rfl, rfl, ⟨0, rfl, by omega, by decide, eR⟩, HB⟩
  case round =>
    clear HB
    obtain ⟨x, i, rfl, rfl, HJ, HB⟩ := hrel
    cases gk with
    | zero =>
      have c0b : decide (i < (b.length : Int)) = false := decide_eq_false (by obtain ⟨j, e, hj, _⟩ := HJ.out; omega)
      have HX : Aside0 (x = R) := ⟨by
        obtain ⟨j, e, hj, _, h⟩ := HJ.out
        rw [List.drop_eq_nil_of_le (by omega)] at h
        exact h⟩
      clear HJ
      go_wp2
      go_ret
      refine ⟨?_, HB.out⟩
      have e1 : Go.bits .xor .u32 IntKind.u32.max (x : Int) = ((crc b : Nat) : Int) := by
        rw [show IntKind.u32.max = ((4294967295 : Nat) : Int) from by decide, HX.out, bits_xor (by decide) HRr.out.2, Nat.xor_comm, HRr.out.1]
      rw [← e1]
      rfl
    | succ m =>
      have c0b : decide (i < (b.length : Int)) = true := decide_eq_true (by obtain ⟨j, e, hj, _⟩ := HJ.out; omega)
      have hx1 : IntKind.i64.wrap (i + 1) = i + 1 := by rw [i64_w]; unfold wrap64; obtain ⟨j, e, hj, _⟩ := HJ.out; have := HL.out; omega
      have c1 : 0 ≤ i := by obtain ⟨j, e, hj, _⟩ := HJ.out; omega
      have c2 : i < (b.length : Int) := by obtain ⟨j, e, hj, _⟩ := HJ.out; omega
      obtain ⟨ad, e129, hx129⟩ := Kd.at_int (Kd.C_below HR.out HB.out) i c1 c2
      cases e129
      replace c1 := eq_true c1
      replace c2 := eq_true c2
      go_wp2_with fail
      obtain ⟨c, ec⟩ : ∃ c : Nat, rd b i = (c : Int) ∧ c < 256 := by
        have := rd_bts HBt.out i
        exact ⟨(rd b i).toNat, by omega, by omega⟩
      have HCc := Aside0.mk ec
      have hx : x < 2 ^ 32 := by obtain ⟨j, e, hj, h, _⟩ := HJ.out; exact h
      have HXx := Aside0.mk hx
      rw [show Go.bits .and .u32 (Go.bits .xor .u32 (x : Int) (rd b i % 4294967296)) 255 = (((x ^^^ c) % 256 : Nat) : Int) from by
        rw [ec.1, show ((c : Nat) : Int) % 4294967296 = (c : Nat) by omega, bits_xor hx (by omega), bits_and255 (Nat.xor_lt_two_pow hx (by omega))]]
      have hb2 : Go.bits .xor .u32 ((x : Int) / 256) ((stN 8 ((x ^^^ c) % 256) : Nat) : Int) = ((crcU x c : Nat) : Int) := by
        rw [show (x : Int) / 256 = ((x / 256 : Nat) : Int) by omega, bits_xor (by omega) (stN_lt 8 (by omega)), crcU_low x c ec.2]
      clear ec hx
      refine (HStep.out _ _ (by omega)).mono ?_
      rintro e w2 ⟨rfl, hb⟩
      have HB2 := Aside0.mk (below_step HB.out hb)
      clear hb
      go_wp2
      go_roundg m
      case measure => omega
      case rel => exact ⟨crcU x c, i + 1, rfl, rfl, ⟨by
        obtain ⟨j, e, hj, h, hR⟩ := HJ.out
        refine ⟨j + 1, by omega, by omega, crcU_lt h HCc.out.2, ?_⟩
        have hjl : j < b.length := by omega
        rw [List.drop_eq_getElem_cons hjl] at hR
        have e2 : b[j] = (c : Int) := by rw [← rd_get hjl, ← e]; exact HCc.out.1
        rw [e2] at hR
        exact hR⟩, HB2⟩
theorem Clone.at (A0 : Option Addr) (c0 : Nat) (b : List Int) (w : World) (hr : Kd.C (Kd.int .u8) w A0 b.length b) (hl : b.length < 140737488355328) :
    Calls Try.prog 22 #[.slice A0 b.length c0] w fun e w' => ∃ v0_ : Value, e = .returned v0_ ∧ Kd.R (Kd.int .u8) 5 w' w.heap.size (fun _ => True) v0_ b ∧ Below w.heap.size w w' := by
  have HR0 := Aside0.mk hr
  have HL := Aside0.mk hl
  clear hr hl
  have HB := Aside0.mk (Below.refl w.heap.size w)
  have hn := fun (w : World) (a : Option Addr) (n c n' c' : Nat) => Lib.run_eql_slice_nil (P := Try.prog) w 22 5 a n c n' c' Try.underlying22
  rcases A0 with _ | ad
  · have e0 : b = [] := by
      cases b with
      | nil => rfl
      | cons x xs => obtain ⟨ad, e, _⟩ := Kd.at_int HR0.out 0 (by omega) (by simp); cases e
    subst e0
    go_enter Try.func22, Try.ntmps22
    go_wp2
    go_ret
    exact ⟨_, rfl, Kd.R_nil _ _ _ _ _, Below.refl _ _⟩
  · go_enter Try.func22, Try.ntmps22
    go_wp2_with (first
      | ((with_reducible refine gate_dst (N := 5) rfl ?_); refine Kd.R_lit (Kd.int .u8) _ 5 ?hg (N := 5) ?hd (xs := ([] : List Int)) (inner := []) (ok := fun _ => True) (okp := fun _ => True) ?hr ?hp (fun _ hk => hk) trivial (Below.refl _ _) (Nat.le_refl _) (by simp) ?_; (case hd => rfl); (case hg => rfl); (case hr => first | (go_simp; done) | (go_simp; rfl)); (case hp => exact (Reps.none _ _)); intro v1 w1 ho1 hb hg_ hnew_; clear hg_ hnew_; have HO1 := Aside0.mk ho1; have HB1 := Aside0.mk hb; clear HB hb ho1)
      | ((with_reducible refine gate_builtin (b := .append) (xs := #[.tmp 5, .tmp 6]) rfl ?_); at_builtin; refine Kd.R_append_rows (Kd.int .u8) (w0 := w) w.heap.size rfl (.tmp 5) (.tmp 6) 22 5 (.int .u8 0) 1 rfl Try.underlying22 info5 rfl (by decide) (by omega) v1 ([] : List Int) b _ _ _ (fun _ => True) (fun _ => False) rfl rfl ?aO ?aR (fun _ _ h => h) (fun _ h => h.elim) ?aF ?aB ?aS ?aL ?_; (case aR => exact Kd.C_below HR0.out HB1.out); (case aB => exact HB1.out); (case aF => exact (fun _ _ => trivial)); (case aO => exact HO1.out); (case aS => exact HB1.out.size); (case aL => have := HL.out; simp; omega); intro v2 w2 ho hb hg hat; rw [List.nil_append] at ho; have HO2 := Aside0.mk ho; have HB2 := Aside0.mk hb; clear HB1 HO1 ho hb hg hat))
    go_ret
    exact ⟨_, rfl, HO2.out, HB2.out⟩
theorem bits_or {a b : Nat} (ha : a < 2 ^ 32) (hb : b < 2 ^ 32) : Go.bits .or .u32 (a : Int) (b : Int) = ((a ||| b : Nat) : Int) := by
  have h := Nat.or_lt_two_pow ha hb
  unfold Go.bits
  show IntKind.wrap .u32 _ = _
  simp only [BitVec.toNat_or, BitVec.ofInt_natCast, BitVec.toNat_ofNat]
  show IntKind.wrap .u32 (((a % 2 ^ 32) ||| (b % 2 ^ 32) : Nat) : Int) = _
  rw [Nat.mod_eq_of_lt ha, Nat.mod_eq_of_lt hb]
  simp only [IntKind.wrap, IntKind.signed, IntKind.bits]
  first | omega | (simp; omega)
theorem or4 {a b c d : Nat} (ha : a < 256) (hb : b < 256) (hc : c < 256) (hd : d < 256) : ((a * 16777216 ||| b * 65536) ||| c * 256) ||| d = a * 16777216 + b * 65536 + c * 256 + d := by
  have h1 : a * 16777216 ||| b * 65536 = a * 16777216 + b * 65536 := by
    have := Nat.two_pow_add_eq_or_of_lt (i := 24) (b := b * 65536) (by omega) a
    rw [show a * 16777216 = 2 ^ 24 * a by omega]
    exact this.symm
  have h2 : (a * 16777216 + b * 65536) ||| c * 256 = a * 16777216 + b * 65536 + c * 256 := by
    have := Nat.two_pow_add_eq_or_of_lt (i := 16) (b := c * 256) (by omega) (a * 256 + b)
    rw [show a * 16777216 + b * 65536 = 2 ^ 16 * (a * 256 + b) by omega]
    exact this.symm
  have h3 : (a * 16777216 + b * 65536 + c * 256) ||| d = a * 16777216 + b * 65536 + c * 256 + d := by
    have := Nat.two_pow_add_eq_or_of_lt (i := 8) (b := d) (by omega) (a * 65536 + b * 256 + c)
    rw [show a * 16777216 + b * 65536 + c * 256 = 2 ^ 8 * (a * 65536 + b * 256 + c) by omega]
    exact this.symm
  rw [h1, h2, h3]
theorem number_or {x0 x1 x2 x3 : Int} (h0 : 0 ≤ x0 ∧ x0 < 256) (h1 : 0 ≤ x1 ∧ x1 < 256) (h2 : 0 ≤ x2 ∧ x2 < 256) (h3 : 0 ≤ x3 ∧ x3 < 256) :
    Go.bits .or .u32 (Go.bits .or .u32 (Go.bits .or .u32 (x0 % 4294967296 * 16777216 % 4294967296) (x1 % 4294967296 * 65536 % 4294967296)) (x2 % 4294967296 * 256 % 4294967296)) (x3 % 4294967296) = ((x0.toNat * 16777216 + x1.toNat * 65536 + x2.toNat * 256 + x3.toNat : Nat) : Int) := by
  have e0 : x0 % 4294967296 * 16777216 % 4294967296 = ((x0.toNat * 16777216 : Nat) : Int) := by omega
  have e1 : x1 % 4294967296 * 65536 % 4294967296 = ((x1.toNat * 65536 : Nat) : Int) := by omega
  have e2 : x2 % 4294967296 * 256 % 4294967296 = ((x2.toNat * 256 : Nat) : Int) := by omega
  have e3 : x3 % 4294967296 = ((x3.toNat : Nat) : Int) := by omega
  rw [e0, e1, e2, e3, bits_or (by omega) (by omega), bits_or (Nat.or_lt_two_pow (by omega) (by omega)) (by omega), bits_or (Nat.or_lt_two_pow (Nat.or_lt_two_pow (by omega) (by omega)) (by omega)) (by omega), or4 (by omega) (by omega) (by omega) (by omega)]
theorem number.at (A0 : Option Addr) (c0 : Nat) (b : List Int) (w : World) (hr : Kd.C (Kd.int .u8) w A0 b.length b) (hb : Bts b) (h4 : 4 ≤ b.length) :
    Calls Try.prog 26 #[.slice A0 b.length c0] w fun e w' => e = .returned (.int .u32 ((numL b : Nat) : Int)) ∧ Below w.heap.size w w' := by
  obtain ⟨ad, e0, h0⟩ := Kd.at_int hr 0 (by omega) (by omega)
  obtain ⟨ad1, e1, h1⟩ := Kd.at_int hr 1 (by omega) (by omega)
  obtain ⟨ad2, e2, h2⟩ := Kd.at_int hr 2 (by omega) (by omega)
  obtain ⟨ad3, e3, h3⟩ := Kd.at_int hr 3 (by omega) (by omega)
  subst e0
  injection e1 with e1; subst e1
  injection e2 with e2; subst e2
  injection e3 with e3; subst e3
  try simp only [show (1 : Int).toNat = 1 from rfl, Nat.reduceMul, Nat.reduceEqDiff, Go.Addr.add, ↓reduceIte] at h1
  try simp only [show (2 : Int).toNat = 2 from rfl, Nat.reduceMul, Nat.reduceEqDiff, Go.Addr.add, ↓reduceIte] at h2
  try simp only [show (3 : Int).toNat = 3 from rfl, Nat.reduceMul, Nat.reduceEqDiff, Go.Addr.add, ↓reduceIte] at h3
  rw [show ((0 : Int)).toNat = 0 from rfl, Addr.add_zero'] at h0
  have l0 : (0 < b.length) = True := eq_true (by omega)
  have l1 : (1 < b.length) = True := eq_true (by omega)
  have l2 : (2 < b.length) = True := eq_true (by omega)
  have l3 : (3 < b.length) = True := eq_true (by omega)
  have m0 : decide (0 < b.length) = true := decide_eq_true (by omega)
  have m1 : decide (1 < b.length) = true := decide_eq_true (by omega)
  have m2 : decide (2 < b.length) = true := decide_eq_true (by omega)
  have m3 : decide (3 < b.length) = true := decide_eq_true (by omega)
  have k0 : (0 < (b.length : Int)) = True := eq_true (by omega)
  have k1 : (1 < (b.length : Int)) = True := eq_true (by omega)
  have k2 : (2 < (b.length : Int)) = True := eq_true (by omega)
  have k3 : (3 < (b.length : Int)) = True := eq_true (by omega)
  have HBt := Aside0.mk hb
  clear h4 hr hb
  go_enter Try.func26, Try.ntmps26
  go_wp2
  repeat (go_quiet (fail); try go_wp2)
  go_ret
  refine ⟨?_, by first | exact Below.refl _ _ | exact pw_below_drewN (Below.refl _ _) _ | exact (Below.refl _ _).drew⟩
  have e := number_or (rd_bts HBt.out 0) (rd_bts HBt.out 1) (rd_bts HBt.out 2) (rd_bts HBt.out 3)
  unfold numL
  rw [← e]
  rfl
end Go.Proofs.Ytlmpdlmamopbeaa.P
