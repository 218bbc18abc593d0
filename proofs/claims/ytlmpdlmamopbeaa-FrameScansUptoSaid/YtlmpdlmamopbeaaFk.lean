/- FrameAgain: the payloads that are found, put again, are the frames' bytes. -/
import Derived.Test.YtlmpdlmamopbeaaFj
namespace Go.Proofs.Ytlmpdlmamopbeaa.P
open Go.RowKit Go.Proofs.YtlmpdlmamopbeaaW.PrintWords Go.Proofs.YtlmpdlmamopbeaaW.PrintLast Go.Proofs.YtlmpdlmamopbeaaW.PrintMore
set_option linter.unusedVariables false
set_option linter.unusedSimpArgs false
theorem totS_take (l : List ByteArray) (j : Nat) : totS (l.take j) ≤ totS l := by
  have := totS_append (l.take j) (l.drop j)
  rw [List.take_append_drop] at this
  omega
set_option maxHeartbeats 4000000 in
set_option maxRecDepth 100000 in
theorem FrameAgain.at (A0 : Option Addr) (c0 : Nat) (b : List Int) (w : World) (hr : Kd.C (Kd.int .u8) w A0 b.length b) (hc : b.length ≤ c0) (hb : Bts b) (hl : b.length ≤ 1048576) :
    Calls Try.prog 8 #[.slice A0 b.length c0] w fun e w' => e = .returned (.bool true) ∧ Below w.heap.size w w' := by
  have HR := Aside0.mk hr
  have HC := Aside0.mk hc
  have HBt := Aside0.mk hb
  have HL := Aside0.mk hl
  have HSp := Aside0.mk (scan_spec hb)
  clear hr hc hb hl
  go_enter Try.func8, Try.ntmps8
  go_wp2_with fail
  refine (Scan.plain A0 c0 b w HR.out HBt.out (by have := HL.out; omega)).mono ?_
  rintro e w1 ⟨A, c, rfl, ho, hb⟩
  obtain ⟨K, eK⟩ : ∃ K, scanS b = K := ⟨_, rfl⟩
  rw [eK] at ho HSp ⊢
  have HO := Aside0.mk ho
  have HB1 := Aside0.mk hb
  obtain ⟨t, et⟩ : ∃ t, totS K = t := ⟨_, rfl⟩
  have HT : Aside0 (t ≤ b.length ∧ catF K = b.take t ∧ totS K = t) := ⟨by rw [← et]; exact ⟨HSp.out.2.1, HSp.out.2.2, rfl⟩⟩
  have HSz : Aside0 (∀ s ∈ K, s.size ≤ 65536) := ⟨HSp.out.1⟩
  have HKl : Aside0 (K.length ≤ 1048576) := ⟨by
    have h1 := HSp.out.2.1
    have h2 : ∀ l : List ByteArray, l.length ≤ totS l := fun l => by
      induction l with
      | nil => exact Nat.le_refl _
      | cons s r ih => rw [totS_cons, List.length_cons]; omega
    have := h2 K
    have := HL.out
    omega⟩
  rw [et]
  clear eK ho hb HSp et
  go_wp2_with fail
  refine (lives.at _).mono ?_
  rintro e w2 ⟨rfl, hb⟩
  have HB2 : Aside0 (Below w1.heap.size w1 w2) := ⟨hb⟩
  have k1 : decide ((t : Int) < 0) = false := decide_eq_false (by omega)
  have k2 : decide (b.length < t) = false := decide_eq_false (by have := HT.out.1; omega)
  clear hb
  go_wp2
  go_loopg [5, 6] K.length (fun kq v5 v6 wc => ∃ (x : Int) (A5 : Option Addr) (n5 c5 : Nat), v5 = .slice A5 n5 c5 ∧ v6 = .int .i64 x ∧ Aside0 (∃ j : Nat, x = (j : Int) ∧ j + kq = K.length ∧ n5 = (catF (K.take j)).length ∧ RB wc w1.heap.size (.slice A5 n5 c5) (catF (K.take j))) ∧ Aside0 (Below w1.heap.size w1 wc))
  case atStart => exact ⟨0, none, 0, 0, rfl, rfl, ⟨0, rfl, by omega, rfl, Kd.R_nil _ _ _ _ _⟩, HB2⟩
  case round =>
    clear HB2
    obtain ⟨x, A5, n5, c5, rfl, rfl, HJ, HB⟩ := hrel
    cases gk with
    | zero =>
      have c0b : decide (x < (K.length : Int)) = false := decide_eq_false (by obtain ⟨j, e, hj, _⟩ := HJ.out; omega)
      have hall : n5 = t ∧ RB wr w1.heap.size (.slice A5 n5 c5) (b.take t) := by
        obtain ⟨j, e, hj, hn, hrow⟩ := HJ.out
        rw [List.take_of_length_le (by omega)] at hn hrow
        rw [HT.out.2.1] at hrow
        rw [catF_length, HT.out.2.2] at hn
        exact ⟨hn, hrow⟩
      obtain ⟨e5, hrow⟩ := hall
      subst e5
      have HRow := Aside0.mk hrow
      clear HJ hrow
      obtain ⟨i0, hi0, _, hsz, _⟩ := info_parts info5
      obtain ⟨hcut, hA, hC⟩ := print_take_of (P := Try.prog) (Value.int .u8) 0 22 5 .i64 Try.underlying22 hi0 hsz A0 c0 b (n5 : Int) (by omega) (by have := HT.out.1; omega) HC.out
      rw [Int.toNat_natCast] at hcut hA hC
      have hlt : (b.take n5).length = n5 := by rw [List.length_take]; have := HT.out.1; omega
      obtain ⟨Z, eZ⟩ : ∃ Z, strOfNums (b.take n5) = Z := ⟨_, rfl⟩
      have HCv : Aside0 (∀ W, Below wr.heap.size wr W → (convert 22 9 (.slice A5 n5 c5)).run Try.prog W = .ok (.string Z) W ∧ (convert 22 9 (.slice A0 n5 c0)).run Try.prog W = .ok (.string Z) W) := ⟨fun W hb => by
        have h1 := (RB.below (by rw [hlt]; exact HRow.out : RB wr w1.heap.size (.slice A5 (b.take n5).length c5) (b.take n5)) hb).str
        have h2 := Kd.C_string (P := Try.prog) (c := c0) Try.underlying22 Try.underlying5 Try.underlying9 (Kd.C_of_reads (enc := Value.int .u8) (h1 := fun _ => rfl) (hA _ (Kd.reads_of_C (Kd.C_below HR.out (below_step HB1.out (below_step HB.out hb))))))
        rw [hlt, eZ] at h1
        rw [hlt, eZ] at h2
        exact ⟨h1, h2⟩⟩
      rw [hlt] at hcut
      have hcn : (n5 ≤ c0) = True := eq_true (by have := HT.out.1; have := HC.out; omega)
      have HBd : Aside0 (Below wr.heap.size wr wr.drew) := ⟨(Below.refl _ _).drew⟩
      clear hi0 hsz hA hC hlt eZ
      go_upto_region 9 with (fail)
      refine start_ (n := 8) (S := fun w' => (convert 22 9 (.slice A5 n5 c5)).run Try.prog w' = .ok (.string Z) w' ∧ (convert 22 9 (.slice A0 n5 c0)).run Try.prog w' = .ok (.string Z) w') (ds := []) #[false, false, false, false, false, false, false, false] (by kernel_rfl) rfl rfl ⟨(HCv.out _ HBd.out).1, (HCv.out _ HBd.out).2⟩ (fun hHeld => ?_)
      refine pure_ (i := 0) (N := some 39) (v := ?_) (a' := ?_) #[true, false, false, false, false, false, false, false] rfl rfl (by kernel_rfl) (fun _ _ _ h => h) (Or.inl ⟨by rfl, ?_⟩) ?_ ?_
      rotate_left
      · intro w'
        go_simp
        with_reducible rfl
      rotate_left
      · simp only [Act.put, List.setIfInBounds_toArray, List.set_cons_zero, List.set_cons_succ, i64_w, i32_w]
        rfl
      refine pure_ (i := 2) (N := some 41) (v := ?_) (a' := ?_) #[true, false, true, false, false, false, false, false] rfl rfl (by kernel_rfl) (fun _ _ _ h => h) (Or.inl ⟨by rfl, ?_⟩) ?_ ?_
      rotate_left
      · intro w'
        go_simp
        with_reducible rfl
      rotate_left
      · simp only [Act.put, List.setIfInBounds_toArray, List.set_cons_zero, List.set_cons_succ, i64_w, i32_w]
        rfl
      refine pure_ (i := 3) (N := some 42) (v := ?_) (a' := ?_) #[true, false, true, true, false, false, false, false] rfl rfl (by kernel_rfl) (fun _ _ _ h => h) (Or.inl ⟨by rfl, ?_⟩) ?_ ?_
      rotate_left
      · intro w'
        go_simp
        with_reducible rfl
      rotate_left
      · simp only [Act.put, List.setIfInBounds_toArray, List.set_cons_zero, List.set_cons_succ, i64_w, i32_w]
        rfl
      refine pure_ (i := 4) (N := some 43) (v := ?_) (a' := ?_) #[true, false, true, true, true, false, false, false] rfl rfl (by kernel_rfl) (fun _ _ _ h => h) (Or.inl ⟨by rfl, ?_⟩) ?_ ?_
      rotate_left
      · intro w'
        go_simp
        with_reducible rfl
      rotate_left
      · simp only [Act.put, List.setIfInBounds_toArray, List.set_cons_zero, List.set_cons_succ, i64_w, i32_w]
        rfl
      refine take_ (i := 1) (N := some 40) (v := ?_) (a' := ?_) #[true, true, true, true, true, false, false, false] rfl rfl (by kernel_rfl) (fun _ _ _ h => h) (Or.inl ⟨by rfl, ?_⟩) hHeld ?_ ?_
      rotate_left
      · rintro w' ⟨s0, s1⟩
        go_simp
        with_reducible rfl
      rotate_left
      · simp only [Act.put, List.setIfInBounds_toArray, List.set_cons_zero, List.set_cons_succ, i64_w, i32_w]
        rfl
      refine take_ (i := 5) (N := some 44) (v := ?_) (a' := ?_) #[true, true, true, true, true, true, false, false] rfl rfl (by kernel_rfl) (fun _ _ _ h => h) (Or.inl ⟨by rfl, ?_⟩) hHeld ?_ ?_
      rotate_left
      · rintro w' ⟨s0, s1⟩
        go_simp
        with_reducible rfl
      rotate_left
      · simp only [Act.put, List.setIfInBounds_toArray, List.set_cons_zero, List.set_cons_succ, i64_w, i32_w]
        rfl
      refine pure_ (i := 6) (N := some 45) (v := ?_) (a' := ?_) #[true, true, true, true, true, true, true, false] rfl rfl (by kernel_rfl) (fun _ _ _ h => h) (Or.inl ⟨by rfl, ?_⟩) ?_ ?_
      rotate_left
      · intro w'
        go_simp
        with_reducible rfl
      rotate_left
      · simp only [Act.put, List.setIfInBounds_toArray, List.set_cons_zero, List.set_cons_succ, i64_w, i32_w]
        rfl
      refine pure_ (i := 7) (N := some 2) (v := ?_) (a' := ?_) #[true, true, true, true, true, true, true, true] rfl rfl (by kernel_rfl) (fun _ _ _ h => h) (Or.inl ⟨by rfl, ?_⟩) ?_ ?_
      rotate_left
      · intro w'
        go_simp
        with_reducible rfl
      rotate_left
      · simp only [Act.put, List.setIfInBounds_toArray, List.set_cons_zero, List.set_cons_succ, i64_w, i32_w]
        rfl
      refine done_ (by kernel_rfl) ?_
      clear hHeld
      go_wp2
      go_ret
      exact ⟨by rfl, below_step HB1.out (by first | exact HB.out | exact HB.out.drew | exact pw_below_drewN HB.out _)⟩
    | succ m =>
      have c0b : decide (x < (K.length : Int)) = true := decide_eq_true (by obtain ⟨j, e, hj, _⟩ := HJ.out; omega)
      have hx1 : IntKind.i64.wrap (x + 1) = x + 1 := by rw [i64_w]; unfold wrap64; obtain ⟨j, e, hj, _⟩ := HJ.out; have := HKl.out; omega
      have c1 : 0 ≤ x := by obtain ⟨j, e, hj, _⟩ := HJ.out; omega
      have c2 : x < (K.length : Int) := by obtain ⟨j, e, hj, _⟩ := HJ.out; omega
      obtain ⟨ad, e129, hx129⟩ := Kd.at_string (Kd.R_reads' (Kd.R_below HO.out HB.out)).2.2 x c1 c2
      cases e129
      obtain ⟨s, es⟩ : ∃ s, rdOf ByteArray.empty K x = s := ⟨_, rfl⟩
      rw [es] at hx129
      have HPut : Aside0 (Calls Try.prog 9 #[.slice A5 n5 c5, .string s] wr fun e w' => ∃ (A6 : Option Addr) (n6 c6 : Nat), e = .returned (.tuple #[.slice A6 n6 c6, .int .i64 0]) ∧ (∃ j : Nat, x = (j : Int) ∧ j + (m + 1) = K.length ∧ n6 = (catF (K.take (j + 1))).length ∧ RB w' w1.heap.size (.slice A6 n6 c6) (catF (K.take (j + 1)))) ∧ Below wr.heap.size wr w') := ⟨by
        obtain ⟨j, e, hj, hn, hrow⟩ := HJ.out
        have hjl : j < K.length := by omega
        have hsj : s = K[j] := by rw [← es, e]; unfold rdOf; rw [Int.toNat_natCast, List.getD_eq_getElem?_getD, List.getElem?_eq_getElem hjl]; rfl
        have hl5 : (catF (K.take j)).length ≤ 1048576 := by
          rw [catF_length]
          have := totS_take K j
          have := HT.out
          have := HL.out
          omega
        subst hn
        refine (Put.at A5 c5 (catF (K.take j)) s (HSz.out s (by rw [hsj]; exact List.getElem_mem hjl)) wr hrow.C (by omega)).mono ?_
        rintro e2 w' ⟨v, rfl, ho, hb⟩
        obtain ⟨A6, c6, rfl⟩ := Kd.R_slice ho
        have he : PutL (catF (K.take j)) s = catF (K.take (j + 1)) := by rw [List.take_succ_eq_append_getElem hjl, catF_snoc, hsj]
        rw [he] at ho ⊢
        exact ⟨A6, _, c6, rfl, ⟨j, e, hj, rfl, RB.down ho HB.out.size⟩, hb⟩⟩
      clear es HJ
      replace c1 := eq_true c1
      replace c2 := eq_true c2
      go_wp2_with fail
      refine HPut.out.mono ?_
      rintro e w' ⟨A6, n6, c6, rfl, hj, hb⟩
      have HJ6 := Aside0.mk hj
      have HB6 : Aside0 (Below w1.heap.size w1 w') := ⟨below_step HB.out hb⟩
      clear hj hb
      go_wp2
      go_roundg m
      case measure => omega
      case rel => exact ⟨x + 1, A6, n6, c6, rfl, rfl, ⟨by
        obtain ⟨j, e, hj, hn, hrow⟩ := HJ6.out
        exact ⟨j + 1, by omega, by omega, hn, hrow⟩⟩, HB6⟩
theorem pannierlaw02_FrameAgain.walked (w : World) (A0 : Option Addr) (c0 : Nat) (b : List Int) (hr : Kd.C (Kd.int .u8) w A0 b.length b) (hc : b.length ≤ c0) (hb : Bts b) (hl : b.length ≤ 1048576) :
    Calls Try.prog 8 #[.slice A0 b.length c0] w fun e w' => e = .returned (.bool true) ∧ Below w.heap.size w w' := FrameAgain.at A0 c0 b w hr hc hb hl
end Go.Proofs.Ytlmpdlmamopbeaa.P
