/- LinFewer, walked. -/
import Derived.Test.YtmijalplheoekaaLg
namespace Go.Proofs.Ytmijalplheoekaa.P
open Go.RowKit Go.Maps Go.WideMaps Go.Proofs.YtmijalplheoekaaW.PrintWords Go.Proofs.YtmijalplheoekaaW.PrintLast Go.Proofs.YtmijalplheoekaaW.PrintMore
set_option linter.unusedVariables false
set_option linter.unusedSimpArgs false
theorem info31 : (Try.prog.info? 31).map (fun i => (i.zero, i.size, i.bytes)) = some (some (.agg #[.bool false, .string (⟨#[]⟩ : ByteArray), .int .i64 0, .int .i64 0, .int .i64 0]), 5, 48) := by kernel_rfl
set_option maxHeartbeats 8000000 in
set_option maxRecDepth 100000 in
theorem LinFewer.at (A0 : Option Addr) (c0 : Nat) (l0 : List S31) (A1 : Option Addr) (c1 : Nat) (l1 : List ByteArray) (a2 : Int) (w : World) (h : CkArg w A0 c0 l0 A1 c1 l1) (hc : l0.length * 48 ≤ 140737488355328) (ha : -9223372036854775808 ≤ a2 ∧ a2 ≤ 9223372036854775807) :
    Calls Try.prog 4 #[.slice A0 l0.length c0, .slice A1 l1.length c1, .int .i64 a2] w fun e w' => e = .returned (.bool true) ∧ Below w.heap.size w w' := by
  have HH := Aside0.mk h
  have HCc := Aside0.mk hc
  have HA := Aside0.mk ha
  clear h hc ha
  have HLv : Aside0 (∀ W, Calls Try.prog 7 #[] W fun e w' => e = .returned (.bool true) ∧ Below W.heap.size W w') := ⟨lives.at⟩
  obtain ⟨rc, erc⟩ : ∃ rc, checkC (l0.map toSn) (toks l1) 1 250 = rc := ⟨_, rfl⟩
  have HCk : Aside0 (∀ W, Below w.heap.size w W → Calls Try.prog 9 #[.slice A0 l0.length c0, .slice A1 l1.length c1] W fun e w' => e = .returned (.int .i64 rc) ∧ Below W.heap.size W w') := ⟨fun W hb => by
    rw [← erc]
    exact Check.at A0 c0 l0 A1 c1 l1 W (HH.out.below hb)⟩
  have HRC : Aside0 (rc = 0 → Okay (l0.map toSn) (toks l1)) := ⟨fun e => (checkC_zero (by decide) (by decide)).1 (erc.trans e)⟩
  clear erc
  go_enter Try.func4, Try.ntmps4
  go_wp2_with fail
  refine (HLv.out _).mono ?_
  rintro e w1 ⟨rfl, hb⟩
  have HB := Aside0.mk hb
  clear hb
  go_wp2_with fail
  refine (HCk.out _ HB.out).mono ?_
  rintro e w2 ⟨rfl, hb⟩
  replace HB := Aside0.mk (below_step HB.out hb)
  clear hb
  by_cases k1 : rc = 0
  case neg =>
    have d1 : (rc == 0) = false := by rw [beq_eq_false_iff_ne]; exact k1
    have d1' : (rc != 0) = true := by rw [bne_iff_ne]; exact k1
    clear k1
    go_wp2
    go_ret
    exact ⟨rfl, HB.out⟩
  have HOk := Aside0.mk (HRC.out k1)
  subst k1
  rcases l0 with _ | ⟨x0, r0⟩
  · go_wp2
    go_ret
    exact ⟨rfl, HB.out⟩
  obtain ⟨l0, el0⟩ : ∃ l0, x0 :: r0 = l0 := ⟨_, rfl⟩
  have HN : Aside0 (0 < l0.length) := ⟨by rw [← el0]; simp⟩
  rw [el0] at HH HCk HRC HOk HCc ⊢
  obtain ⟨n, en⟩ : ∃ n, l0.length = n := ⟨_, rfl⟩
  have HNn := Aside0.mk en
  rw [en]
  have d2 : ((n : Int) == 0) = false := by rw [beq_eq_false_iff_ne]; have := HN.out; omega
  clear el0 en x0 r0
  obtain ⟨k0, ek0⟩ : ∃ k0, a2.tmod n = k0 := ⟨_, rfl⟩
  have d3 : (n = 0) = False := by apply eq_false; have := HN.out; have := HNn.out; omega
  have HK0 : Aside0 (-(n : Int) < k0 ∧ k0 < n) := ⟨by
    have := HN.out
    have h1 := Int.tmod_lt_of_pos a2 (show (0 : Int) < n by have := HNn.out; omega)
    have h2 := Int.tmod_lt_of_pos (-a2) (show (0 : Int) < n by have := HNn.out; omega)
    rw [Int.neg_tmod] at h2
    omega⟩
  go_upto_region 6 with (fail)
  clear ek0 d3
  go_upto_if 25 with (fail)
  go_cut [7] from 25 to 29 (fun v7 wc => ∃ kk : Int, v7 = .int .i64 kk ∧ Aside0 (0 ≤ kk ∧ kk < (n : Int)) ∧ Aside0 (Below w.heap.size w wc))
  case first =>
    by_cases q : k0 < 0
    · have HQ := Aside0.mk q
      have es : IntKind.i64.wrap (k0 + n) = k0 + n := by rw [i64_w]; unfold wrap64; have := HK0.out; have := HCc.out; have := HNn.out; omega
      have es2 : wrap64 (k0 + n) = k0 + n := by rw [← i64_w]; exact es
      go_wp2
      go_meet
      case rel => exact ⟨k0 + n, rfl, ⟨by have := HQ.out; have := HK0.out; omega⟩, HB⟩
    · have HQ := Aside0.mk q
      go_wp2
      go_meet
      case rel => exact ⟨k0, rfl, ⟨by have := HQ.out; have := HK0.out; omega⟩, HB⟩
  case rest =>
    clear HB
    obtain ⟨kk, rfl, HK, HB⟩ := hcut
    have g1 : 0 ≤ kk := HK.out.1
    have g2 : kk < (n : Int) := HK.out.2
    have hr0 := HH.out.r0
    rw [HNn.out] at hr0
    obtain ⟨ad, rfl, q0, q1, q2, q3, q4⟩ := at_T31 (Kd.C_below hr0 HB.out) kk g1 g2
    replace g1 := eq_true g1
    replace g2 := eq_true g2
    clear q1 q2 q3 q4 hr0
    obtain ⟨fc, efc⟩ : ∃ fc, (rd_T31 l0 kk).f0 = fc := ⟨_, rfl⟩
    have HFc := Aside0.mk efc
    rw [efc] at q0
    clear efc
    cases fc with
    | true =>
      go_wp2
      go_ret
      exact ⟨rfl, HB.out⟩
    | false =>
      go_upto_region 10 with (fail)
      have HBd : Aside0 (Below w.heap.size w _) := ⟨HB.out.drew⟩
      have hk1 : IntKind.i64.wrap (kk + 1) = kk + 1 := by rw [i64_w]; unfold wrap64; have := HK.out; have := HCc.out; have := HNn.out; omega
      have hk2 : wrap64 (kk + 1) = kk + 1 := by rw [← i64_w]; exact hk1
      have hnc : n ≤ c0 := by have := HH.out.c0; have := HNn.out; omega
      obtain ⟨i31, hi31, hz31⟩ := Option.map_eq_some_iff.1 info31
      have hcu1 := cut_to (P := Try.prog) 22 31 .i64 Try.underlying22 hi31 (some ad) n c0 kk HK.out.1 (by have := HK.out; omega) hnc
      have hcu2 := cut_from (P := Try.prog) 22 31 .i64 Try.underlying22 hi31 5 (by simp only [Prod.mk.injEq] at hz31; exact hz31.2.1) (some ad) n c0 (kk + 1) (by have := HK.out; omega) (by have := HK.out; omega)
      have HT1 : Aside0 (∀ W, Below w.heap.size w W → Kd.C k31 W (some ad) (l0.take kk.toNat).length (l0.take kk.toNat)) := ⟨fun W hb => Kd.C_take (Kd.C_below HH.out.r0 hb) (by have := HK.out; have := HNn.out; omega)⟩
      have HT2 : Aside0 (∀ W, Below w.heap.size w W → Kd.C k31 W (if c0 = (kk + 1).toNat then some ad else (some ad).map (·.add ((kk + 1).toNat * 5))) (l0.drop (kk + 1).toNat).length (l0.drop (kk + 1).toNat)) := ⟨fun W hb => Kd.C_drop (Kd.C_below HH.out.r0 hb) (by have := HK.out; have := HNn.out; omega) HH.out.c0⟩
      have HLe : Aside0 ((l0.take kk.toNat).length = kk.toNat ∧ (l0.drop (kk + 1).toNat).length = n - (kk + 1).toNat) := ⟨by rw [List.length_take, List.length_drop]; have := HK.out; have := HNn.out; omega⟩
      rw [HLe.out.1] at HT1
      rw [HLe.out.2] at HT2
      clear hi31 hz31 hnc hk1
      refine start_ (n := 11) (S := fun w' => True) (ds := [0, 4, 9]) #[false, false, false, false, false, false, false, false, false, false, false] (by kernel_rfl) rfl rfl trivial (fun hHeld => ?_)
      refine pure_ (i := 1) (N := some 36) (v := ?_) (a' := ?_) #[false, true, false, false, false, false, false, false, false, false, false] rfl rfl (by kernel_rfl) (fun _ _ _ h => h) (Or.inl ⟨by rfl, ?_⟩) ?_ ?_
      rotate_left
      · intro w'
        go_simp
        with_reducible rfl
      rotate_left
      · simp only [Act.put, List.setIfInBounds_toArray, List.set_cons_zero, List.set_cons_succ, i64_w, i32_w]
        rfl
      refine pure_ (i := 2) (N := some 37) (v := ?_) (a' := ?_) #[false, true, true, false, false, false, false, false, false, false, false] rfl rfl (by kernel_rfl) (fun _ _ _ h => h) (Or.inl ⟨by rfl, ?_⟩) ?_ ?_
      rotate_left
      · intro w'
        go_simp
        with_reducible rfl
      rotate_left
      · simp only [Act.put, List.setIfInBounds_toArray, List.set_cons_zero, List.set_cons_succ, i64_w, i32_w]
        rfl
      refine pure_ (i := 3) (N := some 38) (v := ?_) (a' := ?_) #[false, true, true, true, false, false, false, false, false, false, false] rfl rfl (by kernel_rfl) (fun _ _ _ h => h) (Or.inl ⟨by rfl, ?_⟩) ?_ ?_
      rotate_left
      · intro w'
        go_simp
        with_reducible rfl
      rotate_left
      · simp only [Act.put, List.setIfInBounds_toArray, List.set_cons_zero, List.set_cons_succ, i64_w, i32_w]
        rfl
      refine pure_ (i := 5) (N := some 40) (v := ?_) (a' := ?_) #[false, true, true, true, false, true, false, false, false, false, false] rfl rfl (by kernel_rfl) (fun _ _ _ h => h) (Or.inl ⟨by rfl, ?_⟩) ?_ ?_
      rotate_left
      · intro w'
        go_simp
        with_reducible rfl
      rotate_left
      · simp only [Act.put, List.setIfInBounds_toArray, List.set_cons_zero, List.set_cons_succ, i64_w, i32_w]
        rfl
      refine pure_ (i := 6) (N := some 41) (v := ?_) (a' := ?_) #[false, true, true, true, false, true, true, false, false, false, false] rfl rfl (by kernel_rfl) (fun _ _ _ h => h) (Or.inl ⟨by rfl, ?_⟩) ?_ ?_
      rotate_left
      · intro w'
        go_simp
        with_reducible rfl
      rotate_left
      · simp only [Act.put, List.setIfInBounds_toArray, List.set_cons_zero, List.set_cons_succ, i64_w, i32_w]
        rfl
      refine pure_ (i := 7) (N := some 42) (v := ?_) (a' := ?_) #[false, true, true, true, false, true, true, true, false, false, false] rfl rfl (by kernel_rfl) (fun _ _ _ h => h) (Or.inl ⟨by rfl, ?_⟩) ?_ ?_
      rotate_left
      · intro w'
        go_simp
        with_reducible rfl
      rotate_left
      · simp only [Act.put, List.setIfInBounds_toArray, List.set_cons_zero, List.set_cons_succ, i64_w, i32_w]
        rfl
      refine pure_ (i := 8) (N := some 43) (v := ?_) (a' := ?_) #[false, true, true, true, false, true, true, true, true, false, false] rfl rfl (by kernel_rfl) (fun _ _ _ h => h) (Or.inl ⟨by rfl, ?_⟩) ?_ ?_
      rotate_left
      · intro w'
        go_simp
        with_reducible rfl
      rotate_left
      · simp only [Act.put, List.setIfInBounds_toArray, List.set_cons_zero, List.set_cons_succ, i64_w, i32_w]
        rfl
      refine last_ (i := 0) (N := some 35) #[true, true, true, true, false, true, true, true, true, false, false] rfl rfl (by kernel_rfl) (by decide) (fun K hK => ?_)
      refine Kd.R_lit_step k31 (w0 := w) w.heap.size 31 (by rfl) (N := 35) rfl (xs := ([] : List S31)) (inner := []) (ok := fun _ => True) (okp := fun _ => True) ?hr (Reps.none _ _) (fun _ hk => hk) trivial ?hB ?hS (by simp) ?_
      (case hr => first | (go_simp; done) | (go_simp; rfl))
      (case hB => exact HBd.out)
      (case hS => exact HBd.out.size)
      intro v1 w1 ho1 hb1 hg1 hn1
      refine hK.out _ _ ?_
      clear hK K
      refine norm_ (a' := ?_) ?_ ?_
      rotate_left
      · show Act.put _ (some 35) _ = _
        simp only [Act.put, List.setIfInBounds_toArray, List.set_cons_zero, List.set_cons_succ, i64_w, i32_w]
        rfl
      refine last_ (i := 4) (N := some 39) #[true, true, true, true, true, true, true, true, true, false, false] rfl rfl (by kernel_rfl) (by decide) (fun K hK => ?_)
      refine Kd.R_append_rows_step k31 (w0 := w) w.heap.size (by rfl) (.tmp 35) (.tmp 38) 22 31 (.agg #[.bool false, .string (⟨#[]⟩ : ByteArray), .int .i64 0, .int .i64 0, .int .i64 0]) 48 rfl Try.underlying22 info31 rfl (by decide) (by omega) v1 ([] : List S31) (l0.take kk.toNat) _ _ _ (fun _ => True) (fun _ => False) rfl rfl ?aO ?aR (fun _ _ h => h) (fun _ h => h.elim) ?aF ?aB ?aS ?aL ?_
      (case aR => exact HT1.out _ hb1)
      (case aB => exact hb1)
      (case aF => exact fun _ _ => trivial)
      (case aO => exact ho1)
      (case aS => exact hb1.size)
      (case aL => have := HCc.out; have := HK.out; have := HNn.out; simp only [List.length_nil]; omega)
      intro v2 w2 ho2 hb2 hg2 hat2
      rw [List.nil_append] at ho2
      refine hK.out _ _ ?_
      clear hK K
      refine norm_ (a' := ?_) ?_ ?_
      rotate_left
      · show Act.put _ (some 39) _ = _
        simp only [Act.put, List.setIfInBounds_toArray, List.set_cons_zero, List.set_cons_succ, i64_w, i32_w]
        rfl
      refine last_ (i := 9) (N := some 44) #[true, true, true, true, true, true, true, true, true, true, false] rfl rfl (by kernel_rfl) (by decide) (fun K hK => ?_)
      refine Kd.R_append_rows_step k31 (w0 := w) w.heap.size (by rfl) (.tmp 39) (.tmp 43) 22 31 (.agg #[.bool false, .string (⟨#[]⟩ : ByteArray), .int .i64 0, .int .i64 0, .int .i64 0]) 48 rfl Try.underlying22 info31 rfl (by decide) (by omega) v2 (l0.take kk.toNat) (l0.drop (kk + 1).toNat) _ _ _ (fun _ => True) (fun _ => False) rfl rfl ?aO ?aR (fun _ _ h => h) (fun _ h => h.elim) ?aF ?aB ?aS ?aL ?_
      (case aR => exact HT2.out _ hb2)
      (case aB => exact hb2)
      (case aF => exact fun _ _ => trivial)
      (case aO => exact ho2)
      (case aS => exact hb2.size)
      (case aL => have := HCc.out; have := HK.out; have := HNn.out; have := HLe.out; rw [HLe.out.1]; omega)
      intro v3 w3 ho3 hb3 hg3 hat3
      refine hK.out _ _ ?_
      clear hK K
      refine norm_ (a' := ?_) ?_ ?_
      rotate_left
      · show Act.put _ (some 44) _ = _
        simp only [Act.put, List.setIfInBounds_toArray, List.set_cons_zero, List.set_cons_succ, i64_w, i32_w]
        rfl
      refine pure_ (i := 10) (N := some 8) (v := ?_) (a' := ?_) #[true, true, true, true, true, true, true, true, true, true, true] rfl rfl (by kernel_rfl) (fun _ _ _ h => h) (Or.inl ⟨by rfl, ?_⟩) ?_ ?_
      rotate_left
      · intro w'
        go_simp
        with_reducible rfl
      rotate_left
      · simp only [Act.put, List.setIfInBounds_toArray, List.set_cons_zero, List.set_cons_succ, i64_w, i32_w]
        rfl
      refine done_ (by kernel_rfl) ?_
      obtain ⟨A3, c3, rfl⟩ := Kd.R_slice ho3
      have hr3 := (Kd.R_reads' ho3).2
      have HB3 := Aside0.mk hb3
      have hsub : ∀ x ∈ l0.take kk.toNat ++ l0.drop (kk + 1).toNat, x ∈ l0 := fun x hx => by
        rcases List.mem_append.1 hx with h | h
        · exact List.mem_of_mem_take h
        · exact List.mem_of_mem_drop h
      have hlen : (l0.take kk.toNat ++ l0.drop (kk + 1).toNat).length ≤ l0.length := by rw [List.length_append]; have := HLe.out; have := HK.out; have := HNn.out; omega
      have HC3 : Aside0 (Calls Try.prog 9 #[.slice A3 (l0.take kk.toNat ++ l0.drop (kk + 1).toNat).length c3, .slice A1 l1.length c1] w3 fun e w' => e = .returned (.int .i64 0) ∧ Below w3.heap.size w3 w') := ⟨by
        have h1 := Check.at A3 c3 (l0.take kk.toNat ++ l0.drop (kk + 1).toNat) A1 c1 l1 w3 ⟨hr3.2, Kd.C_below HH.out.r1 hb3, hr3.1, by have := HH.out.n0; omega, HH.out.n1, fun x hx => HH.out.s0 x (hsub x hx), HH.out.s1⟩
        have h2 : checkC ((l0.take kk.toNat ++ l0.drop (kk + 1).toNat).map toSn) (toks l1) 1 250 = 0 := by
          rw [checkC_zero (by decide) (by decide)]
          have hk : kk.toNat < (l0.map toSn).length := by rw [List.length_map]; have := HK.out; have := HNn.out; omega
          have h3 := HOk.out.fewer kk.toNat hk (by
            have e := HFc.out
            unfold rd_T31 at e
            rw [List.getD_eq_getElem?_getD, List.getElem?_eq_getElem (by have := HK.out; have := HNn.out; omega)] at e
            rw [List.getElem_map]
            exact e)
          rw [List.map_append, List.map_take, List.map_drop, show (kk + 1).toNat = kk.toNat + 1 by have := HK.out; omega]
          exact h3
        rw [h2] at h1
        exact h1⟩
      clear hr3 hsub hlen ho3 hb3 ho1 hb1 hg1 hn1 ho2 hb2 hg2 hat2 hg3 hat3 hcu1 hcu2
      obtain ⟨n3, en3⟩ : ∃ n3, (l0.take kk.toNat ++ l0.drop (kk + 1).toNat).length = n3 := ⟨_, rfl⟩
      rw [en3] at HC3 ⊢
      clear en3
      generalize (Value.slice (if c0 = (kk + 1).toNat then some ad else some (ad.add ((kk + 1).toNat * 5))) (n - (kk + 1).toNat) (c0 - (kk + 1).toNat)) = sv
      clear HT1 HT2 HLe hk2 q0 HCk HLv
      go_wp2_with fail
      refine HC3.out.mono ?_
      rintro e w4 ⟨rfl, hb⟩
      have HB4 := Aside0.mk (below_step HB3.out hb)
      clear hb
      go_wp2
      go_ret
      exact ⟨rfl, HB4.out⟩
end Go.Proofs.Ytmijalplheoekaa.P
