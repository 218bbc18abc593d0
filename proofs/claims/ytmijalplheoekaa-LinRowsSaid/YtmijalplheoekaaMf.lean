/- LinRows, walked: there is a row just where one is found by trying all. -/
import Derived.Test.YtmijalplheoekaaMe
namespace Go.Proofs.Ytmijalplheoekaa.P
open Go.RowKit Go.Maps Go.WideMaps Go.Proofs.YtmijalplheoekaaW.PrintWords Go.Proofs.YtmijalplheoekaaW.PrintLast Go.Proofs.YtmijalplheoekaaW.PrintMore
set_option linter.unusedVariables false
set_option linter.unusedSimpArgs false
theorem gB_none (n : Nat) : gB (List.replicate n false) = fun _ => false := by
  funext k
  show (List.replicate n false).getD k false = false
  rw [List.getD_eq_getElem?_getD, List.getElem?_replicate]
  split <;> rfl
set_option maxHeartbeats 8000000 in
set_option maxRecDepth 100000 in
theorem LinRows.at (A0 : Option Addr) (c0 : Nat) (l0 : List S31) (A1 : Option Addr) (c1 : Nat) (l1 : List ByteArray) (w : World) (h : CkArg w A0 c0 l0 A1 c1 l1) (hc1 : l1.length ≤ c1) :
    Calls Try.prog 3 #[.slice A0 l0.length c0, .slice A1 l1.length c1] w fun e w' => e = .returned (.bool true) ∧ Below w.heap.size w w' := by
  have HH := Aside0.mk h
  have HC1 := Aside0.mk hc1
  clear h hc1
  have HLv : Aside0 (∀ W, Calls Try.prog 7 #[] W fun e w' => e = .returned (.bool true) ∧ Below W.heap.size W w') := ⟨lives.at⟩
  obtain ⟨rc, erc⟩ : ∃ rc, checkC (l0.map toSn) (toks l1) 1 250 = rc := ⟨_, rfl⟩
  have HCk : Aside0 (∀ W, Below w.heap.size w W → Calls Try.prog 9 #[.slice A0 l0.length c0, .slice A1 l1.length c1] W fun e w' => e = .returned (.int .i64 rc) ∧ Below W.heap.size W w') := ⟨fun W hb => by
    rw [← erc]
    exact Check.at A0 c0 l0 A1 c1 l1 W (HH.out.below hb)⟩
  obtain ⟨kr, br, er, hbr⟩ := right_f l0 l1 (by have := HH.out.n0; omega) (by have := HH.out.n1; omega)
  have HRt : Aside0 (∀ W, Below w.heap.size w W → Calls Try.prog 8 #[.slice A0 l0.length c0, .slice A1 l1.length c1] W fun e w' => e = .returned (.bool br) ∧ Below W.heap.size W w') := ⟨fun W hb =>
    (pannierref25_Right.calls kr A0 c0 l0 A1 c1 l1 br W (Kd.C_below HH.out.r0 hb) HH.out.c0 (Kd.C_below HH.out.r1 hb) HC1.out er).mono fun e w' h => ⟨h.1, Drawn0.below h.2⟩⟩
  have HFalse : Aside0 (br = false → rc = 1) := ⟨fun hf => by
    rw [← erc]
    unfold checkC
    rw [if_pos]
    rw [Bool.or_eq_true]
    by_cases q : ∀ s ∈ l0.map toSn, rightB s = true
    · right
      cases ht : twiceB (toks l1) with
      | true => rfl
      | false =>
        have := hbr.2 ⟨q, nodup_twice.2 ht⟩
        rw [hf] at this
        exact absurd this (by simp)
    · left
      rw [List.any_eq_true]
      obtain ⟨s, hs⟩ := Classical.not_forall.1 q
      obtain ⟨hm, hs⟩ := Classical.not_imp.1 hs
      exact ⟨s, hm, by simpa using hs⟩⟩
  have HTrue : Aside0 (br = true → (rc = 0 ↔ Row (gS l0) l0.length (toks l1) (fun _ => false) 0)) := ⟨fun hf => by
    have q := hbr.1 hf
    have e := row_iff (g := gS l0) (l := l0.map toSn) (T := toks l1) (fun k h => gS_get l0 k h) q.1 q.2
    rw [List.length_map] at e
    rw [e, ← erc]
    exact checkC_zero (by decide) (by decide)⟩
  have HTry : Aside0 (∀ (W : World) (A : Option Addr) (c : Nat), Kd.bool.R 4 W w.heap.size (fun _ => True) (.slice A l0.length c) (List.replicate l0.length false) → Below w.heap.size w W → Calls Try.prog 10 #[.slice A0 l0.length c0, .slice A1 l1.length c1, .slice A l0.length c, .int .i64 0] W (TryPost (Row (gS l0) l0.length (toks l1) (fun _ => false) 0) W)) := ⟨fun W A c hr hb => by
    have hq := Kd.R_reads' hr
    rw [List.length_replicate] at hq
    have := Try.at l0 l1 (l0.length + 1) (List.replicate l0.length false) A0 c0 A1 c1 A c 0 W (HH.out.below hb) HC1.out List.length_replicate hq.2.2 hq.2.1 ⟨Int.le_refl _, by omega⟩ (Nat.lt_succ_of_le (Nat.le_trans List.countP_le_length (by rw [List.length_replicate]; omega)))
    rw [gB_none] at this
    exact this⟩
  clear erc er hbr
  go_enter Try.func3, Try.ntmps3
  go_wp2_with fail
  refine (HLv.out _).mono ?_
  rintro e w1 ⟨rfl, hb⟩
  have HB := Aside0.mk hb
  clear hb
  by_cases k1 : (6 : Int) < (l0.length : Int)
  · have k1b : decide ((6 : Int) < (l0.length : Int)) = true := decide_eq_true k1
    go_wp2_with fail
    refine (HRt.out _ HB.out).mono ?_
    rintro e w2 ⟨rfl, hb⟩
    have HB2 := Aside0.mk (below_step HB.out hb)
    clear hb
    cases br with
    | true =>
      go_wp2
      go_ret
      exact ⟨rfl, HB2.out⟩
    | false =>
      have HRc := Aside0.mk (HFalse.out (by simp))
      obtain rfl := HRc.out
      go_wp2_with fail
      refine (HCk.out _ HB2.out).mono ?_
      rintro e w3 ⟨rfl, hb⟩
      have HB3 := Aside0.mk (below_step HB2.out hb)
      clear hb
      go_wp2
      go_ret
      exact ⟨rfl, HB3.out⟩
  · have k1b : decide ((6 : Int) < (l0.length : Int)) = false := decide_eq_false k1
    by_cases k2 : (4 : Int) < (l1.length : Int)
    · have k2b : decide ((4 : Int) < (l1.length : Int)) = true := decide_eq_true k2
      go_wp2_with fail
      refine (HRt.out _ HB.out).mono ?_
      rintro e w2 ⟨rfl, hb⟩
      have HB2 := Aside0.mk (below_step HB.out hb)
      clear hb
      cases br with
      | true =>
        go_wp2
        go_ret
        exact ⟨rfl, HB2.out⟩
      | false =>
        have HRc := Aside0.mk (HFalse.out (by simp))
        obtain rfl := HRc.out
        go_wp2_with fail
        refine (HCk.out _ HB2.out).mono ?_
        rintro e w3 ⟨rfl, hb⟩
        have HB3 := Aside0.mk (below_step HB2.out hb)
        clear hb
        go_wp2
        go_ret
        exact ⟨rfl, HB3.out⟩
    · have k2b : decide ((4 : Int) < (l1.length : Int)) = false := decide_eq_false k2
      clear k1 k2
      go_wp2_with fail
      refine (HRt.out _ HB.out).mono ?_
      rintro e w2 ⟨rfl, hb⟩
      replace HB := Aside0.mk (below_step HB.out hb)
      clear hb
      cases br with
      | false =>
        go_wp2_with fail
        refine (HRt.out _ HB.out).mono ?_
        rintro e w2 ⟨rfl, hb⟩
        have HB2 := Aside0.mk (below_step HB.out hb)
        clear hb
        have HRc := Aside0.mk (HFalse.out (by simp))
        obtain rfl := HRc.out
        go_wp2_with fail
        refine (HCk.out _ HB2.out).mono ?_
        rintro e w3 ⟨rfl, hb⟩
        have HB3 := Aside0.mk (below_step HB2.out hb)
        clear hb
        go_wp2
        go_ret
        exact ⟨rfl, HB3.out⟩
      | true =>
        have HIff := Aside0.mk (HTrue.out (by simp))
        have HBd : Aside0 (Below w.heap.size w w2.drew) := ⟨HB.out.drew⟩
        clear HTrue HFalse
        go_upto_region 5 with (fail)
        refine start_ (n := 12) (S := fun w' => True) (ds := []) #[false, false, false, false, false, false, false, false, false, false, false, false] (by kernel_rfl) rfl rfl trivial (fun hHeld => ?_)
        refine pure_ (i := 0) (N := some 30) (v := ?_) (a' := ?_) #[true, false, false, false, false, false, false, false, false, false, false, false] rfl rfl (by kernel_rfl) (fun _ _ _ h => h) (Or.inl ⟨by rfl, ?_⟩) ?_ ?_
        rotate_left
        · intro w'
          go_simp
          with_reducible rfl
        rotate_left
        · simp only [Act.put, List.setIfInBounds_toArray, List.set_cons_zero, List.set_cons_succ, i64_w, i32_w]
          rfl
        refine pure_ (i := 1) (N := some 31) (v := ?_) (a' := ?_) #[true, true, false, false, false, false, false, false, false, false, false, false] rfl rfl (by kernel_rfl) (fun _ _ _ h => h) (Or.inl ⟨by rfl, ?_⟩) ?_ ?_
        rotate_left
        · intro w'
          go_simp
          with_reducible rfl
        rotate_left
        · simp only [Act.put, List.setIfInBounds_toArray, List.set_cons_zero, List.set_cons_succ, i64_w, i32_w]
          rfl
        refine pure_ (i := 4) (N := some 34) (v := ?_) (a' := ?_) #[true, true, false, false, true, false, false, false, false, false, false, false] rfl rfl (by kernel_rfl) (fun _ _ _ h => h) (Or.inl ⟨by rfl, ?_⟩) ?_ ?_
        rotate_left
        · intro w'
          go_simp
          with_reducible rfl
        rotate_left
        · simp only [Act.put, List.setIfInBounds_toArray, List.set_cons_zero, List.set_cons_succ, i64_w, i32_w]
          rfl
        refine pure_ (i := 5) (N := some 35) (v := ?_) (a' := ?_) #[true, true, false, false, true, true, false, false, false, false, false, false] rfl rfl (by kernel_rfl) (fun _ _ _ h => h) (Or.inl ⟨by rfl, ?_⟩) ?_ ?_
        rotate_left
        · intro w'
          go_simp
          with_reducible rfl
        rotate_left
        · simp only [Act.put, List.setIfInBounds_toArray, List.set_cons_zero, List.set_cons_succ, i64_w, i32_w]
          rfl
        refine pure_ (i := 6) (N := some 36) (v := ?_) (a' := ?_) #[true, true, false, false, true, true, true, false, false, false, false, false] rfl rfl (by kernel_rfl) (fun _ _ _ h => h) (Or.inl ⟨by rfl, ?_⟩) ?_ ?_
        rotate_left
        · intro w'
          go_simp
          with_reducible rfl
        rotate_left
        · simp only [Act.put, List.setIfInBounds_toArray, List.set_cons_zero, List.set_cons_succ, i64_w, i32_w]
          rfl
        refine pure_ (i := 7) (N := some 37) (v := ?_) (a' := ?_) #[true, true, false, false, true, true, true, true, false, false, false, false] rfl rfl (by kernel_rfl) (fun _ _ _ h => h) (Or.inl ⟨by rfl, ?_⟩) ?_ ?_
        rotate_left
        · intro w'
          go_simp
          with_reducible rfl
        rotate_left
        · simp only [Act.put, List.setIfInBounds_toArray, List.set_cons_zero, List.set_cons_succ, i64_w, i32_w]
          rfl
        refine join_ (σ := Value) 3 #[true, true, true, true, true, true, true, true, true, false, false, false] (fun s => [(32, .int .i64 rc), (33, .bool (rc == 0)), (38, s)]) (fun s w' => Kd.bool.R 4 w' w.heap.size (fun _ => True) s (List.replicate l0.length false) ∧ Below w.heap.size w w') ?_ ?_
        rotate_left
        · intro hCont
          refine two_ (i := 2) (j := 8) (Ni := some 32) (Nj := some 38) #[true, true, true, false, true, true, true, true, false, false, false, false] #[true, true, false, false, true, true, true, true, true, false, false, false] rfl rfl rfl rfl (by kernel_rfl) (by decide) (by decide) (fun K hK => ?_) (fun K hK => ?_)
          · skip
            refine goes_ Try.func9 (by kernel_rfl) rfl #[.slice A0 l0.length c0, .slice A1 l1.length c1] (by rfl) rfl rfl (by simp only [List.map_toArray, List.map_cons, List.map_nil]; rfl) ?_
            with_reducible refine (HCk.out _ HBd.out).mono ?_
            rintro e w2 ⟨rfl, hb⟩
            refine ⟨_, rfl, ?_⟩
            have hb2 := below_step HBd.out hb
            refine hK.out _ _ trivial (fun hHeld => ?_)
            clear hK K
            refine norm_ (a' := ?_) ?_ ?_
            rotate_left
            · show Act.put _ (some 32) _ = _
              simp only [Act.put, List.setIfInBounds_toArray, List.set_cons_zero, List.set_cons_succ, i64_w, i32_w]
              rfl
            refine pure_ (i := 3) (N := some 33) (v := ?_) (a' := ?_) #[true, true, true, true, true, true, true, true, false, false, false, false] rfl rfl (by kernel_rfl) (fun _ _ _ h => h) (Or.inl ⟨by rfl, ?_⟩) ?_ ?_
            rotate_left
            · intro w'
              go_simp
              with_reducible rfl
            rotate_left
            · simp only [Act.put, List.setIfInBounds_toArray, List.set_cons_zero, List.set_cons_succ, i64_w, i32_w]
              rfl
            refine one_ (i := 8) (N := some 38) #[true, true, true, true, true, true, true, true, true, false, false, false] rfl rfl (by kernel_rfl) (by decide) (fun K hK => ?_)
            refine Kd.R_make_step Kd.bool (w0 := w) w.heap.size 4 (by rfl) (N := 38) rfl 29 (.tmp 37) (.tmp 37) rfl (l0.length : Int) rfl rfl Try.underlying29 (.bool false) 1 info4b rfl (by decide) (by decide) false (ok := fun _ => True) (okp := fun _ => False) rfl (fun _ h => h.elim) trivial (by omega) (by have := HH.out.n0; omega) ?hB ?hS ?_
            (case hB => exact hb2)
            (case hS => exact (hb2).size)
            rw [Int.toNat_natCast]
            intro v1 w1 ho1 hb1 hg1 hn1
            refine hK.out _ _ trivial (fun hHeld => ?_)
            clear hK K
            refine norm_ (a' := ?_) ?_ ?_
            rotate_left
            · show Act.put _ (some 38) _ = _
              simp only [Act.put, List.setIfInBounds_toArray, List.set_cons_zero, List.set_cons_succ, i64_w, i32_w]
              rfl
            exact norm_ (by simp only [putAll, Act.put, List.setIfInBounds_toArray, List.set_cons_zero, List.set_cons_succ]) (hCont v1 _ ⟨ho1, hb1⟩)
          · skip
            refine Kd.R_make_step Kd.bool (w0 := w) w.heap.size 4 (by rfl) (N := 38) rfl 29 (.tmp 37) (.tmp 37) rfl (l0.length : Int) rfl rfl Try.underlying29 (.bool false) 1 info4b rfl (by decide) (by decide) false (ok := fun _ => True) (okp := fun _ => False) rfl (fun _ h => h.elim) trivial (by omega) (by have := HH.out.n0; omega) ?hB ?hS ?_
            (case hB => exact HBd.out)
            (case hS => exact (HBd.out).size)
            rw [Int.toNat_natCast]
            intro v1 w1 ho1 hb1 hg1 hn1
            refine hK.out _ _ trivial (fun hHeld => ?_)
            clear hK K
            refine norm_ (a' := ?_) ?_ ?_
            rotate_left
            · show Act.put _ (some 38) _ = _
              simp only [Act.put, List.setIfInBounds_toArray, List.set_cons_zero, List.set_cons_succ, i64_w, i32_w]
              rfl
            refine one_ (i := 2) (N := some 32) #[true, true, true, false, true, true, true, true, true, false, false, false] rfl rfl (by kernel_rfl) (by decide) (fun K hK => ?_)
            refine goes_ Try.func9 (by kernel_rfl) rfl #[.slice A0 l0.length c0, .slice A1 l1.length c1] (by rfl) rfl rfl (by simp only [List.map_toArray, List.map_cons, List.map_nil]; rfl) ?_
            with_reducible refine (HCk.out _ hb1).mono ?_
            rintro e w2 ⟨rfl, hb⟩
            refine ⟨_, rfl, ?_⟩
            have hb2 := below_step hb1 hb
            refine hK.out _ _ trivial (fun hHeld => ?_)
            clear hK K
            refine norm_ (a' := ?_) ?_ ?_
            rotate_left
            · show Act.put _ (some 32) _ = _
              simp only [Act.put, List.setIfInBounds_toArray, List.set_cons_zero, List.set_cons_succ, i64_w, i32_w]
              rfl
            refine pure_ (i := 3) (N := some 33) (v := ?_) (a' := ?_) #[true, true, true, true, true, true, true, true, true, false, false, false] rfl rfl (by kernel_rfl) (fun _ _ _ h => h) (Or.inl ⟨by rfl, ?_⟩) ?_ ?_
            rotate_left
            · intro w'
              go_simp
              with_reducible rfl
            rotate_left
            · simp only [Act.put, List.setIfInBounds_toArray, List.set_cons_zero, List.set_cons_succ, i64_w, i32_w]
              rfl
            exact norm_ (by simp only [putAll, Act.put, List.setIfInBounds_toArray, List.set_cons_zero, List.set_cons_succ]) (hCont v1 _ ⟨Kd.R_below ho1 hb, hb2⟩)
        rintro v1 w4 ⟨ho4, hb4⟩
        have HO4 := Aside0.mk ho4
        have HB4 := Aside0.mk hb4
        clear ho4 hb4
        have hHeld : True := trivial
        obtain ⟨A4, c4, rfl⟩ := Kd.R_slice HO4.out
        rw [List.length_replicate] at HO4 ⊢
        refine norm_ (a' := ?_) ?_ ?_
        rotate_left
        · simp only [putAll, Act.put, List.setIfInBounds_toArray, List.set_cons_zero, List.set_cons_succ]
          rfl
        refine one_ (i := 9) (N := some 39) #[true, true, true, true, true, true, true, true, true, true, false, false] rfl rfl (by kernel_rfl) (by decide) (fun K hK => ?_)
        refine goes_ Try.func10 (by kernel_rfl) rfl #[.slice A0 l0.length c0, .slice A1 l1.length c1, .slice A4 l0.length c4, .int .i64 0] (by rfl) rfl rfl (by simp only [List.map_toArray, List.map_cons, List.map_nil]; rfl) ?_
        with_reducible refine (HTry.out _ A4 c4 HO4.out HB4.out).mono ?_
        rintro e w5 ⟨b, rfl, hbb, hb⟩
        refine ⟨_, rfl, ?_⟩
        have HB5 := Aside0.mk (below_step HB4.out hb)
        have HBB := Aside0.mk hbb
        refine hK.out _ _ trivial (fun hHeld => ?_)
        clear hK K
        refine norm_ (a' := ?_) ?_ ?_
        rotate_left
        · show Act.put _ (some 39) _ = _
          simp only [Act.put, List.setIfInBounds_toArray, List.set_cons_zero, List.set_cons_succ, i64_w, i32_w]
          rfl
        refine pure_ (i := 10) (N := some 40) (v := ?_) (a' := ?_) #[true, true, true, true, true, true, true, true, true, true, true, false] rfl rfl (by kernel_rfl) (fun _ _ _ h => h) (Or.inl ⟨by rfl, ?_⟩) ?_ ?_
        rotate_left
        · intro w'
          go_simp
          with_reducible rfl
        rotate_left
        · simp only [Act.put, List.setIfInBounds_toArray, List.set_cons_zero, List.set_cons_succ, i64_w, i32_w]
          rfl
        refine pure_ (i := 11) (N := some 4) (v := ?_) (a' := ?_) #[true, true, true, true, true, true, true, true, true, true, true, true] rfl rfl (by kernel_rfl) (fun _ _ _ h => h) (Or.inl ⟨by rfl, ?_⟩) ?_ ?_
        rotate_left
        · intro w'
          go_simp
          with_reducible rfl
        rotate_left
        · simp only [Act.put, List.setIfInBounds_toArray, List.set_cons_zero, List.set_cons_succ, i64_w, i32_w]
          rfl
        refine done_ (by kernel_rfl) ?_
        go_wp2
        go_ret
        refine ⟨?_, HB5.out⟩
        have h1 := HIff.out
        have h2 := HBB.out
        have : ((rc == 0) == b) = true := by
          rw [beq_iff_eq, Bool.eq_iff_iff, beq_iff_eq, h1, h2]
        rw [this]
        rfl
end Go.Proofs.Ytmijalplheoekaa.P
