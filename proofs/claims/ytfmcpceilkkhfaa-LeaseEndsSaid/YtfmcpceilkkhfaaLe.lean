/- The statement LeaseEnds: the walk. -/
import Derived.Test.YtfmcpceilkkhfaaLv2
namespace Go.Proofs.Ytfmcpceilkkhfaa.P
open Go.RowKit Go.Proofs.YtfmcpceilkkhfaaW.PrintWords Go.Proofs.YtfmcpceilkkhfaaW.PrintLast Go.Proofs.YtfmcpceilkkhfaaW.PrintMore
attribute [local go_sem] max2_int min2_int max_two min_two max_three min_three max_four min_four
set_option linter.unusedVariables false
set_option linter.unusedSimpArgs false
attribute [local go_sem high] eqA34
theorem grantL_length (l : List Int) (n x : Int) : (grantL l n x).length = l.length := by
  unfold grantL
  split
  · rw [List.length_set]
  · rfl
theorem grantL_rd (l : List Int) (n x : Int) (k : Nat) (hk : k < l.length) : rd (grantL l n x) k = if ((0 ≤ n ∧ n < (l.length : Int)) ∧ nowB x = true) ∧ n = (k : Int) then (if rd l k < x then x else rd l k) else rd l k := by
  unfold grantL
  by_cases h : (0 ≤ n ∧ n < (l.length : Int)) ∧ nowB x = true
  · rw [if_pos h, rd_set (by omega)]
    by_cases q : k = n.toNat
    · have : rd l n = rd l k := by rw [q]; unfold rd; rw [Int.toNat_natCast]
      refine Eq.trans ?_ (if_pos ⟨h, by omega⟩).symm
      rw [if_pos q, this]
    · rw [if_neg q, if_neg (fun r => q (by omega))]
  · rw [if_neg h, if_neg (fun r => h r.1)]
theorem AskOk.grant {l : List Int} (h : AskOk l) (n x : Int) : AskOk (grantL l n x) := fun i hi => by
  rw [grantL_length] at hi
  rw [grantL_rd _ _ _ _ hi]
  have a := h i hi
  split
  · rename_i q
    have b := nowB_iff.mp q.1.2
    split
    · exact .inr b
    · exact a
  · exact a
theorem grant_le {l : List Int} {m : Int} (h : ∀ i : Nat, i < l.length → rd l i ≤ m) (n x : Int) (hx : x ≤ m) : ∀ i : Nat, i < (grantL l n x).length → rd (grantL l n x) i ≤ m := fun i hi => by
  rw [grantL_length] at hi
  rw [grantL_rd _ _ _ _ hi]
  have a := h i hi
  split
  · split <;> omega
  · exact a
theorem rd_replicate (n : Nat) (x : Int) (i : Nat) (hi : i < n) : rd (List.replicate n x) i = x := by
  unfold rd
  rw [List.getD_eq_getElem?_getD, Int.toNat_natCast, List.getElem?_replicate, if_pos hi]
  rfl
theorem countP_le_of {p q : Int → Bool} {l : List Int} (h : ∀ x ∈ l, p x = true → q x = true) : l.countP p ≤ l.countP q := List.countP_mono_left h
theorem counts_on {l : List Int} {trust now later m : Int} (h : ∀ i : Nat, i < l.length → rd l i ≤ m) (h1 : m ≤ now) (h2 : now ≤ later) (hc : countsB l trust later = true) : countsB l trust now = true := by
  unfold countsB at *
  have hc := of_decide_eq_true hc
  refine decide_eq_true ?_
  have := @countP_le_of (cntOk trust later) (cntOk trust now) l (fun x hx hp => by
    obtain ⟨i, hi, rfl⟩ := List.getElem_of_mem hx
    have e := h i hi
    have e2 : rd l i = l[i] := by
      unfold rd
      rw [Int.toNat_natCast, List.getD_eq_getElem?_getD, List.getElem?_eq_getElem hi]
      rfl
    rw [e2] at e
    simp only [cntOk, Bool.and_eq_true, decide_eq_true_eq] at hp ⊢
    exact ⟨hp.1, by omega, by omega⟩)
  omega
set_option maxHeartbeats 4000000 in
set_option maxRecDepth 100000 in
theorem LeaseEnds.none_ (w : World) (nodes long drift : Int) (A0 : Option Addr) (c0 : Nat) (l0 : List Int) (hr0 : Kd.C (Kd.int .i64) w A0 l0.length l0) (y0 : l0.length * 8 ≤ 140737488351232) (now later : Int) (h : lnewB nodes long drift = false) :
    Calls Try.prog 3 #[.int .i64 nodes, .int .i64 long, .int .i64 drift, .slice A0 l0.length c0, .int .i64 now, .int .i64 later] w fun e w' => e = .returned (.bool true) ∧ Below w.heap.size w w' := by
  clear hr0 y0
  have HX := Aside0.mk h
  clear h
  by_cases k : 1 ≤ long ∧ long ≤ 1048576
  · have HK := Aside0.mk k
    clear k
    go_enter Try.func3, Try.ntmps3
    go_wp2_with fail
    refine (LNew.bad _ _ _ _ HX.out).mono ?_
    rintro e w1 ⟨rfl, ⟨n1, rfl⟩⟩
    go_wp2_with fail
    refine (NewHold.at _ _ HK.out.1 HK.out.2).mono ?_
    rintro e w2 ⟨gh, rfl, h1, h2⟩
    have HB := Aside0.mk (below_step (pw_below_drewN (Below.refl _ _) _) h2)
    clear h1 h2
    go_wp2_with fail
    refine (lives21.at _).mono ?_
    rintro e w3 ⟨rfl, hb⟩
    replace HB := Aside0.mk (below_step HB.out hb)
    clear hb
    go_wp2
    go_ret
    exact ⟨by rfl, HB.out⟩
  · have HK := Aside0.mk k
    clear k
    go_enter Try.func3, Try.ntmps3
    go_wp2_with fail
    refine (LNew.bad _ _ _ _ HX.out).mono ?_
    rintro e w1 ⟨rfl, ⟨n1, rfl⟩⟩
    go_wp2_with fail
    refine (NewHold.bad _ _ HK.out).mono ?_
    rintro e w2 ⟨rfl, ⟨n2, rfl⟩⟩
    go_wp2_with fail
    refine (lives21.at _).mono ?_
    rintro e w3 ⟨rfl, hb⟩
    have HB := Aside0.mk (below_step (pw_below_drewN (Below.refl _ _) _) hb)
    clear hb
    go_wp2
    go_ret
    exact ⟨by rfl, HB.out⟩
set_option maxHeartbeats 16000000 in
set_option maxRecDepth 100000 in
theorem LeaseEnds.some_ (w : World) (nodes long drift : Int) (A0 : Option Addr) (c0 : Nat) (l0 : List Int) (hr0 : Kd.C (Kd.int .i64) w A0 l0.length l0) (y0 : l0.length * 8 ≤ 140737488351232) (now later : Int) (h : lnewB nodes long drift = true) :
    Calls Try.prog 3 #[.int .i64 nodes, .int .i64 long, .int .i64 drift, .slice A0 l0.length c0, .int .i64 now, .int .i64 later] w fun e w' => e = .returned (.bool true) ∧ Below w.heap.size w w' := by
  have HX := Aside0.mk h
  have HR := Aside0.mk hr0
  have HY : Aside0 (l0.length < 17592186044416) := ⟨by omega⟩
  have HLo : Aside0 (1 ≤ long ∧ long ≤ 1048576) := ⟨by simp only [lnewB, Bool.and_eq_true, decide_eq_true_eq] at h; omega⟩
  have HNo : Aside0 (1 ≤ nodes ∧ nodes ≤ 7) := ⟨by simp only [lnewB, Bool.and_eq_true, decide_eq_true_eq] at h; omega⟩
  clear h hr0 y0
  go_enter Try.func3, Try.ntmps3
  go_wp2_with fail
  refine (LNew.at _ _ _ _ HX.out).mono ?_
  rintro e w1 ⟨g, b, rfl, h1, h2⟩
  have HW := Aside0.mk h1
  have HB := Aside0.mk h2
  clear h1 h2
  go_wp2_with fail
  refine (NewHold.at _ _ HLo.out.1 HLo.out.2).mono ?_
  rintro e w2 ⟨gh, rfl, h1, h2⟩
  have HN : Aside0 (g ≠ gh ∧ b ≠ gh) := ⟨by have := HW.out.lt; have := h1.2; omega⟩
  have HH : Aside0 (Hld w2 w.heap.size gh long 0 0 0) := ⟨h1.1, by have := HB.out.size; have := h1.2; omega⟩
  replace HW := Aside0.mk (HW.out.below h2)
  replace HB := Aside0.mk (below_step HB.out h2)
  clear h1 h2
  go_wp2_with fail
  refine (lives21.at _).mono ?_
  rintro e w3 ⟨rfl, hb⟩
  replace HW := Aside0.mk (HW.out.below hb)
  replace HH := Aside0.mk (HH.out.below hb)
  replace HB := Aside0.mk (below_step HB.out hb)
  clear hb
  obtain ⟨trust, et⟩ : ∃ trust, trust = trustI long drift := ⟨_, rfl⟩
  rw [← et] at HW
  clear et
  go_wp2
  go_loopg [17, 18] l0.length (fun kq v17 v18 w4 => ∃ (most x : Int) (cur : List Int), v17 = .int .i64 most ∧ v18 = .int .i64 x ∧ Aside0 (∃ j : Nat, x = (j : Int) ∧ j + kq = l0.length) ∧ Aside0 ((1 ≤ cur.length ∧ cur.length ≤ 7) ∧ AskOk cur ∧ ∀ i : Nat, i < cur.length → rd cur i ≤ most) ∧ Aside0 (Lse w4 w.heap.size g b cur trust) ∧ Aside0 (Hld w4 w.heap.size gh long 0 0 0) ∧ Aside0 (Below w.heap.size w w4))
  case atStart => exact ⟨-1, 0, _, rfl, rfl, ⟨0, rfl, by omega⟩, ⟨by rw [List.length_replicate]; have := HNo.out; omega, fun i hi => by rw [List.length_replicate] at hi; exact .inl (rd_replicate _ _ _ hi), fun i hi => by rw [List.length_replicate] at hi; rw [rd_replicate _ _ _ hi]; omega⟩, HW, HH, HB⟩
  case round =>
    obtain ⟨most, x, cur, rfl, rfl, HJ, HI, HW, HH, HB⟩ := hrel
    cases gk with
    | zero =>
      have c0b : decide (x < (l0.length : Int)) = false := decide_eq_false (by obtain ⟨j, e, hj⟩ := HJ.out; omega)
      clear HJ
      by_cases h0 : now < 0
      · have c0 : decide (now < 0) = true := decide_eq_true h0
        clear h0 HW
        go_wp2
        go_ret
        exact ⟨rfl, HB.out⟩
      have c0 : decide (now < 0) = false := decide_eq_false h0
      by_cases h1 : 576460752303423488 < now
      · have c1 : decide (576460752303423488 < now) = true := decide_eq_true h1
        clear h0 h1 HW
        go_wp2
        go_ret
        exact ⟨rfl, HB.out⟩
      have c1 : decide (576460752303423488 < now) = false := decide_eq_false h1
      by_cases h2 : later < now
      · have c2 : decide (later < now) = true := decide_eq_true h2
        clear h0 h1 h2 HW
        go_wp2
        go_ret
        exact ⟨rfl, HB.out⟩
      have c2 : decide (later < now) = false := decide_eq_false h2
      by_cases h3 : 1152921504606846976 < later
      · have c3 : decide (1152921504606846976 < later) = true := decide_eq_true h3
        clear h0 h1 h2 h3 HW
        go_wp2
        go_ret
        exact ⟨rfl, HB.out⟩
      have c3 : decide (1152921504606846976 < later) = false := decide_eq_false h3
      by_cases h4 : 576460752303423488 < most
      · have c4 : decide (576460752303423488 < most) = true := decide_eq_true h4
        clear h0 h1 h2 h3 h4 HW
        go_wp2
        go_ret
        exact ⟨rfl, HB.out⟩
      have c4 : decide (576460752303423488 < most) = false := decide_eq_false h4
      have HG : Aside0 (0 ≤ now ∧ now ≤ 576460752303423488 ∧ now ≤ later ∧ later ≤ 1152921504606846976 ∧ most ≤ 576460752303423488) := ⟨by omega⟩
      clear h0 h1 h2 h3 h4
      by_cases k1 : most ≤ now
      · have kb1 : decide (most ≤ now) = true := decide_eq_true k1
        have HK := Aside0.mk k1
        clear k1
        by_cases k2 : countsB cur trust now = true
        · go_wp2_with fail
          refine (Counts.at now _ HW.out HI.out.2.1 HI.out.1.1 HI.out.1.2 (by have := HG.out; omega)).mono ?_
          rintro e w5 ⟨rfl, ⟨n2, hq⟩⟩
          have hb5 : Below wr.heap.size wr w5 := by subst hq; exact pw_below_drewN (Below.refl _ _) _
          replace HW := Aside0.mk (HW.out.below hb5)
          replace HH := Aside0.mk (HH.out.below hb5)
          replace HB := Aside0.mk (below_step HB.out hb5)
          clear hq hb5
          rw [k2]
          clear k2
          go_wp2_with fail
          refine (Give.at 1 0 now _ (HH.out.below (below_alloc (Below.refl _ _) _)) HLo.out.1 HLo.out.2).mono ?_
          rintro e w6 ⟨rfl, h1, h2⟩
          have hg : giveB 0 0 0 1 0 now = true := by unfold giveB blocksB; rw [decide_eq_false (show ¬ now < 0 by have := HG.out; omega), nowB_iff.mpr (by have := HG.out; unfold MaxC; omega)]; rfl
          rw [hg]
          have e15 : mxI 0 (now + long) = now + long := by unfold mxI; rw [if_pos (by have := HG.out; have := HLo.out; omega)]
          unfold GiveHld at h1
          rw [if_pos hg, e15] at h1
          have hne := (show ¬ (w5.heap.size) = gh by have := HH.out.lt; first | omega | (simp at *; omega))
          have q0 := cell_kept (show (World.alloc (w5) (Obj.cells #[.int .i64 1, .int .i64 0] 34)).cell? ⟨w5.heap.size, 0, none⟩ = some (.int .i64 1) by go_simp) h2.kept hne
          have q1 := cell_kept (show (World.alloc (w5) (Obj.cells #[.int .i64 1, .int .i64 0] 34)).cell? ⟨w5.heap.size, 1, none⟩ = some (.int .i64 0) by go_simp) h2.kept hne
          replace HB := Aside0.mk (h2.below (fun k hk => by rw [hk]; exact HH.out.2) (by have := HB.out.size; simp; omega) (below_alloc (HB.out) _))
          replace HH := Aside0.mk h1
          clear h1 h2 hg e15 hne HW
          go_wp2_with fail
          refine (Until.at _ HH.out).mono ?_
          rintro e w7 ⟨rfl, ⟨n4, rfl⟩⟩
          have hw : IntKind.i64.wrap (now + long) = now + long := by rw [i64_w]; unfold wrap64; have := HG.out; have := HLo.out; omega
          go_wp2_with fail
          refine (Blocks.at 1 0 later _ (HH.out.below (pw_below_drewN (Below.refl _ _) _))).mono ?_
          rintro e w8 ⟨rfl, hb⟩
          rw [show blocksB 1 0 (now + long) 1 0 later = false by unfold blocksB; simp]
          have hb1 := below_step (pw_below_drewN (Below.refl _ _) _) hb
          replace HH := Aside0.mk (HH.out.below hb1)
          replace HB := Aside0.mk (below_step HB.out hb1)
          clear hb hb1 q0 q1
          go_wp2_with fail
          refine (Blocks.at 2 0 later _ HH.out).mono ?_
          rintro e w9 ⟨rfl, hb⟩
          rw [show blocksB 1 0 (now + long) 2 0 later = decide (later < now + long) by unfold blocksB; simp]
          replace HB := Aside0.mk (below_step HB.out hb)
          clear hb
          go_wp2
          go_ret
          exact ⟨by simp, HB.out⟩
        · have k2 : countsB cur trust now = false := by simpa using k2
          have k3 : countsB cur trust later = false := by
            rw [Bool.eq_false_iff]
            intro h
            have := counts_on HI.out.2.2 HK.out HG.out.2.2.1 h
            rw [k2] at this
            exact absurd this (by simp)
          go_wp2_with fail
          refine (Counts.at now _ HW.out HI.out.2.1 HI.out.1.1 HI.out.1.2 (by have := HG.out; omega)).mono ?_
          rintro e w5 ⟨rfl, ⟨n2, hq⟩⟩
          have hb5 : Below wr.heap.size wr w5 := by subst hq; exact pw_below_drewN (Below.refl _ _) _
          replace HW := Aside0.mk (HW.out.below hb5)
          replace HH := Aside0.mk (HH.out.below hb5)
          replace HB := Aside0.mk (below_step HB.out hb5)
          clear hq hb5
          rw [k2]
          go_wp2_with fail
          refine (Counts.at later _ HW.out HI.out.2.1 HI.out.1.1 HI.out.1.2 (by have := HG.out; omega)).mono ?_
          rintro e w5b ⟨rfl, ⟨n3, hq⟩⟩
          have hb5 : Below w5.heap.size w5 w5b := by subst hq; exact pw_below_drewN (Below.refl _ _) _
          replace HW := Aside0.mk (HW.out.below hb5)
          replace HH := Aside0.mk (HH.out.below hb5)
          replace HB := Aside0.mk (below_step HB.out hb5)
          clear hq hb5
          rw [k3]
          clear k2 k3
          go_wp2_with fail
          refine (Give.at 1 0 now _ (HH.out.below (below_alloc (Below.refl _ _) _)) HLo.out.1 HLo.out.2).mono ?_
          rintro e w6 ⟨rfl, h1, h2⟩
          have hg : giveB 0 0 0 1 0 now = true := by unfold giveB blocksB; rw [decide_eq_false (show ¬ now < 0 by have := HG.out; omega), nowB_iff.mpr (by have := HG.out; unfold MaxC; omega)]; rfl
          rw [hg]
          have e15 : mxI 0 (now + long) = now + long := by unfold mxI; rw [if_pos (by have := HG.out; have := HLo.out; omega)]
          unfold GiveHld at h1
          rw [if_pos hg, e15] at h1
          have hne := (show ¬ (w5b.heap.size) = gh by have := HH.out.lt; first | omega | (simp at *; omega))
          have q0 := cell_kept (show (World.alloc (w5b) (Obj.cells #[.int .i64 1, .int .i64 0] 34)).cell? ⟨w5b.heap.size, 0, none⟩ = some (.int .i64 1) by go_simp) h2.kept hne
          have q1 := cell_kept (show (World.alloc (w5b) (Obj.cells #[.int .i64 1, .int .i64 0] 34)).cell? ⟨w5b.heap.size, 1, none⟩ = some (.int .i64 0) by go_simp) h2.kept hne
          replace HB := Aside0.mk (h2.below (fun k hk => by rw [hk]; exact HH.out.2) (by have := HB.out.size; simp; omega) (below_alloc (HB.out) _))
          replace HH := Aside0.mk h1
          clear h1 h2 hg e15 hne HW
          go_wp2_with fail
          refine (Until.at _ HH.out).mono ?_
          rintro e w7 ⟨rfl, ⟨n4, rfl⟩⟩
          have hw : IntKind.i64.wrap (now + long) = now + long := by rw [i64_w]; unfold wrap64; have := HG.out; have := HLo.out; omega
          go_wp2_with fail
          refine (Blocks.at 1 0 later _ (HH.out.below (pw_below_drewN (Below.refl _ _) _))).mono ?_
          rintro e w8 ⟨rfl, hb⟩
          rw [show blocksB 1 0 (now + long) 1 0 later = false by unfold blocksB; simp]
          have hb1 := below_step (pw_below_drewN (Below.refl _ _) _) hb
          replace HH := Aside0.mk (HH.out.below hb1)
          replace HB := Aside0.mk (below_step HB.out hb1)
          clear hb hb1 q0 q1
          go_wp2_with fail
          refine (Blocks.at 2 0 later _ HH.out).mono ?_
          rintro e w9 ⟨rfl, hb⟩
          rw [show blocksB 1 0 (now + long) 2 0 later = decide (later < now + long) by unfold blocksB; simp]
          replace HB := Aside0.mk (below_step HB.out hb)
          clear hb
          go_wp2
          go_ret
          exact ⟨by simp, HB.out⟩
      · have kb1 : decide (most ≤ now) = false := decide_eq_false k1
        clear k1
        go_wp2_with fail
        refine (Give.at 1 0 now _ (HH.out.below (below_alloc (Below.refl _ _) _)) HLo.out.1 HLo.out.2).mono ?_
        rintro e w6 ⟨rfl, h1, h2⟩
        have hg : giveB 0 0 0 1 0 now = true := by unfold giveB blocksB; rw [decide_eq_false (show ¬ now < 0 by have := HG.out; omega), nowB_iff.mpr (by have := HG.out; unfold MaxC; omega)]; rfl
        rw [hg]
        have e15 : mxI 0 (now + long) = now + long := by unfold mxI; rw [if_pos (by have := HG.out; have := HLo.out; omega)]
        unfold GiveHld at h1
        rw [if_pos hg, e15] at h1
        have hne := (show ¬ (wr.heap.size) = gh by have := HH.out.lt; first | omega | (simp at *; omega))
        have q0 := cell_kept (show (World.alloc (wr) (Obj.cells #[.int .i64 1, .int .i64 0] 34)).cell? ⟨wr.heap.size, 0, none⟩ = some (.int .i64 1) by go_simp) h2.kept hne
        have q1 := cell_kept (show (World.alloc (wr) (Obj.cells #[.int .i64 1, .int .i64 0] 34)).cell? ⟨wr.heap.size, 1, none⟩ = some (.int .i64 0) by go_simp) h2.kept hne
        replace HB := Aside0.mk (h2.below (fun k hk => by rw [hk]; exact HH.out.2) (by have := HB.out.size; simp; omega) (below_alloc (HB.out) _))
        replace HH := Aside0.mk h1
        clear h1 h2 hg e15 hne HW
        go_wp2_with fail
        refine (Until.at _ HH.out).mono ?_
        rintro e w7 ⟨rfl, ⟨n4, rfl⟩⟩
        have hw : IntKind.i64.wrap (now + long) = now + long := by rw [i64_w]; unfold wrap64; have := HG.out; have := HLo.out; omega
        go_wp2_with fail
        refine (Blocks.at 1 0 later _ (HH.out.below (pw_below_drewN (Below.refl _ _) _))).mono ?_
        rintro e w8 ⟨rfl, hb⟩
        rw [show blocksB 1 0 (now + long) 1 0 later = false by unfold blocksB; simp]
        have hb1 := below_step (pw_below_drewN (Below.refl _ _) _) hb
        replace HH := Aside0.mk (HH.out.below hb1)
        replace HB := Aside0.mk (below_step HB.out hb1)
        clear hb hb1 q0 q1
        go_wp2_with fail
        refine (Blocks.at 2 0 later _ HH.out).mono ?_
        rintro e w9 ⟨rfl, hb⟩
        rw [show blocksB 1 0 (now + long) 2 0 later = decide (later < now + long) by unfold blocksB; simp]
        replace HB := Aside0.mk (below_step HB.out hb)
        clear hb
        go_wp2
        go_ret
        exact ⟨by simp, HB.out⟩
    | succ m =>
      have c0b : decide (x < (l0.length : Int)) = true := decide_eq_true (by obtain ⟨j, e, hj⟩ := HJ.out; omega)
      have hx1 : IntKind.i64.wrap (x + 1) = x + 1 := by rw [i64_w]; unfold wrap64; obtain ⟨j, e, hj⟩ := HJ.out; have := HY.out; omega
      have c1 : 0 ≤ x := by obtain ⟨j, e, hj⟩ := HJ.out; omega
      have c2 : x < (l0.length : Int) := by obtain ⟨j, e, hj⟩ := HJ.out; omega
      obtain ⟨ad, rfl, hcell⟩ := Kd.at_int (Kd.C_below HR.out HB.out) x c1 c2
      replace c1 := eq_true c1
      replace c2 := eq_true c2
      go_wp2_with fail
      refine (Grant.at _ _ _ HW.out).mono ?_
      rintro e w5 ⟨rfl, h1, h2⟩
      have HJ2 : Aside0 (∃ j : Nat, x + 1 = (j : Int) ∧ j + m = l0.length) := ⟨by obtain ⟨j, e, hj⟩ := HJ.out; exact ⟨j + 1, by omega, by omega⟩⟩
      have HW2 := Aside0.mk h1
      have HH2 := Aside0.mk (HH.out.kept h2.kept (by rintro (e | e) <;> simp [e] at HN <;> exact absurd HN.out (by simp)))
      have HB2 := Aside0.mk (h2.below (fun k hk => by have := HW.out.ge; rcases hk with rfl | rfl <;> omega) HB.out.size HB.out)
      replace hcell : w5.cell? (ad.add x.toNat) = some (.int .i64 (rd l0 x)) := by
        obtain ⟨ad2, e2, h3⟩ := Kd.at_int (Kd.C_below HR.out HB2.out) x (of_eq_true c1) (of_eq_true c2)
        cases e2
        exact h3
      clear h1 h2 HW HH HJ
      by_cases k : most < rd l0 x
      · have kb : decide (most < rd l0 x) = true := decide_eq_true k
        have HI2 : Aside0 ((1 ≤ (grantL cur (x.tmod 7) (rd l0 x)).length ∧ (grantL cur (x.tmod 7) (rd l0 x)).length ≤ 7) ∧ AskOk (grantL cur (x.tmod 7) (rd l0 x)) ∧ ∀ i : Nat, i < (grantL cur (x.tmod 7) (rd l0 x)).length → rd (grantL cur (x.tmod 7) (rd l0 x)) i ≤ rd l0 x) :=
          ⟨by rw [grantL_length]; exact HI.out.1, HI.out.2.1.grant _ _, grant_le (fun i hi => by have := HI.out.2.2 i hi; omega) _ _ (Int.le_refl _)⟩
        clear k
        go_wp2
        go_roundg m
        case measure => omega
        case rel => exact ⟨_, x + 1, _, rfl, rfl, HJ2, HI2, HW2, HH2, HB2⟩
      · have kb : decide (most < rd l0 x) = false := decide_eq_false k
        have HI2 : Aside0 ((1 ≤ (grantL cur (x.tmod 7) (rd l0 x)).length ∧ (grantL cur (x.tmod 7) (rd l0 x)).length ≤ 7) ∧ AskOk (grantL cur (x.tmod 7) (rd l0 x)) ∧ ∀ i : Nat, i < (grantL cur (x.tmod 7) (rd l0 x)).length → rd (grantL cur (x.tmod 7) (rd l0 x)) i ≤ most) :=
          ⟨by rw [grantL_length]; exact HI.out.1, HI.out.2.1.grant _ _, grant_le HI.out.2.2 _ _ (by omega)⟩
        clear k
        go_wp2
        go_roundg m
        case measure => omega
        case rel => exact ⟨_, x + 1, _, rfl, rfl, HJ2, HI2, HW2, HH2, HB2⟩
theorem LeaseEnds.walked (w : World) (nodes : Int) (_ : (Lit.int .i64 nodes).wf = true) (long : Int) (_ : (Lit.int .i64 long).wf = true) (drift : Int) (_ : (Lit.int .i64 drift).wf = true) (A0 : Option Addr) (c0 : Nat) (l0 : List Int) (hr0 : Kd.C (Kd.int .i64) w A0 l0.length l0) (hc0 : l0.length ≤ c0) (_ : ∀ x ∈ l0, (Lit.int .i64 x).wf = true) (y0 : l0.length * 8 ≤ 140737488351232) (now : Int) (_ : (Lit.int .i64 now).wf = true) (later : Int) (_ : (Lit.int .i64 later).wf = true) :
    Calls Try.prog 3 #[.int .i64 nodes, .int .i64 long, .int .i64 drift, .slice A0 l0.length c0, .int .i64 now, .int .i64 later] w fun e w' => e = .returned (.bool true) ∧ Below w.heap.size w w' := by
  by_cases h : lnewB nodes long drift = true
  · exact LeaseEnds.some_ w nodes long drift A0 c0 l0 hr0 y0 now later h
  · exact LeaseEnds.none_ w nodes long drift A0 c0 l0 hr0 y0 now later (by simpa using h)
end Go.Proofs.Ytfmcpceilkkhfaa.P
