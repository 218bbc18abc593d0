/- The statement LeaseDoes: the walk. -/
import Derived.Test.YtfmcpceilkkhfaaRv
import Derived.Test.YtfmcpceilkkhfaaLv2
namespace Go.Proofs.Ytfmcpceilkkhfaa.P
open Go.RowKit Go.Proofs.YtfmcpceilkkhfaaW.PrintWords Go.Proofs.YtfmcpceilkkhfaaW.PrintLast Go.Proofs.YtfmcpceilkkhfaaW.PrintMore
attribute [local go_sem] max2_int min2_int max_two min_two max_three min_three max_four min_four
set_option linter.unusedVariables false
set_option linter.unusedSimpArgs false
theorem list7 {α : Type} {G : List α} (h : G.length = 7) : ∃ p0 p1 p2 p3 p4 p5 p6, G = [p0, p1, p2, p3, p4, p5, p6] := by
  match G, h with
  | [p0, p1, p2, p3, p4, p5, p6], _ => exact ⟨p0, p1, p2, p3, p4, p5, p6, rfl⟩
theorem clearX {W : World} {B g : Nat} {n tr : Int} {G : List (Bool × Int)} (h : RLse W B g n tr G) : RLse ((((((((((((((W.setCell ⟨g, 2, none⟩ (.bool false)).setCell ⟨g, 3, none⟩ (.int .i64 0)).setCell ⟨g, 4, none⟩ (.bool false)).setCell ⟨g, 5, none⟩ (.int .i64 0)).setCell ⟨g, 6, none⟩ (.bool false)).setCell ⟨g, 7, none⟩ (.int .i64 0)).setCell ⟨g, 8, none⟩ (.bool false)).setCell ⟨g, 9, none⟩ (.int .i64 0)).setCell ⟨g, 10, none⟩ (.bool false)).setCell ⟨g, 11, none⟩ (.int .i64 0)).setCell ⟨g, 12, none⟩ (.bool false)).setCell ⟨g, 13, none⟩ (.int .i64 0)).setCell ⟨g, 14, none⟩ (.bool false)).setCell ⟨g, 15, none⟩ (.int .i64 0)) B g n tr (List.replicate 7 (false, 0)) ∧ Fr (fun k => k = g) W ((((((((((((((W.setCell ⟨g, 2, none⟩ (.bool false)).setCell ⟨g, 3, none⟩ (.int .i64 0)).setCell ⟨g, 4, none⟩ (.bool false)).setCell ⟨g, 5, none⟩ (.int .i64 0)).setCell ⟨g, 6, none⟩ (.bool false)).setCell ⟨g, 7, none⟩ (.int .i64 0)).setCell ⟨g, 8, none⟩ (.bool false)).setCell ⟨g, 9, none⟩ (.int .i64 0)).setCell ⟨g, 10, none⟩ (.bool false)).setCell ⟨g, 11, none⟩ (.int .i64 0)).setCell ⟨g, 12, none⟩ (.bool false)).setCell ⟨g, 13, none⟩ (.int .i64 0)).setCell ⟨g, 14, none⟩ (.bool false)).setCell ⟨g, 15, none⟩ (.int .i64 0)) := by
  refine ⟨?_, ((((((((((((((Fr.refl (fun k => k = g) W).setCell (p := ⟨g, 2, none⟩) rfl _).setCell (p := ⟨g, 3, none⟩) rfl _).setCell (p := ⟨g, 4, none⟩) rfl _).setCell (p := ⟨g, 5, none⟩) rfl _).setCell (p := ⟨g, 6, none⟩) rfl _).setCell (p := ⟨g, 7, none⟩) rfl _).setCell (p := ⟨g, 8, none⟩) rfl _).setCell (p := ⟨g, 9, none⟩) rfl _).setCell (p := ⟨g, 10, none⟩) rfl _).setCell (p := ⟨g, 11, none⟩) rfl _).setCell (p := ⟨g, 12, none⟩) rfl _).setCell (p := ⟨g, 13, none⟩) rfl _).setCell (p := ⟨g, 14, none⟩) rfl _).setCell (p := ⟨g, 15, none⟩) rfl _⟩
  have h1 := (((((((h.put 0 false 0).put 1 false 0).put 2 false 0).put 3 false 0).put 4 false 0).put 5 false 0).put 6 false 0)
  obtain ⟨p0, p1, p2, p3, p4, p5, p6, rfl⟩ := list7 h.2.2
  exact h1
set_option maxHeartbeats 4000000 in
set_option maxRecDepth 100000 in
theorem LeaseDoes.bad (w : World) (A0 : Option Addr) (c0 : Nat) (l0 : List O5) (n ls dr : Int) (hn : lnewB n ls dr = false) :
    Calls Try.prog 9 #[.int .i64 n, .int .i64 ls, .int .i64 dr, .slice A0 l0.length c0] w fun e w' => e = .returned (.bool true) ∧ Below w.heap.size w w' := by
  have HN := Aside0.mk hn
  clear hn
  by_cases hl : 1 ≤ ls ∧ ls ≤ 1048576
  · have HL := Aside0.mk hl
    clear hl
    go_enter Try.func9, Try.ntmps9
    go_wp2_with fail
    refine (LNew.bad n ls dr _ HN.out).mono ?_
    rintro e w' ⟨rfl, ⟨m, rfl⟩⟩
    go_wp2_with fail
    refine (RLNew.bad n ls dr _ HN.out).mono ?_
    rintro e w' ⟨rfl, ⟨m2, rfl⟩⟩
    go_wp2_with fail
    refine (NewHold.at ls _ HL.out.1 HL.out.2).mono ?_
    rintro e w3 ⟨g, rfl, _, hb⟩
    have HB : Aside0 (Below w.heap.size w w3) := ⟨below_step (pw_below_drewN (Below.refl _ _) _) hb⟩
    clear hb
    go_wp2_with fail
    refine (RHNew.at w ls _ HL.out.1 HL.out.2 HB.out.size).mono ?_
    rintro e w4 ⟨rfl, _, hb⟩
    replace HB := Aside0.mk (below_step HB.out hb)
    clear hb
    go_wp2_with fail
    refine (lives21.at _).mono ?_
    rintro e w5 ⟨rfl, hb⟩
    replace HB := Aside0.mk (below_step HB.out hb)
    clear hb
    go_wp2
    go_ret
    exact ⟨rfl, HB.out⟩
  · have HL := Aside0.mk hl
    clear hl
    go_enter Try.func9, Try.ntmps9
    go_wp2_with fail
    refine (LNew.bad n ls dr _ HN.out).mono ?_
    rintro e w' ⟨rfl, ⟨m, rfl⟩⟩
    go_wp2_with fail
    refine (RLNew.bad n ls dr _ HN.out).mono ?_
    rintro e w' ⟨rfl, ⟨m2, rfl⟩⟩
    go_wp2_with fail
    refine (NewHold.bad ls _ HL.out).mono ?_
    rintro e w3 ⟨rfl, ⟨m3, rfl⟩⟩
    go_wp2_with fail
    refine (RHNew.bad ls _ HL.out).mono ?_
    rintro e w4 ⟨rfl, ⟨m4, rfl⟩⟩
    go_wp2_with fail
    refine (lives21.at _).mono ?_
    rintro e w5 ⟨rfl, hb⟩
    have HB : Aside0 (Below w.heap.size w w5) := ⟨below_step (pw_below_drewN (Below.refl _ _) _) hb⟩
    clear hb
    go_wp2
    go_ret
    exact ⟨rfl, HB.out⟩
set_option maxHeartbeats 32000000 in
set_option maxRecDepth 100000 in
theorem LeaseDoes.in_ (w : World) (A0 : Option Addr) (c0 : Nat) (l0 : List O5) (hr0 : Kd.C k65 w A0 l0.length l0) (y0 : l0.length < 17592186044416) (hq : ∀ y ∈ l0, o5wf y) (n ls dr : Int) (hn : lnewB n ls dr = true) :
    Calls Try.prog 9 #[.int .i64 n, .int .i64 ls, .int .i64 dr, .slice A0 l0.length c0] w fun e w' => e = .returned (.bool true) ∧ Below w.heap.size w w' := by
  have HNn := Aside0.mk hn
  have HR := Aside0.mk hr0
  have HY := Aside0.mk y0
  have HQ := Aside0.mk hq
  have HL : Aside0 ((1 ≤ ls ∧ ls ≤ 1048576) ∧ 1 ≤ n ∧ n ≤ 7) := ⟨by simp only [lnewB, drB, Bool.and_eq_true, decide_eq_true_eq] at hn; omega⟩
  obtain ⟨tr, etr⟩ : ∃ tr, tr = trustI ls dr := ⟨_, rfl⟩
  have HTr := Aside0.mk etr
  clear hr0 y0 hq hn
  go_enter Try.func9, Try.ntmps9
  go_wp2_with fail
  refine (LNew.at n ls dr _ HNn.out).mono ?_
  rw [← etr]
  rintro e w1 ⟨ga, ba, rfl, hl, hb1⟩
  have HA := Aside0.mk (And.intro hl hb1)
  clear hl hb1
  go_wp2_with fail
  refine (RLNew.at n ls dr _ HNn.out).mono ?_
  rw [← etr]
  rintro e w2 ⟨rfl, hx, hb2⟩
  have HX := Aside0.mk (And.intro hx hb2)
  clear hx hb2 etr
  go_wp2_with fail
  refine (NewHold.at ls _ HL.out.1.1 HL.out.1.2).mono ?_
  rintro e w3 ⟨gh, rfl, hh, hb3⟩
  have HH := Aside0.mk (And.intro hh hb3)
  clear hh hb3
  go_wp2_with fail
  refine (RHNew.at w ls _ HL.out.1.1 HL.out.1.2 (by have := HA.out.2.size; have := HX.out.2.size; have := HH.out.2.size; omega)).mono ?_
  rintro e w4 ⟨rfl, hy, hb4⟩
  have HP : Aside0 (LP w w4 ga ba gh w1.heap.size w3.heap.size n tr ls (List.replicate n.toNat (-1)) (List.replicate 7 (false, 0)) 0 0 0 0 0 0) := ⟨by
    have h1 := HA.out.1.lt
    have h2 := HX.out.2.size
    have h3 := HH.out.1.2
    have h4 := HH.out.1.lt
    have h5 := blk_lt HX.out.1.1
    have h6 := HA.out.2.size
    exact ⟨((HA.out.1.below HX.out.2).below HH.out.2).below hb4, ⟨(HH.out.1.below hb4).1, by omega⟩, ⟨((HX.out.1.below HH.out.2).below hb4).1, h6, HX.out.1.2.2⟩, hy, by omega, below_step (below_step (below_step HA.out.2 HX.out.2) HH.out.2) hb4⟩⟩
  clear hy hb4 HA HX HH
  generalize w1.heap.size = gx at HP ⊢
  generalize w3.heap.size = gy at HP ⊢
  go_wp2_with fail
  refine (lives21.at _).mono ?_
  rintro e w5 ⟨rfl, hb⟩
  have HS : Aside0 (LP w w5 ga ba gh gx gy n tr ls (List.replicate n.toNat (-1)) (List.replicate 7 (false, 0)) 0 0 0 0 0 0 ∧ LR n (List.replicate n.toNat (-1)) (List.replicate 7 (false, 0))) := ⟨HP.out.step hb, LR.new n HL.out.2.1 HL.out.2.2⟩
  clear hb HP
  go_wp2
  go_loopg [9, 13, 17] l0.length (fun kq v9 v13 v17 wc => ∃ (x : Int) (ga ba gh : Nat) (asked : List Int) (G : List (Bool × Int)) (r d u : Int), v9 = .pointer (some ⟨ga, 0, none⟩) ∧ v13 = .pointer (some ⟨gh, 0, none⟩) ∧ v17 = .int .i64 x ∧ Aside0 (∃ j : Nat, x = (j : Int) ∧ j + kq = l0.length) ∧ Aside0 (LP w wc ga ba gh gx gy n tr ls asked G r d u r d u ∧ LR n asked G))
  case atStart => exact ⟨0, ga, ba, gh, _, _, 0, 0, 0, rfl, rfl, rfl, ⟨0, rfl, by omega⟩, HS⟩
  case round =>
    clear HS
    obtain ⟨x, ga, ba, gh, asked, G, r, d, u, rfl, rfl, rfl, HJ, HS⟩ := hrel
    cases gk with
    | zero =>
      have c0b : decide (x < (l0.length : Int)) = false := decide_eq_false (by obtain ⟨j, e, hj⟩ := HJ.out; omega)
      go_wp2
      go_ret
      exact ⟨rfl, HS.out.1.below⟩
    | succ m =>
      have c0b : decide (x < (l0.length : Int)) = true := decide_eq_true (by obtain ⟨j, e, hj⟩ := HJ.out; omega)
      have HX1 : Aside0 (IntKind.i64.wrap (x + 1) = x + 1) := ⟨by rw [i64_w]; unfold wrap64; obtain ⟨j, e, hj⟩ := HJ.out; have := HY.out; omega⟩
      have p0 : 0 ≤ x := by obtain ⟨j, e, hj⟩ := HJ.out; omega
      have p1 : x < (l0.length : Int) := by obtain ⟨j, e, hj⟩ := HJ.out; omega
      obtain ⟨ad, rfl, x0, x1, x2, x3, x4⟩ := at_T65 (Kd.C_below HR.out HS.out.1.below) x p0 p1
      have HWf : Aside0 ((rd65 l0 x).n ≤ 9223372036854775807 ∧ -9223372036854775808 ≤ (rd65 l0 x).n) := ⟨by
        have := (HQ.out (rd65 l0 x) (by
          unfold rd65
          rw [List.getD_eq_getElem?_getD, List.getElem?_eq_getElem (by omega)]
          exact List.getElem_mem _)).2.2.1
        have e1 : IntKind.i64.min = -9223372036854775808 := by rfl
        simp [Lit.wf] at this
        omega⟩
      obtain ⟨kd, ek⟩ : ∃ kd, kd = (rd65 l0 x).kd := ⟨_, rfl⟩
      obtain ⟨nd, en⟩ : ∃ nd, nd = (rd65 l0 x).nd := ⟨_, rfl⟩
      obtain ⟨nn, enn⟩ : ∃ nn, nn = (rd65 l0 x).n := ⟨_, rfl⟩
      obtain ⟨b0, eb0⟩ : ∃ b0, b0 = (rd65 l0 x).b0 := ⟨_, rfl⟩
      obtain ⟨b1, eb1⟩ : ∃ b1, b1 = (rd65 l0 x).b1 := ⟨_, rfl⟩
      rw [← ek] at x0
      rw [← en] at x1
      rw [← enn] at x2 HWf
      rw [← eb0] at x3
      rw [← eb1] at x4
      clear ek en enn eb0 eb1
      replace p0 := eq_true p0
      replace p1 := eq_true p1
      go_upto_region 13 with (fail)
      go_step
      go_step
      first | go_values | go_step
      first | go_values | go_step
      go_step
      go_step
      go_step
      apply wp_seq_k
      intro _ _
      obtain ⟨bo, ebo⟩ : ∃ bo, wr.heap.size = bo := ⟨_, rfl⟩
      obtain ⟨y1, ey1⟩ : ∃ y1, wr.alloc (.cells #[.int .i64 kd, .int .i64 nd, .int .i64 nn, .int .i64 b0, .int .i64 b1] 65) = y1 := ⟨_, rfl⟩
      have HO : Aside0 (y1.heap[bo]? = some (.cells #[.int .i64 kd, .int .i64 nd, .int .i64 nn, .int .i64 b0, .int .i64 b1] 65 (0, 0))) := ⟨by rw [← ey1, ← ebo]; exact blk_new _ _⟩
      have HBo : Aside0 (bo ≠ ga ∧ bo ≠ ba ∧ bo ≠ gh ∧ bo ≠ gx ∧ bo ≠ gy) := ⟨by have := HS.out.1.lt; omega⟩
      replace HS : Aside0 (LP w y1 ga ba gh gx gy n tr ls asked G r d u r d u ∧ LR n asked G) := ⟨HS.out.1.step (by rw [← ey1]; exact below_alloc (Below.refl _ _) _), HS.out.2⟩
      simp only [ey1, ebo]
      clear ey1 ebo x0 x1 x2 x3 x4 p0 p1
      go_cut [9, 13, 19, 20, 21] from 78 to 191 (fun v9 v13 v19 v20 v21 wc => ∃ (ga ba gh : Nat) (asked : List Int) (G : List (Bool × Int)) (r d u : Int), v9 = .pointer (some ⟨ga, 0, none⟩) ∧ v13 = .pointer (some ⟨gh, 0, none⟩) ∧ v19 = .bool true ∧ Aside0 (LP w wc ga ba gh gx gy n tr ls asked G r d u r d u ∧ LR n asked G))
      case first =>
        have o0 : y1.cell? ⟨bo, 0, none⟩ = some (.int .i64 kd) := (blk_cell HO.out 0).trans rfl
        have o1 : y1.cell? ⟨bo, 1, none⟩ = some (.int .i64 nd) := (blk_cell HO.out 1).trans rfl
        have o2 : y1.cell? ⟨bo, 2, none⟩ = some (.int .i64 nn) := (blk_cell HO.out 2).trans rfl
        have o3 : y1.cell? ⟨bo, 3, none⟩ = some (.int .i64 b0) := (blk_cell HO.out 3).trans rfl
        have o4 : y1.cell? ⟨bo, 4, none⟩ = some (.int .i64 b1) := (blk_cell HO.out 4).trans rfl
        have HLen : Aside0 (0 < asked.length ∧ asked.length ≤ 7) := ⟨by have := HS.out.2.len; have := HL.out; omega⟩
        have HOb : Aside0 (∀ w3, Below y1.heap.size y1 w3 → w3.heap[bo]? = some (.cells #[.int .i64 kd, .int .i64 nd, .int .i64 nn, .int .i64 b0, .int .i64 b1] 65 (0, 0))) := ⟨fun w3 hb => blk_below HO.out hb⟩
        by_cases h1 : kd = 1
        · subst h1
          go_wp2_with fail
          refine (Grant.at nd nn _ HS.out.1.lse).mono ?_
          rintro e z1 ⟨rfl, hl, hf⟩
          have HP := Aside0.mk (HS.out.1.setA hl hf)
          have HO1 := Aside0.mk (blk_kept HO.out hf.kept (fun q => q.elim HBo.out.1 HBo.out.2.1))
          clear hl hf o0 o1 o2 o3 o4
          have o1 : z1.cell? ⟨bo, 1, none⟩ = some (.int .i64 nd) := (blk_cell HO1.out 1).trans rfl
          have o2 : z1.cell? ⟨bo, 2, none⟩ = some (.int .i64 nn) := (blk_cell HO1.out 2).trans rfl
          go_wp2_with fail
          refine (RGrant.at nd nn _ HP.out.rls HL.out.2.2).mono ?_
          rintro e z2 ⟨rfl, hp⟩
          have HP2 := Aside0.mk (HP.out.setX hp.1 hp.2)
          clear hp o1 o2
          go_wp2
          go_meet
          case rel => exact ⟨ga, ba, gh, _, _, r, d, u, rfl, rfl, rfl, HP2.out, HS.out.2.grant nd nn⟩
        have n1 : (kd == 1) = false := by rw [beq_eq_false_iff_ne]; exact h1
        by_cases h2 : kd = 2
        · subst h2
          obtain ⟨cb, ecb⟩ : ∃ cb, cb = countsB asked tr nn := ⟨_, rfl⟩
          have HA16 : Aside0 (∀ w2, Below y1.heap.size y1 w2 → Calls Try.prog 16 #[.pointer (some ⟨ga, 0, none⟩), .int .i64 nn] w2 fun e w3 => e = .returned (.bool cb) ∧ w3.cell? ⟨bo, 2, none⟩ = some (.int .i64 nn) ∧ Aside0 (Below y1.heap.size y1 w3)) := ⟨fun w2 hb2 => by
            refine (Counts.at nn w2 (HS.out.1.lse.below hb2) HS.out.2.askOk HLen.out.1 HLen.out.2 HWf.out.1).mono ?_
            rintro e w3 ⟨rfl, hd⟩
            have hb3 := below_step hb2 (Drawn0.below hd)
            exact ⟨by rw [ecb], (blk_cell (HOb.out _ hb3) 2).trans rfl, ⟨hb3⟩⟩⟩
          have HA39 : Aside0 (∀ w2, Aside0 (Below y1.heap.size y1 w2) → Calls Try.prog 39 #[.pointer (some ⟨gx, 0, none⟩), .int .i64 nn] w2 fun e w3 => e = .returned (.bool cb) ∧ Aside0 (Below y1.heap.size y1 w3)) := ⟨fun w2 hb2 => by
            refine (RCounts.at nn w2 (HS.out.1.rls.below hb2.out) HL.out.2.1 HL.out.2.2 (fun i hi => (HS.out.2.ok i hi).2.1) HWf.out.1 HWf.out.2).mono ?_
            rintro e w3 ⟨rfl, hb3⟩
            exact ⟨by rw [ecb, HS.out.2.counts], ⟨below_step hb2.out hb3⟩⟩⟩
          clear ecb
          go_upto_region 19 with (fail)
          refine start_ (n := 10) (S := fun w' => w'.cell? ⟨bo, 2, none⟩ = some (.int .i64 nn)) (ds := [7]) #[false, false, false, false, false, false, false, false, false, false] (by kernel_rfl) rfl rfl (o2) (fun hHeld => ?_)
          refine pure_ (i := 0) (N := some 106) (v := ?_) (a' := ?_) #[true, false, false, false, false, false, false, false, false, false] rfl rfl (by kernel_rfl) (fun _ _ _ h => h) (Or.inl ⟨by rfl, ?_⟩) ?_ ?_
          rotate_left
          · intro w'
            go_simp
            with_reducible rfl
          rotate_left
          · simp only [Act.put, List.setIfInBounds_toArray, List.set_cons_zero, List.set_cons_succ, i64_w, i32_w]
            rfl
          refine pure_ (i := 1) (N := some 107) (v := ?_) (a' := ?_) #[true, true, false, false, false, false, false, false, false, false] rfl rfl (by kernel_rfl) (fun _ _ _ h => h) (Or.inl ⟨by rfl, ?_⟩) ?_ ?_
          rotate_left
          · intro w'
            go_simp
            with_reducible rfl
          rotate_left
          · simp only [Act.put, List.setIfInBounds_toArray, List.set_cons_zero, List.set_cons_succ, i64_w, i32_w]
            rfl
          refine pure_ (i := 4) (N := some 110) (v := ?_) (a' := ?_) #[true, true, false, false, true, false, false, false, false, false] rfl rfl (by kernel_rfl) (fun _ _ _ h => h) (Or.inl ⟨by rfl, ?_⟩) ?_ ?_
          rotate_left
          · intro w'
            go_simp
            with_reducible rfl
          rotate_left
          · simp only [Act.put, List.setIfInBounds_toArray, List.set_cons_zero, List.set_cons_succ, i64_w, i32_w]
            rfl
          refine pure_ (i := 5) (N := some 111) (v := ?_) (a' := ?_) #[true, true, false, false, true, true, false, false, false, false] rfl rfl (by kernel_rfl) (fun _ _ _ h => h) (Or.inl ⟨by rfl, ?_⟩) ?_ ?_
          rotate_left
          · intro w'
            go_simp
            with_reducible rfl
          rotate_left
          · simp only [Act.put, List.setIfInBounds_toArray, List.set_cons_zero, List.set_cons_succ, i64_w, i32_w]
            rfl
          refine take_ (i := 2) (N := some 108) (v := ?_) (a' := ?_) #[true, true, true, false, true, true, false, false, false, false] rfl rfl (by kernel_rfl) (fun _ _ _ h => h) (Or.inl ⟨by rfl, ?_⟩) hHeld ?_ ?_
          rotate_left
          · intro w' s0
            go_simp
            with_reducible rfl
          rotate_left
          · simp only [Act.put, List.setIfInBounds_toArray, List.set_cons_zero, List.set_cons_succ, i64_w, i32_w]
            rfl
          refine take_ (i := 6) (N := some 112) (v := ?_) (a' := ?_) #[true, true, true, false, true, true, true, false, false, false] rfl rfl (by kernel_rfl) (fun _ _ _ h => h) (Or.inl ⟨by rfl, ?_⟩) hHeld ?_ ?_
          rotate_left
          · intro w' s0
            go_simp
            with_reducible rfl
          rotate_left
          · simp only [Act.put, List.setIfInBounds_toArray, List.set_cons_zero, List.set_cons_succ, i64_w, i32_w]
            rfl
          refine one_ (i := 3) (N := some 109) #[true, true, true, true, true, true, true, false, false, false] rfl rfl (by kernel_rfl) (by decide) (fun K hK => ?_)
          refine goes_ Try.func16 (by kernel_rfl) rfl #[.pointer (some ⟨ga, 0, none⟩), .int .i64 nn] (by rfl) rfl rfl (by simp only [List.map_toArray, List.map_cons, List.map_nil]; rfl) ?_
          with_reducible refine (HA16.out _ (Below.drew (Below.refl _ _))).mono ?_
          rintro e z1 ⟨rfl, q2, q4⟩
          refine ⟨_, rfl, ?_⟩
          refine hK.out _ _ (q2) (fun hHeld => ?_)
          clear hK K
          refine norm_ (a' := ?_) ?_ ?_
          rotate_left
          · show Act.put _ (some 109) _ = _
            simp only [Act.put, List.setIfInBounds_toArray, List.set_cons_zero, List.set_cons_succ, i64_w, i32_w]
            rfl
          refine last_ (i := 7) (N := some 113) #[true, true, true, true, true, true, true, true, false, false] rfl rfl (by kernel_rfl) (by decide) (fun K hK => ?_)
          refine goes_ Try.func39 (by kernel_rfl) rfl #[.pointer (some ⟨gx, 0, none⟩), .int .i64 nn] (by rfl) rfl rfl (by simp only [List.map_toArray, List.map_cons, List.map_nil]; rfl) ?_
          with_reducible refine (HA39.out _ q4).mono ?_
          rintro e z2 ⟨rfl, q5⟩
          refine ⟨_, rfl, ?_⟩
          refine hK.out _ _ ?_
          clear hK K
          refine norm_ (a' := ?_) ?_ ?_
          rotate_left
          · show Act.put _ (some 113) _ = _
            simp only [Act.put, List.setIfInBounds_toArray, List.set_cons_zero, List.set_cons_succ, i64_w, i32_w]
            rfl
          refine pure_ (i := 8) (N := some 114) (v := ?_) (a' := ?_) #[true, true, true, true, true, true, true, true, true, false] rfl rfl (by kernel_rfl) (fun _ _ _ h => h) (Or.inl ⟨by rfl, ?_⟩) ?_ ?_
          rotate_left
          · intro w'
            go_simp
            with_reducible rfl
          rotate_left
          · simp only [Act.put, List.setIfInBounds_toArray, List.set_cons_zero, List.set_cons_succ, i64_w, i32_w]
            rfl
          refine pure_ (i := 9) (N := some 19) (v := ?_) (a' := ?_) #[true, true, true, true, true, true, true, true, true, true] rfl rfl (by kernel_rfl) (fun _ _ _ h => h) (Or.inl ⟨by rfl, ?_⟩) ?_ ?_
          rotate_left
          · intro w'
            go_simp
            with_reducible rfl
          rotate_left
          · simp only [Act.put, List.setIfInBounds_toArray, List.set_cons_zero, List.set_cons_succ, i64_w, i32_w]
            rfl
          refine done_ (by kernel_rfl) ?_
          clear hHeld q2 o0 o1 o2 o3 o4
          go_wp2
          go_meet
          case rel => exact ⟨ga, ba, gh, asked, G, r, d, u, rfl, rfl, by simp, HS.out.1.step q5.out, HS.out.2⟩
        have n2 : (kd == 2) = false := by rw [beq_eq_false_iff_ne]; exact h2
        by_cases h3 : kd = 3
        · subst h3
          go_wp2_with fail
          refine (Clear.at _ HS.out.1.lse HLen.out.2).mono ?_
          rintro e z1 ⟨rfl, hl, hf⟩
          have HP := Aside0.mk (HS.out.1.setA hl hf)
          clear hl hf o0 o1 o2 o3 o4
          obtain ⟨p0, p1, p2, p3, p4, p5, p6, eG⟩ := list7 HS.out.2.gl
          have hx : z1.heap[gx]? = some (.cells #[.int .i64 n, .int .i64 tr, .bool p0.1, .int .i64 p0.2, .bool p1.1, .int .i64 p1.2, .bool p2.1, .int .i64 p2.2, .bool p3.1, .int .i64 p3.2, .bool p4.1, .int .i64 p4.2, .bool p5.1, .int .i64 p5.2, .bool p6.1, .int .i64 p6.2] 70 (0, 0)) := by
            have h := HP.out.rls.1
            rw [eG] at h
            exact h
          have c2 : z1.cell? ⟨gx, 2, none⟩ = some (.bool p0.1) := (blk_cell hx 2).trans rfl
          have f2 : z1.frozen? ⟨gx, 2, none⟩ = false := blk_frozen hx 2
          have c3 : z1.cell? ⟨gx, 3, none⟩ = some (.int .i64 p0.2) := (blk_cell hx 3).trans rfl
          have f3 : z1.frozen? ⟨gx, 3, none⟩ = false := blk_frozen hx 3
          have c4 : z1.cell? ⟨gx, 4, none⟩ = some (.bool p1.1) := (blk_cell hx 4).trans rfl
          have f4 : z1.frozen? ⟨gx, 4, none⟩ = false := blk_frozen hx 4
          have c5 : z1.cell? ⟨gx, 5, none⟩ = some (.int .i64 p1.2) := (blk_cell hx 5).trans rfl
          have f5 : z1.frozen? ⟨gx, 5, none⟩ = false := blk_frozen hx 5
          have c6 : z1.cell? ⟨gx, 6, none⟩ = some (.bool p2.1) := (blk_cell hx 6).trans rfl
          have f6 : z1.frozen? ⟨gx, 6, none⟩ = false := blk_frozen hx 6
          have c7 : z1.cell? ⟨gx, 7, none⟩ = some (.int .i64 p2.2) := (blk_cell hx 7).trans rfl
          have f7 : z1.frozen? ⟨gx, 7, none⟩ = false := blk_frozen hx 7
          have c8 : z1.cell? ⟨gx, 8, none⟩ = some (.bool p3.1) := (blk_cell hx 8).trans rfl
          have f8 : z1.frozen? ⟨gx, 8, none⟩ = false := blk_frozen hx 8
          have c9 : z1.cell? ⟨gx, 9, none⟩ = some (.int .i64 p3.2) := (blk_cell hx 9).trans rfl
          have f9 : z1.frozen? ⟨gx, 9, none⟩ = false := blk_frozen hx 9
          have c10 : z1.cell? ⟨gx, 10, none⟩ = some (.bool p4.1) := (blk_cell hx 10).trans rfl
          have f10 : z1.frozen? ⟨gx, 10, none⟩ = false := blk_frozen hx 10
          have c11 : z1.cell? ⟨gx, 11, none⟩ = some (.int .i64 p4.2) := (blk_cell hx 11).trans rfl
          have f11 : z1.frozen? ⟨gx, 11, none⟩ = false := blk_frozen hx 11
          have c12 : z1.cell? ⟨gx, 12, none⟩ = some (.bool p5.1) := (blk_cell hx 12).trans rfl
          have f12 : z1.frozen? ⟨gx, 12, none⟩ = false := blk_frozen hx 12
          have c13 : z1.cell? ⟨gx, 13, none⟩ = some (.int .i64 p5.2) := (blk_cell hx 13).trans rfl
          have f13 : z1.frozen? ⟨gx, 13, none⟩ = false := blk_frozen hx 13
          have c14 : z1.cell? ⟨gx, 14, none⟩ = some (.bool p6.1) := (blk_cell hx 14).trans rfl
          have f14 : z1.frozen? ⟨gx, 14, none⟩ = false := blk_frozen hx 14
          have c15 : z1.cell? ⟨gx, 15, none⟩ = some (.int .i64 p6.2) := (blk_cell hx 15).trans rfl
          have f15 : z1.frozen? ⟨gx, 15, none⟩ = false := blk_frozen hx 15
          have HX := Aside0.mk hx
          clear hx eG
          go_wp2
          go_meet
          case rel => exact ⟨ga, ba, gh, _, _, r, d, u, rfl, rfl, rfl, HP.out.setX (clearX HP.out.rls).1 (clearX HP.out.rls).2, HS.out.2.clear⟩
        have n3 : (kd == 3) = false := by rw [beq_eq_false_iff_ne]; exact h3
        by_cases h4 : kd = 4
        · subst h4
          have HA17 : Aside0 (∀ w2, Below y1.heap.size y1 w2 → Calls Try.prog 17 #[.pointer (some ⟨gh, 0, none⟩), .agg #[.int .i64 b0, .int .i64 b1], .int .i64 nn] w2 fun e w3 => e = .returned (.bool (giveB r d u b0 b1 nn)) ∧ w3.cell? ⟨bo, 2, none⟩ = some (.int .i64 nn) ∧ w3.cell? ⟨bo, 3, none⟩ = some (.int .i64 b0) ∧ w3.cell? ⟨bo, 4, none⟩ = some (.int .i64 b1) ∧ Aside0 (LP w w3 ga ba gh gx gy n tr ls asked G (if giveB r d u b0 b1 nn = true then b0 else r) (if giveB r d u b0 b1 nn = true then b1 else d) (if giveB r d u b0 b1 nn = true then mxI u (nn + ls) else u) r d u)) := ⟨fun w2 hb2 => by
            have h0 := HS.out.1.step hb2
            refine (Give.at b0 b1 nn w2 h0.hld HL.out.1.1 HL.out.1.2).mono ?_
            rintro e w3 ⟨rfl, hg, hf⟩
            have hb3 := blk_kept (HOb.out _ hb2) hf.kept (fun q => HBo.out.2.2.1 q)
            refine ⟨rfl, (blk_cell hb3 2).trans rfl, (blk_cell hb3 3).trans rfl, (blk_cell hb3 4).trans rfl, ⟨h0.setH ?_ hf⟩⟩
            unfold GiveHld at hg
            cases hq : giveB r d u b0 b1 nn with
            | true => rw [hq, if_pos rfl] at hg; simpa using hg
            | false => rw [hq, if_neg (by simp)] at hg; simpa using hg⟩
          have HA41 : Aside0 (∀ w2, Aside0 (LP w w2 ga ba gh gx gy n tr ls asked G (if giveB r d u b0 b1 nn = true then b0 else r) (if giveB r d u b0 b1 nn = true then b1 else d) (if giveB r d u b0 b1 nn = true then mxI u (nn + ls) else u) r d u) → Calls Try.prog 41 #[.pointer (some ⟨gy, 0, none⟩), .agg #[.int .i64 b0, .int .i64 b1], .int .i64 nn] w2 fun e w3 => e = .returned (.bool (giveB r d u b0 b1 nn)) ∧ Aside0 (LP w w3 ga ba gh gx gy n tr ls asked G (if giveB r d u b0 b1 nn = true then b0 else r) (if giveB r d u b0 b1 nn = true then b1 else d) (if giveB r d u b0 b1 nn = true then mxI u (nn + ls) else u) (if giveB r d u b0 b1 nn = true then b0 else r) (if giveB r d u b0 b1 nn = true then b1 else d) (if giveB r d u b0 b1 nn = true then mxI u (nn + ls) else u))) := ⟨fun w2 hh => by
            refine (pannierref21_Hold_Give.calls 1 gy ls r d u b0 b1 nn _ _ _ _ _ w w2 hh.out.rhl hh.out.below (give_f ls r d u b0 b1 nn HL.out.1.1 HL.out.1.2)).mono ?_
            rintro e w3 ⟨rfl, hI, hB, hk⟩
            exact ⟨rfl, ⟨hh.out.setY hI (fr_of_keep hh.out.below hB hk)⟩⟩⟩
          go_upto_region 24 with (fail)
          refine start_ (n := 14) (S := fun w' => w'.cell? ⟨bo, 2, none⟩ = some (.int .i64 nn) ∧ w'.cell? ⟨bo, 3, none⟩ = some (.int .i64 b0) ∧ w'.cell? ⟨bo, 4, none⟩ = some (.int .i64 b1)) (ds := [11]) #[false, false, false, false, false, false, false, false, false, false, false, false, false, false] (by kernel_rfl) rfl rfl ⟨o2, o3, o4⟩ (fun hHeld => ?_)
          refine pure_ (i := 0) (N := some 125) (v := ?_) (a' := ?_) #[true, false, false, false, false, false, false, false, false, false, false, false, false, false] rfl rfl (by kernel_rfl) (fun _ _ _ h => h) (Or.inl ⟨by rfl, ?_⟩) ?_ ?_
          rotate_left
          · intro w'
            go_simp
            with_reducible rfl
          rotate_left
          · simp only [Act.put, List.setIfInBounds_toArray, List.set_cons_zero, List.set_cons_succ, i64_w, i32_w]
            rfl
          refine pure_ (i := 1) (N := some 126) (v := ?_) (a' := ?_) #[true, true, false, false, false, false, false, false, false, false, false, false, false, false] rfl rfl (by kernel_rfl) (fun _ _ _ h => h) (Or.inl ⟨by rfl, ?_⟩) ?_ ?_
          rotate_left
          · intro w'
            go_simp
            with_reducible rfl
          rotate_left
          · simp only [Act.put, List.setIfInBounds_toArray, List.set_cons_zero, List.set_cons_succ, i64_w, i32_w]
            rfl
          refine pure_ (i := 3) (N := some 128) (v := ?_) (a' := ?_) #[true, true, false, true, false, false, false, false, false, false, false, false, false, false] rfl rfl (by kernel_rfl) (fun _ _ _ h => h) (Or.inl ⟨by rfl, ?_⟩) ?_ ?_
          rotate_left
          · intro w'
            go_simp
            with_reducible rfl
          rotate_left
          · simp only [Act.put, List.setIfInBounds_toArray, List.set_cons_zero, List.set_cons_succ, i64_w, i32_w]
            rfl
          refine pure_ (i := 6) (N := some 131) (v := ?_) (a' := ?_) #[true, true, false, true, false, false, true, false, false, false, false, false, false, false] rfl rfl (by kernel_rfl) (fun _ _ _ h => h) (Or.inl ⟨by rfl, ?_⟩) ?_ ?_
          rotate_left
          · intro w'
            go_simp
            with_reducible rfl
          rotate_left
          · simp only [Act.put, List.setIfInBounds_toArray, List.set_cons_zero, List.set_cons_succ, i64_w, i32_w]
            rfl
          refine pure_ (i := 7) (N := some 132) (v := ?_) (a' := ?_) #[true, true, false, true, false, false, true, true, false, false, false, false, false, false] rfl rfl (by kernel_rfl) (fun _ _ _ h => h) (Or.inl ⟨by rfl, ?_⟩) ?_ ?_
          rotate_left
          · intro w'
            go_simp
            with_reducible rfl
          rotate_left
          · simp only [Act.put, List.setIfInBounds_toArray, List.set_cons_zero, List.set_cons_succ, i64_w, i32_w]
            rfl
          refine pure_ (i := 9) (N := some 134) (v := ?_) (a' := ?_) #[true, true, false, true, false, false, true, true, false, true, false, false, false, false] rfl rfl (by kernel_rfl) (fun _ _ _ h => h) (Or.inl ⟨by rfl, ?_⟩) ?_ ?_
          rotate_left
          · intro w'
            go_simp
            with_reducible rfl
          rotate_left
          · simp only [Act.put, List.setIfInBounds_toArray, List.set_cons_zero, List.set_cons_succ, i64_w, i32_w]
            rfl
          refine take_ (i := 2) (N := some 127) (v := ?_) (a' := ?_) #[true, true, true, true, false, false, true, true, false, true, false, false, false, false] rfl rfl (by kernel_rfl) (fun _ _ _ h => h) (Or.inl ⟨by rfl, ?_⟩) hHeld ?_ ?_
          rotate_left
          · rintro w' ⟨s0, s1, s2⟩
            go_simp
            with_reducible rfl
          rotate_left
          · simp only [Act.put, List.setIfInBounds_toArray, List.set_cons_zero, List.set_cons_succ, i64_w, i32_w]
            rfl
          refine take_ (i := 4) (N := some 129) (v := ?_) (a' := ?_) #[true, true, true, true, true, false, true, true, false, true, false, false, false, false] rfl rfl (by kernel_rfl) (fun _ _ _ h => h) (Or.inl ⟨by rfl, ?_⟩) hHeld ?_ ?_
          rotate_left
          · rintro w' ⟨s0, s1, s2⟩
            go_simp
            with_reducible rfl
          rotate_left
          · simp only [Act.put, List.setIfInBounds_toArray, List.set_cons_zero, List.set_cons_succ, i64_w, i32_w]
            rfl
          refine take_ (i := 8) (N := some 133) (v := ?_) (a' := ?_) #[true, true, true, true, true, false, true, true, true, true, false, false, false, false] rfl rfl (by kernel_rfl) (fun _ _ _ h => h) (Or.inl ⟨by rfl, ?_⟩) hHeld ?_ ?_
          rotate_left
          · rintro w' ⟨s0, s1, s2⟩
            go_simp
            with_reducible rfl
          rotate_left
          · simp only [Act.put, List.setIfInBounds_toArray, List.set_cons_zero, List.set_cons_succ, i64_w, i32_w]
            rfl
          refine take_ (i := 10) (N := some 135) (v := ?_) (a' := ?_) #[true, true, true, true, true, false, true, true, true, true, true, false, false, false] rfl rfl (by kernel_rfl) (fun _ _ _ h => h) (Or.inl ⟨by rfl, ?_⟩) hHeld ?_ ?_
          rotate_left
          · rintro w' ⟨s0, s1, s2⟩
            go_simp
            with_reducible rfl
          rotate_left
          · simp only [Act.put, List.setIfInBounds_toArray, List.set_cons_zero, List.set_cons_succ, i64_w, i32_w]
            rfl
          refine one_ (i := 5) (N := some 130) #[true, true, true, true, true, true, true, true, true, true, true, false, false, false] rfl rfl (by kernel_rfl) (by decide) (fun K hK => ?_)
          refine goes_ Try.func17 (by kernel_rfl) rfl #[.pointer (some ⟨gh, 0, none⟩), .agg #[.int .i64 b0, .int .i64 b1], .int .i64 nn] (by rfl) rfl rfl (by simp only [List.map_toArray, List.map_cons, List.map_nil]; rfl) ?_
          with_reducible refine (HA17.out _ (Below.drew (Below.refl _ _))).mono ?_
          rintro e z1 ⟨rfl, q2, q3, q4, q6⟩
          refine ⟨_, rfl, ?_⟩
          refine hK.out _ _ ⟨q2, q3, q4⟩ (fun hHeld => ?_)
          clear hK K
          refine norm_ (a' := ?_) ?_ ?_
          rotate_left
          · show Act.put _ (some 130) _ = _
            simp only [Act.put, List.setIfInBounds_toArray, List.set_cons_zero, List.set_cons_succ, i64_w, i32_w]
            rfl
          refine last_ (i := 11) (N := some 136) #[true, true, true, true, true, true, true, true, true, true, true, true, false, false] rfl rfl (by kernel_rfl) (by decide) (fun K hK => ?_)
          refine goes_ Try.func41 (by kernel_rfl) rfl #[.pointer (some ⟨gy, 0, none⟩), .agg #[.int .i64 b0, .int .i64 b1], .int .i64 nn] (by rfl) rfl rfl (by simp only [List.map_toArray, List.map_cons, List.map_nil]; rfl) ?_
          with_reducible refine (HA41.out _ q6).mono ?_
          rintro e z2 ⟨rfl, q5⟩
          refine ⟨_, rfl, ?_⟩
          refine hK.out _ _ ?_
          clear hK K
          refine norm_ (a' := ?_) ?_ ?_
          rotate_left
          · show Act.put _ (some 136) _ = _
            simp only [Act.put, List.setIfInBounds_toArray, List.set_cons_zero, List.set_cons_succ, i64_w, i32_w]
            rfl
          refine pure_ (i := 12) (N := some 137) (v := ?_) (a' := ?_) #[true, true, true, true, true, true, true, true, true, true, true, true, true, false] rfl rfl (by kernel_rfl) (fun _ _ _ h => h) (Or.inl ⟨by rfl, ?_⟩) ?_ ?_
          rotate_left
          · intro w'
            go_simp
            with_reducible rfl
          rotate_left
          · simp only [Act.put, List.setIfInBounds_toArray, List.set_cons_zero, List.set_cons_succ, i64_w, i32_w]
            rfl
          refine pure_ (i := 13) (N := some 19) (v := ?_) (a' := ?_) #[true, true, true, true, true, true, true, true, true, true, true, true, true, true] rfl rfl (by kernel_rfl) (fun _ _ _ h => h) (Or.inl ⟨by rfl, ?_⟩) ?_ ?_
          rotate_left
          · intro w'
            go_simp
            with_reducible rfl
          rotate_left
          · simp only [Act.put, List.setIfInBounds_toArray, List.set_cons_zero, List.set_cons_succ, i64_w, i32_w]
            rfl
          refine done_ (by kernel_rfl) ?_
          clear hHeld q2 q3 q4 o0 o1 o2 o3 o4
          go_wp2
          go_meet
          case rel => exact ⟨ga, ba, gh, asked, G, _, _, _, rfl, rfl, by simp, q5.out, HS.out.2⟩
        have n4 : (kd == 4) = false := by rw [beq_eq_false_iff_ne]; exact h4
        by_cases h5 : kd = 5
        · subst h5
          have HA19 : Aside0 (∀ w2, Below y1.heap.size y1 w2 → Calls Try.prog 19 #[.pointer (some ⟨gh, 0, none⟩), .agg #[.int .i64 b0, .int .i64 b1], .int .i64 nn] w2 fun e w3 => e = .returned (.bool (blocksB r d u b0 b1 nn)) ∧ w3.cell? ⟨bo, 2, none⟩ = some (.int .i64 nn) ∧ w3.cell? ⟨bo, 3, none⟩ = some (.int .i64 b0) ∧ w3.cell? ⟨bo, 4, none⟩ = some (.int .i64 b1) ∧ Aside0 (Below y1.heap.size y1 w3)) := ⟨fun w2 hb2 => by
            refine (Blocks.at b0 b1 nn w2 (HS.out.1.hld.below hb2)).mono ?_
            rintro e w3 ⟨rfl, hb⟩
            have hb3 := below_step hb2 hb
            exact ⟨rfl, (blk_cell (HOb.out _ hb3) 2).trans rfl, (blk_cell (HOb.out _ hb3) 3).trans rfl, (blk_cell (HOb.out _ hb3) 4).trans rfl, ⟨hb3⟩⟩⟩
          have HA42 : Aside0 (∀ w2, Aside0 (Below y1.heap.size y1 w2) → Calls Try.prog 42 #[.pointer (some ⟨gy, 0, none⟩), .agg #[.int .i64 b0, .int .i64 b1], .int .i64 nn] w2 fun e w3 => e = .returned (.bool (blocksB r d u b0 b1 nn)) ∧ Aside0 (LP w w3 ga ba gh gx gy n tr ls asked G r d u r d u)) := ⟨fun w2 hb2 => by
            have h0 := HS.out.1.step hb2.out
            refine (pannierref21_Hold_Blocks.calls gy ls r d u b0 b1 nn _ _ _ _ _ w w2 h0.rhl h0.below (blocks_f ls r d u b0 b1 nn)).mono ?_
            rintro e w3 ⟨rfl, hI, hB, hk⟩
            exact ⟨rfl, ⟨h0.setY hI (fr_of_keep h0.below hB hk)⟩⟩⟩
          go_upto_region 26 with (fail)
          refine start_ (n := 14) (S := fun w' => w'.cell? ⟨bo, 2, none⟩ = some (.int .i64 nn) ∧ w'.cell? ⟨bo, 3, none⟩ = some (.int .i64 b0) ∧ w'.cell? ⟨bo, 4, none⟩ = some (.int .i64 b1)) (ds := [11]) #[false, false, false, false, false, false, false, false, false, false, false, false, false, false] (by kernel_rfl) rfl rfl ⟨o2, o3, o4⟩ (fun hHeld => ?_)
          refine pure_ (i := 0) (N := some 140) (v := ?_) (a' := ?_) #[true, false, false, false, false, false, false, false, false, false, false, false, false, false] rfl rfl (by kernel_rfl) (fun _ _ _ h => h) (Or.inl ⟨by rfl, ?_⟩) ?_ ?_
          rotate_left
          · intro w'
            go_simp
            with_reducible rfl
          rotate_left
          · simp only [Act.put, List.setIfInBounds_toArray, List.set_cons_zero, List.set_cons_succ, i64_w, i32_w]
            rfl
          refine pure_ (i := 1) (N := some 141) (v := ?_) (a' := ?_) #[true, true, false, false, false, false, false, false, false, false, false, false, false, false] rfl rfl (by kernel_rfl) (fun _ _ _ h => h) (Or.inl ⟨by rfl, ?_⟩) ?_ ?_
          rotate_left
          · intro w'
            go_simp
            with_reducible rfl
          rotate_left
          · simp only [Act.put, List.setIfInBounds_toArray, List.set_cons_zero, List.set_cons_succ, i64_w, i32_w]
            rfl
          refine pure_ (i := 3) (N := some 143) (v := ?_) (a' := ?_) #[true, true, false, true, false, false, false, false, false, false, false, false, false, false] rfl rfl (by kernel_rfl) (fun _ _ _ h => h) (Or.inl ⟨by rfl, ?_⟩) ?_ ?_
          rotate_left
          · intro w'
            go_simp
            with_reducible rfl
          rotate_left
          · simp only [Act.put, List.setIfInBounds_toArray, List.set_cons_zero, List.set_cons_succ, i64_w, i32_w]
            rfl
          refine pure_ (i := 6) (N := some 146) (v := ?_) (a' := ?_) #[true, true, false, true, false, false, true, false, false, false, false, false, false, false] rfl rfl (by kernel_rfl) (fun _ _ _ h => h) (Or.inl ⟨by rfl, ?_⟩) ?_ ?_
          rotate_left
          · intro w'
            go_simp
            with_reducible rfl
          rotate_left
          · simp only [Act.put, List.setIfInBounds_toArray, List.set_cons_zero, List.set_cons_succ, i64_w, i32_w]
            rfl
          refine pure_ (i := 7) (N := some 147) (v := ?_) (a' := ?_) #[true, true, false, true, false, false, true, true, false, false, false, false, false, false] rfl rfl (by kernel_rfl) (fun _ _ _ h => h) (Or.inl ⟨by rfl, ?_⟩) ?_ ?_
          rotate_left
          · intro w'
            go_simp
            with_reducible rfl
          rotate_left
          · simp only [Act.put, List.setIfInBounds_toArray, List.set_cons_zero, List.set_cons_succ, i64_w, i32_w]
            rfl
          refine pure_ (i := 9) (N := some 149) (v := ?_) (a' := ?_) #[true, true, false, true, false, false, true, true, false, true, false, false, false, false] rfl rfl (by kernel_rfl) (fun _ _ _ h => h) (Or.inl ⟨by rfl, ?_⟩) ?_ ?_
          rotate_left
          · intro w'
            go_simp
            with_reducible rfl
          rotate_left
          · simp only [Act.put, List.setIfInBounds_toArray, List.set_cons_zero, List.set_cons_succ, i64_w, i32_w]
            rfl
          refine take_ (i := 2) (N := some 142) (v := ?_) (a' := ?_) #[true, true, true, true, false, false, true, true, false, true, false, false, false, false] rfl rfl (by kernel_rfl) (fun _ _ _ h => h) (Or.inl ⟨by rfl, ?_⟩) hHeld ?_ ?_
          rotate_left
          · rintro w' ⟨s0, s1, s2⟩
            go_simp
            with_reducible rfl
          rotate_left
          · simp only [Act.put, List.setIfInBounds_toArray, List.set_cons_zero, List.set_cons_succ, i64_w, i32_w]
            rfl
          refine take_ (i := 4) (N := some 144) (v := ?_) (a' := ?_) #[true, true, true, true, true, false, true, true, false, true, false, false, false, false] rfl rfl (by kernel_rfl) (fun _ _ _ h => h) (Or.inl ⟨by rfl, ?_⟩) hHeld ?_ ?_
          rotate_left
          · rintro w' ⟨s0, s1, s2⟩
            go_simp
            with_reducible rfl
          rotate_left
          · simp only [Act.put, List.setIfInBounds_toArray, List.set_cons_zero, List.set_cons_succ, i64_w, i32_w]
            rfl
          refine take_ (i := 8) (N := some 148) (v := ?_) (a' := ?_) #[true, true, true, true, true, false, true, true, true, true, false, false, false, false] rfl rfl (by kernel_rfl) (fun _ _ _ h => h) (Or.inl ⟨by rfl, ?_⟩) hHeld ?_ ?_
          rotate_left
          · rintro w' ⟨s0, s1, s2⟩
            go_simp
            with_reducible rfl
          rotate_left
          · simp only [Act.put, List.setIfInBounds_toArray, List.set_cons_zero, List.set_cons_succ, i64_w, i32_w]
            rfl
          refine take_ (i := 10) (N := some 150) (v := ?_) (a' := ?_) #[true, true, true, true, true, false, true, true, true, true, true, false, false, false] rfl rfl (by kernel_rfl) (fun _ _ _ h => h) (Or.inl ⟨by rfl, ?_⟩) hHeld ?_ ?_
          rotate_left
          · rintro w' ⟨s0, s1, s2⟩
            go_simp
            with_reducible rfl
          rotate_left
          · simp only [Act.put, List.setIfInBounds_toArray, List.set_cons_zero, List.set_cons_succ, i64_w, i32_w]
            rfl
          refine one_ (i := 5) (N := some 145) #[true, true, true, true, true, true, true, true, true, true, true, false, false, false] rfl rfl (by kernel_rfl) (by decide) (fun K hK => ?_)
          refine goes_ Try.func19 (by kernel_rfl) rfl #[.pointer (some ⟨gh, 0, none⟩), .agg #[.int .i64 b0, .int .i64 b1], .int .i64 nn] (by rfl) rfl rfl (by simp only [List.map_toArray, List.map_cons, List.map_nil]; rfl) ?_
          with_reducible refine (HA19.out _ (Below.drew (Below.refl _ _))).mono ?_
          rintro e z1 ⟨rfl, q2, q3, q4, q6⟩
          refine ⟨_, rfl, ?_⟩
          refine hK.out _ _ ⟨q2, q3, q4⟩ (fun hHeld => ?_)
          clear hK K
          refine norm_ (a' := ?_) ?_ ?_
          rotate_left
          · show Act.put _ (some 145) _ = _
            simp only [Act.put, List.setIfInBounds_toArray, List.set_cons_zero, List.set_cons_succ, i64_w, i32_w]
            rfl
          refine last_ (i := 11) (N := some 151) #[true, true, true, true, true, true, true, true, true, true, true, true, false, false] rfl rfl (by kernel_rfl) (by decide) (fun K hK => ?_)
          refine goes_ Try.func42 (by kernel_rfl) rfl #[.pointer (some ⟨gy, 0, none⟩), .agg #[.int .i64 b0, .int .i64 b1], .int .i64 nn] (by rfl) rfl rfl (by simp only [List.map_toArray, List.map_cons, List.map_nil]; rfl) ?_
          with_reducible refine (HA42.out _ q6).mono ?_
          rintro e z2 ⟨rfl, q5⟩
          refine ⟨_, rfl, ?_⟩
          refine hK.out _ _ ?_
          clear hK K
          refine norm_ (a' := ?_) ?_ ?_
          rotate_left
          · show Act.put _ (some 151) _ = _
            simp only [Act.put, List.setIfInBounds_toArray, List.set_cons_zero, List.set_cons_succ, i64_w, i32_w]
            rfl
          refine pure_ (i := 12) (N := some 152) (v := ?_) (a' := ?_) #[true, true, true, true, true, true, true, true, true, true, true, true, true, false] rfl rfl (by kernel_rfl) (fun _ _ _ h => h) (Or.inl ⟨by rfl, ?_⟩) ?_ ?_
          rotate_left
          · intro w'
            go_simp
            with_reducible rfl
          rotate_left
          · simp only [Act.put, List.setIfInBounds_toArray, List.set_cons_zero, List.set_cons_succ, i64_w, i32_w]
            rfl
          refine pure_ (i := 13) (N := some 19) (v := ?_) (a' := ?_) #[true, true, true, true, true, true, true, true, true, true, true, true, true, true] rfl rfl (by kernel_rfl) (fun _ _ _ h => h) (Or.inl ⟨by rfl, ?_⟩) ?_ ?_
          rotate_left
          · intro w'
            go_simp
            with_reducible rfl
          rotate_left
          · simp only [Act.put, List.setIfInBounds_toArray, List.set_cons_zero, List.set_cons_succ, i64_w, i32_w]
            rfl
          refine done_ (by kernel_rfl) ?_
          clear hHeld q2 q3 q4 o0 o1 o2 o3 o4
          go_wp2
          go_meet
          case rel => exact ⟨ga, ba, gh, asked, G, _, _, _, rfl, rfl, by simp, q5.out, HS.out.2⟩
        have n5 : (kd == 5) = false := by rw [beq_eq_false_iff_ne]; exact h5
        by_cases h6 : kd = 6
        · subst h6
          go_wp2_with fail
          refine (Restart.at nn _ HS.out.1.hld HL.out.1.1 HL.out.1.2).mono ?_
          rintro e z1 ⟨rfl, hg, hf⟩
          have HP : Aside0 (LP w z1 ga ba gh gx gy n tr ls asked G (if nowB nn = true then 0 else r) (if nowB nn = true then 0 else d) (if nowB nn = true then mxI u (nn + ls) else u) r d u) := ⟨HS.out.1.setH (by
            unfold RestHld at hg
            cases hq : nowB nn with
            | true => rw [hq, if_pos rfl] at hg; simpa using hg
            | false => rw [hq, if_neg (by simp)] at hg; simpa using hg) hf⟩
          have HO1 := Aside0.mk (blk_kept HO.out hf.kept (fun q => HBo.out.2.2.1 q))
          clear hg hf o0 o1 o2 o3 o4
          have o2 : z1.cell? ⟨bo, 2, none⟩ = some (.int .i64 nn) := (blk_cell HO1.out 2).trans rfl
          go_wp2_with fail
          refine (pannierref21_Hold_Restart.calls 1 gy ls r d u nn _ _ _ _ w _ HP.out.rhl HP.out.below (restart_f ls r d u nn HL.out.1.1 HL.out.1.2)).mono ?_
          rintro e z2 ⟨rfl, hI, hB, hk⟩
          have HP2 := Aside0.mk (HP.out.setY hI (fr_of_keep HP.out.below hB hk))
          clear hI hB hk o2
          go_wp2
          go_meet
          case rel => exact ⟨ga, ba, gh, asked, G, _, _, _, rfl, rfl, rfl, HP2.out, HS.out.2⟩
        have n6 : (kd == 6) = false := by rw [beq_eq_false_iff_ne]; exact h6
        by_cases h7 : kd = 7
        · subst h7
          go_wp2_with fail
          refine (LFork.at _ HS.out.1.lse HLen.out.1 HLen.out.2).mono ?_
          rintro e z1 ⟨g2, ba2, rfl, hl, hb⟩
          have HP1 := Aside0.mk (HS.out.1.forkA hl hb)
          have HOld := Aside0.mk (HS.out.1.lse.below hb)
          have HN1 : Aside0 (y1.heap.size ≤ g2 ∧ y1.heap.size ≤ ba2 ∧ y1.heap.size ≤ z1.heap.size) := ⟨hl.ge.1, hl.ge.2.1, hb.size⟩
          clear hl hb o0 o1 o2 o3 o4
          go_wp2_with fail
          refine (HFork.at _ HP1.out.hld).mono ?_
          rintro e z2 ⟨h2', rfl, hh, hb⟩
          have HP2 := Aside0.mk (HP1.out.forkH hh hb)
          have HOldH := Aside0.mk (HP1.out.hld.below hb)
          replace HOld := Aside0.mk (HOld.out.below hb)
          have HN2 : Aside0 (z1.heap.size ≤ h2') := ⟨hh.2⟩
          have HLt := Aside0.mk HS.out.1.lt
          have HAp := Aside0.mk HS.out.1.apart
          have HGe := Aside0.mk (And.intro HS.out.1.lse.ge HS.out.1.hld.2)
          clear hh hb
          go_wp2_with fail
          refine (Clear.at _ HOld.out HLen.out.2).mono ?_
          rintro e z3 ⟨rfl, _, hf⟩
          have HP3 := Aside0.mk (HP2.out.away hf (fun k q => by have := HN1.out; have := HN2.out; have := HLt.out; have := HAp.out; have := HGe.out; rcases q with rfl | rfl <;> omega))
          replace HOldH := Aside0.mk (HOldH.out.kept hf.kept (fun q => q.elim HAp.out.1.1 HAp.out.1.2))
          clear hf
          go_wp2_with fail
          refine (Restart.at 1099511627776 _ HOldH.out HL.out.1.1 HL.out.1.2).mono ?_
          rintro e z4 ⟨rfl, _, hf⟩
          have HP4 := Aside0.mk (HP3.out.away hf (fun k q => by have := HN1.out; have := HN2.out; have := HLt.out; have := HAp.out; have := HGe.out; have q : k = gh := q; subst q; omega))
          clear hf
          go_wp2
          go_meet
          case rel => exact ⟨g2, ba2, h2', asked, G, r, d, u, rfl, rfl, rfl, HP4.out, HS.out.2⟩
        have n7 : (kd == 7) = false := by rw [beq_eq_false_iff_ne]; exact h7
        clear h1 h2 h3 h4 h5 h6 h7
        go_wp2
        go_meet
        case rel => exact ⟨ga, ba, gh, asked, G, r, d, u, rfl, rfl, rfl, HS⟩
      case rest =>
        clear HS HO HBo
        obtain ⟨ga2, ba2, gh2, asked2, G2, r2, d2, u2, rfl, rfl, rfl, HS⟩ := hcut
        have HA18 : Aside0 (∀ w2, Below wc.heap.size wc w2 → Calls Try.prog 18 #[.pointer (some ⟨gh2, 0, none⟩)] w2 fun e w3 => e = .returned (.int .i64 u2) ∧ w3.cell? ⟨gy, 3, none⟩ = some (.int .i64 u2) ∧ Aside0 (Below wc.heap.size wc w3)) := ⟨fun w2 hb2 => by
          refine (Until.at w2 (HS.out.1.hld.below hb2)).mono ?_
          rintro e w3 ⟨rfl, hd⟩
          have hb3 := below_step hb2 (Drawn0.below hd)
          exact ⟨rfl, (blk_cell (blk_below HS.out.1.rhl.1 hb3) 3).trans rfl, ⟨hb3⟩⟩⟩
        have q3 : wc.cell? ⟨gy, 3, none⟩ = some (.int .i64 u2) := (blk_cell HS.out.1.rhl.1 3).trans rfl
        have hx1 := HX1.out
        go_upto_region 37 with (fail)
        refine start_ (n := 11) (S := fun w' => w'.cell? ⟨gy, 3, none⟩ = some (.int .i64 u2)) (ds := []) #[false, false, false, false, false, false, false, false, false, false, false] (by kernel_rfl) rfl rfl (q3) (fun hHeld => ?_)
        refine pure_ (i := 0) (N := some 181) (v := ?_) (a' := ?_) #[true, false, false, false, false, false, false, false, false, false, false] rfl rfl (by kernel_rfl) (fun _ _ _ h => h) (Or.inl ⟨by rfl, ?_⟩) ?_ ?_
        rotate_left
        · intro w'
          go_simp
          with_reducible rfl
        rotate_left
        · simp only [Act.put, List.setIfInBounds_toArray, List.set_cons_zero, List.set_cons_succ, i64_w, i32_w]
          rfl
        refine pure_ (i := 1) (N := some 182) (v := ?_) (a' := ?_) #[true, true, false, false, false, false, false, false, false, false, false] rfl rfl (by kernel_rfl) (fun _ _ _ h => h) (Or.inl ⟨by rfl, ?_⟩) ?_ ?_
        rotate_left
        · intro w'
          go_simp
          with_reducible rfl
        rotate_left
        · simp only [Act.put, List.setIfInBounds_toArray, List.set_cons_zero, List.set_cons_succ, i64_w, i32_w]
          rfl
        refine pure_ (i := 2) (N := some 183) (v := ?_) (a' := ?_) #[true, true, true, false, false, false, false, false, false, false, false] rfl rfl (by kernel_rfl) (fun _ _ _ h => h) (Or.inl ⟨by rfl, ?_⟩) ?_ ?_
        rotate_left
        · intro w'
          go_simp
          with_reducible rfl
        rotate_left
        · simp only [Act.put, List.setIfInBounds_toArray, List.set_cons_zero, List.set_cons_succ, i64_w, i32_w]
          rfl
        refine pure_ (i := 3) (N := some 184) (v := ?_) (a' := ?_) #[true, true, true, true, false, false, false, false, false, false, false] rfl rfl (by kernel_rfl) (fun _ _ _ h => h) (Or.inl ⟨by rfl, ?_⟩) ?_ ?_
        rotate_left
        · intro w'
          go_simp
          with_reducible rfl
        rotate_left
        · simp only [Act.put, List.setIfInBounds_toArray, List.set_cons_zero, List.set_cons_succ, i64_w, i32_w]
          rfl
        refine pure_ (i := 5) (N := some 186) (v := ?_) (a' := ?_) #[true, true, true, true, false, true, false, false, false, false, false] rfl rfl (by kernel_rfl) (fun _ _ _ h => h) (Or.inl ⟨by rfl, ?_⟩) ?_ ?_
        rotate_left
        · intro w'
          go_simp
          with_reducible rfl
        rotate_left
        · simp only [Act.put, List.setIfInBounds_toArray, List.set_cons_zero, List.set_cons_succ, i64_w, i32_w]
          rfl
        refine pure_ (i := 6) (N := some 187) (v := ?_) (a' := ?_) #[true, true, true, true, false, true, true, false, false, false, false] rfl rfl (by kernel_rfl) (fun _ _ _ h => h) (Or.inl ⟨by rfl, ?_⟩) ?_ ?_
        rotate_left
        · intro w'
          go_simp
          with_reducible rfl
        rotate_left
        · simp only [Act.put, List.setIfInBounds_toArray, List.set_cons_zero, List.set_cons_succ, i64_w, i32_w]
          rfl
        refine pure_ (i := 7) (N := some 188) (v := ?_) (a' := ?_) #[true, true, true, true, false, true, true, true, false, false, false] rfl rfl (by kernel_rfl) (fun _ _ _ h => h) (Or.inl ⟨by rfl, ?_⟩) ?_ ?_
        rotate_left
        · intro w'
          go_simp
          with_reducible rfl
        rotate_left
        · simp only [Act.put, List.setIfInBounds_toArray, List.set_cons_zero, List.set_cons_succ, i64_w, i32_w]
          rfl
        refine take_ (i := 8) (N := some 189) (v := ?_) (a' := ?_) #[true, true, true, true, false, true, true, true, true, false, false] rfl rfl (by kernel_rfl) (fun _ _ _ h => h) (Or.inl ⟨by rfl, ?_⟩) hHeld ?_ ?_
        rotate_left
        · intro w' s0
          go_simp
          with_reducible rfl
        rotate_left
        · simp only [Act.put, List.setIfInBounds_toArray, List.set_cons_zero, List.set_cons_succ, i64_w, i32_w]
          rfl
        refine one_ (i := 4) (N := some 185) #[true, true, true, true, true, true, true, true, true, false, false] rfl rfl (by kernel_rfl) (by decide) (fun K hK => ?_)
        refine goes_ Try.func18 (by kernel_rfl) rfl #[.pointer (some ⟨gh2, 0, none⟩)] (by rfl) rfl rfl (by simp only [List.map_toArray, List.map_cons, List.map_nil]; rfl) ?_
        with_reducible refine (HA18.out _ (Below.drew (Below.refl _ _))).mono ?_
        rintro e z1 ⟨rfl, q5, q6⟩
        refine ⟨_, rfl, ?_⟩
        refine hK.out _ _ (q5) (fun hHeld => ?_)
        clear hK K
        refine norm_ (a' := ?_) ?_ ?_
        rotate_left
        · show Act.put _ (some 185) _ = _
          simp only [Act.put, List.setIfInBounds_toArray, List.set_cons_zero, List.set_cons_succ, i64_w, i32_w]
          rfl
        refine pure_ (i := 9) (N := some 190) (v := ?_) (a' := ?_) #[true, true, true, true, true, true, true, true, true, true, false] rfl rfl (by kernel_rfl) (fun _ _ _ h => h) (Or.inl ⟨by rfl, ?_⟩) ?_ ?_
        rotate_left
        · intro w'
          go_simp
          with_reducible rfl
        rotate_left
        · simp only [Act.put, List.setIfInBounds_toArray, List.set_cons_zero, List.set_cons_succ, i64_w, i32_w]
          rfl
        refine pure_ (i := 10) (N := some 191) (v := ?_) (a' := ?_) #[true, true, true, true, true, true, true, true, true, true, true] rfl rfl (by kernel_rfl) (fun _ _ _ h => h) (Or.inl ⟨by rfl, ?_⟩) ?_ ?_
        rotate_left
        · intro w'
          go_simp
          with_reducible rfl
        rotate_left
        · simp only [Act.put, List.setIfInBounds_toArray, List.set_cons_zero, List.set_cons_succ, i64_w, i32_w]
          rfl
        refine done_ (by kernel_rfl) ?_
        clear hHeld q3 q5
        go_wp2
        go_roundg m
        case measure => omega
        case rel => exact ⟨x + 1, ga2, ba2, gh2, asked2, G2, r2, d2, u2, rfl, rfl, rfl, ⟨by obtain ⟨j, e, hj⟩ := HJ.out; exact ⟨j + 1, by omega, by omega⟩⟩, ⟨HS.out.1.step q6.out, HS.out.2⟩⟩
theorem LeaseDoes.walked (w : World) (n : Int) (_ : (Lit.int .i64 n).wf = true) (ls : Int) (_ : (Lit.int .i64 ls).wf = true) (dr : Int) (_ : (Lit.int .i64 dr).wf = true) (A0 : Option Addr) (c0 : Nat) (l0 : List O5) (hr0 : Kd.C k65 w A0 l0.length l0) (hc0 : l0.length ≤ c0) (y0 : l0.length * Try.prog.bytesOf 65 ≤ reachBytes) (hq : ∀ y ∈ l0, o5wf y) :
    Calls Try.prog 9 #[.int .i64 n, .int .i64 ls, .int .i64 dr, .slice A0 l0.length c0] w fun e w' => e = .returned (.bool true) ∧ Below w.heap.size w w' := by
  cases hn : lnewB n ls dr with
  | true =>
    refine LeaseDoes.in_ w A0 c0 l0 hr0 ?_ hq n ls dr hn
    have e : Try.prog.bytesOf 65 = 40 := by kernel_rfl
    rw [e] at y0
    have := reachBytes_lt
    omega
  | false => exact LeaseDoes.bad w A0 c0 l0 n ls dr hn
end Go.Proofs.Ytfmcpceilkkhfaa.P
