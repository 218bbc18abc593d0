/- The statement VvDots: the walk (written by dw.py). -/
import Derived.Test.YtnmjhagmobcdkaaDa
namespace Go.Proofs.Ytnmjhagmobcdkaa.P
open Go.RowKit Go.Proofs.YtnmjhagmobcdkaaW.PrintWords Go.Proofs.YtnmjhagmobcdkaaW.PrintLast Go.Proofs.YtnmjhagmobcdkaaW.PrintMore
attribute [local go_sem] Oper.semAt_some
attribute [local go_sem] max2_int min2_int max_two min_two
set_option linter.unusedVariables false
set_option linter.unusedSimpArgs false

set_option maxHeartbeats 32000000 in
set_option maxRecDepth 100000 in
theorem VvDots.at_ (w : World) (A0 : Option Addr) (c0 : Nat) (l0 : List Int) (hr0 : Kd.C (Kd.int .i64) w A0 l0.length l0) (hc0 : l0.length ≤ c0) (h0 : l0.length < 17592186044416)
    (A1 : Option Addr) (c1 : Nat) (l1 : List Int) (hr1 : Kd.C (Kd.int .i64) w A1 l1.length l1) (hc1 : l1.length ≤ c1) (h1 : l1.length < 17592186044416) (hw : ∀ x ∈ l1, x ≤ 9223372036854775807) (most : Int) :
    Calls Try.prog 6 #[.slice A0 l0.length c0, .slice A1 l1.length c1, .int .i64 most] w fun e w' => e = .returned (.bool true) ∧ Below w.heap.size w w' := by
  have HR0 := Aside0.mk (And.intro hr0 (And.intro hc0 h0))
  have HR1 := Aside0.mk (And.intro hr1 (And.intro hc1 h1))
  have HW := Aside0.mk hw
  clear hr0 hc0 h0 hr1 hc1 h1 hw
  obtain ⟨r0, er0⟩ : ∃ r0, most.tmod 1000 = r0 := ⟨_, rfl⟩
  have HRr : Aside0 (-1000 < r0 ∧ r0 < 1000) := ⟨by
    rw [← er0]
    have := Int.tmod_lt_of_pos most (show (0 : Int) < 1000 by decide)
    have := Int.lt_tmod_of_pos most (show (0 : Int) < 1000 by decide)
    omega⟩
  have ew : IntKind.i64.wrap r0 = r0 := by rw [i64_w]; unfold wrap64; have := HRr.out; omega
  have ew2 : IntKind.i64.wrap (-r0) = -r0 := by rw [i64_w]; unfold wrap64; have := HRr.out; omega
  have hmo : Try.prog.follows .mixedOrders = true := by kernel_rfl
  refine calls_of_marks Try.func6 rfl ?_
  simp only [Try.ntmps6, List.size_toArray, List.length_cons, List.length_nil, Nat.reduceAdd, Nat.reduceSub, Array.replicate_succ, Array.replicate_zero, List.push_toArray, List.append_toArray, List.nil_append, List.cons_append]
  obtain ⟨s, es⟩ : ∃ s, w.heap.size = s := ⟨_, rfl⟩
  go_upto_region 2 with (fail)
  obtain ⟨w1, ew1⟩ : ∃ w1, ((w.alloc (.cells #[.slice A1 l1.length c1] 22)).alloc (.cells #[.bool false] 4)).alloc (.cells #[.int .i64 r0] 3) = w1 := ⟨_, rfl⟩
  have HS : Aside0 (DS w w1 s A1 l1.length c1 r0) := ⟨by
    have e1 := blk_new w (.cells #[.slice A1 l1.length c1] 22)
    have e2 := blk_new (w.alloc (.cells #[.slice A1 l1.length c1] 22)) (.cells #[.bool false] 4)
    have e3 := blk_new ((w.alloc (.cells #[.slice A1 l1.length c1] 22)).alloc (.cells #[.bool false] 4)) (.cells #[.int .i64 r0] 3)
    rw [World.size_alloc] at e2 e3
    rw [World.size_alloc] at e3
    rw [es] at e1 e2 e3
    subst ew1
    exact ⟨blk_alloc (blk_alloc e1 _) _, blk_alloc e2 _, e3, below_alloc (below_alloc (below_alloc (Below.refl _ _) _) _) _, es⟩⟩
  simp only [ew1]
  clear ew1 ew
  have HRn : Aside0 (∃ n : Nat, n ≤ 999 ∧ ((0 ≤ r0 ∧ r0 = (n : Int)) ∨ (r0 < 0 ∧ -r0 = (n : Int)))) := ⟨⟨r0.natAbs, by have := HRr.out; omega, by omega⟩⟩
  obtain ⟨n, hn⟩ := HRn.out
  have HNn := Aside0.mk hn
  clear hn HRn
  have q7 := HS.out.s7.cell
  have f7 : w1.frozen? ⟨s + 1 + 1, 0, none⟩ = false := blk_frozen HS.out.s7 0
  go_upto_if 18 with (fail)
  go_cut [] from 17 to 20 (fun wc => Aside0 (DS w wc s A1 l1.length c1 (n : Int)))
  case first =>
    by_cases k : r0 < 0
    · have HEn : Aside0 (-r0 = (n : Int)) := ⟨by rcases HNn.out.2 with h | h <;> omega⟩
      go_upto_region 3 with (fail)
      all_goals try (exfalso; omega)
      go_wp2
      go_meet
      case rel => exact ⟨by rw [HEn.out]; exact ⟨blk_far HS.out.s4 (p := ⟨s + 1 + 1, 0, none⟩) (by show s ≠ s + 1 + 1; omega) _, blk_far HS.out.s6 (p := ⟨s + 1 + 1, 0, none⟩) (by show s + 1 ≠ s + 1 + 1; omega) _, box_set HS.out.s7 _, HS.out.below.setCell (p := ⟨s + 1 + 1, 0, none⟩) (by have := HS.out.size; show w.heap.size ≤ s + 1 + 1; omega) _, HS.out.size⟩⟩
    · have HEn : Aside0 (r0 = (n : Int)) := ⟨by rcases HNn.out.2 with h | h <;> omega⟩
      go_wp2
      all_goals try (exfalso; omega)
      go_meet
      case rel => rw [← HEn.out]; exact HS
  case rest =>
  clear HS q7 f7 ew2
  have HS := hcut
  clear hcut
  obtain ⟨nv, env⟩ : ∃ nv : Int, nv = (n : Int) := ⟨_, rfl⟩
  obtain ⟨m, em⟩ : ∃ m : Nat, m = n + 1 := ⟨_, rfl⟩
  rw [← env] at HS
  have HN : Aside0 (nv = (n : Int) ∧ m = n + 1 ∧ n ≤ 999) := ⟨env, em, HNn.out.1⟩
  have en1 : IntKind.i64.wrap (nv + 1) = (m : Int) := by rw [i64_w]; unfold wrap64; have := HN.out; omega
  clear HNn HRr env em
  obtain ⟨L, eL⟩ : ∃ L, L = ((dots l0 l1).take m).map toS := ⟨_, rfl⟩
  have HL : Aside0 (L = ((dots l0 l1).take m).map toS ∧ L.length = min m (dots l0 l1).length) := ⟨eL, by rw [eL, List.length_map, List.length_take]⟩
  obtain ⟨k24, h24⟩ := pannierref08_Between.tot (a := l0) (b := l1) (m := m) (by have := HN.out; omega) HR1.out.2.2 HW.out
  rw [← eL] at h24
  have H24 := Aside0.mk h24
  clear eL h24
  obtain ⟨L2, eL2⟩ : ∃ L2, L2 = ((dots [] l1).take m).map toS := ⟨_, rfl⟩
  have HL2 : Aside0 (L2 = ((dots [] l1).take m).map toS ∧ L2.length = min m (dots [] l1).length) := ⟨eL2, by rw [eL2, List.length_map, List.length_take]⟩
  obtain ⟨k24b, h24b⟩ := pannierref08_Between.tot (a := []) (b := l1) (m := m) (by have := HN.out; omega) HR1.out.2.2 HW.out
  rw [← eL2] at h24b
  have H24b := Aside0.mk h24b
  clear eL2 h24b
  go_wp2_with fail
  refine (pannierlaw08_lives.calls true _ rfl).mono ?_
  rintro e w2 ⟨rfl, hb⟩
  replace HS := Aside0.mk (HS.out.step hb)
  clear hb
  go_upto_region 6 with (fail)
  go_cut [31] from 23 to 31 (fun v31 wc => v31 = .bool false ∧ Aside0 (DS w wc s A1 l1.length c1 nv))
  case first =>
    go_wp2_with fail
    refine (pannierref08_May.tc A0 c0 l0 _ (Kd.C_below HR0.out.1 HS.out.below) HR0.out.2.1 HR0.out.2.2 rfl).mono ?_
    rintro e w3 ⟨rfl, hb⟩
    replace HS := Aside0.mk (HS.out.step hb)
    clear hb
    cases km : mayB l0 with
    | false =>
      go_wp2
      go_meet
      case rel => exact ⟨rfl, HS⟩
    | true =>
      have HM := Aside0.mk km
      clear km
      go_wp2_with fail
      refine (vv_Count.calls _ A0 c0 l0 _ _ (Kd.C_below HR0.out.1 HS.out.below) HR0.out.2.1 (vv_Count.tot HM.out)).mono ?_
      rintro e w4 ⟨rfl, hb⟩
      replace HS := Aside0.mk (HS.out.step hb)
      clear hb
      go_wp2_with fail
      refine (pannierref08_Count.calls _ A0 c0 l0 _ _ (Kd.C_below HR0.out.1 HS.out.below) HR0.out.2.1 (pannierref08_Count.tot HM.out)).mono ?_
      rintro e w5 ⟨rfl, hd⟩
      replace HS := Aside0.mk (HS.out.step (Drawn0.below hd))
      clear hd
      go_wp2
      go_meet
      case rel => exact ⟨rfl, HS⟩
  case rest =>
  clear HS
  obtain ⟨rfl, HS⟩ := hcut
  go_wp2
  refine wp_loop_rounds 3 ?_
  show Code.wp _ _ _ _ _
  go_upto_region 12 with (fail)
  obtain ⟨b9, e9⟩ : ∃ b9, wc.heap.size = b9 := ⟨_, rfl⟩
  obtain ⟨x1, ex1⟩ : ∃ x1, wc.alloc (.cells #[.int .i64 0] 3) = x1 := ⟨_, rfl⟩
  have hb : Below wc.heap.size wc x1 := by rw [← ex1]; exact below_alloc (Below.refl _ _) _
  have B9 : Boxed x1 b9 3 (.int .i64 0) := by rw [← ex1, ← e9]; exact blk_new _ _
  simp only [ex1, e9]
  have H9 := Aside0.mk B9
  have HP9 : Aside0 (s + 1 + 1 < b9) := ⟨by have := HS.out.lt; omega⟩
  replace HS := Aside0.mk (HS.out.step hb)
  clear hb B9 e9 ex1
  have q4 := HS.out.s4.cell
  have q7 := HS.out.s7.cell
  go_wp2_with fail
  refine (pannierref08_Between.calls k24 A0 c0 l0 A1 c1 l1 (m : Int) _ _ (Kd.C_below HR0.out.1 HS.out.below) HR0.out.2.1 (Kd.C_below HR1.out.1 HS.out.below) HR1.out.2.1 H24.out).mono ?_
  rintro e x2 ⟨v10, rfl, ho, hb⟩
  have HX12 : Aside0 (x1.heap.size ≤ x2.heap.size) := ⟨hb.size⟩
  have HO : Aside0 (Kd.R k31 31 x2 x1.heap.size (fun k => x1.heap.size ≤ k ∧ k < x2.heap.size) v10 L) := ⟨Kd.R_mono (Kd.R_bound ho) (fun k q => ⟨q.2.1, q.2.2.1⟩)⟩
  obtain ⟨A10, c10, e10⟩ := Kd.R_slice HO.out
  subst e10
  have HP2 : Aside0 (b9 < x1.heap.size) := ⟨blk_lt H9.out⟩
  replace HS := Aside0.mk (HS.out.step hb)
  replace H9 := Aside0.mk (blk_below H9.out hb)
  clear hb ho q4 q7
  go_upto_region 13 with (fail)
  obtain ⟨b10, e10⟩ : ∃ b10, x2.heap.size = b10 := ⟨_, rfl⟩
  obtain ⟨x3, ex3⟩ : ∃ x3, x2.alloc (.cells #[.slice A10 L.length c10] 35) = x3 := ⟨_, rfl⟩
  have hb : Below x2.heap.size x2 x3 := by rw [← ex3]; exact below_alloc (Below.refl _ _) _
  have B10 : Boxed x3 b10 35 (.slice A10 L.length c10) := by rw [← ex3, ← e10]; exact blk_new _ _
  simp only [ex3, e10]
  have H10 := Aside0.mk B10
  have HPd : Aside0 (x2.heap.size = b10) := ⟨e10⟩
  replace HS := Aside0.mk (HS.out.step hb)
  replace H9 := Aside0.mk (blk_below H9.out hb)
  replace HO := Aside0.mk (Kd.R_below HO.out hb)
  clear hb B10 e10 ex3
  have heq := eql_nilFunc
  have q4 := HS.out.s4.cell
  go_wp2_with fail
  refine (Btw.new A0 c0 l0 A1 c1 l1 _ (Kd.C_below HR0.out.1 HS.out.below) HR0.out.2.1 (Kd.C_below HR1.out.1 HS.out.below) HR1.out.2.1 HR0.out.2.2 HR1.out.2.2).mono ?_
  rintro e x4 ⟨_, _, _, _, _, _, rfl, _, _, _, _, _, hb⟩
  replace HS := Aside0.mk (HS.out.step hb)
  replace H9 := Aside0.mk (blk_below H9.out hb)
  replace H10 := Aside0.mk (blk_below H10.out hb)
  replace HO := Aside0.mk (Kd.R_below HO.out hb)
  replace q4 := pw_cell_below hb q4
  clear hb
  go_wp2_with fail
  refine (Btw.new A0 c0 l0 A1 c1 l1 _ (Kd.C_below HR0.out.1 HS.out.below) HR0.out.2.1 (Kd.C_below HR1.out.1 HS.out.below) HR1.out.2.1 HR0.out.2.2 HR1.out.2.2).mono ?_
  rintro e x5 ⟨bx, bz, X, Z, xc, zc, rfl, hbb, hbx, hbz, hrx, hrz, hb⟩
  have HXZ := Aside0.mk (And.intro hbb (And.intro hbx (And.intro hbz (And.intro hrx hrz))))
  have HP4 : Aside0 (b10 < x4.heap.size) := ⟨blk_lt H10.out⟩
  replace HS := Aside0.mk (HS.out.step hb)
  replace H9 := Aside0.mk (blk_below H9.out hb)
  replace H10 := Aside0.mk (blk_below H10.out hb)
  replace HO := Aside0.mk (Kd.R_below HO.out hb)
  clear hbb hbx hbz hrx hrz hb heq q4
  go_wp2
  obtain ⟨T, eT⟩ : ∃ T : Nat → Prop, T = fun k => k = b9 ∨ k = s + 1 ∨ x5.heap.size ≤ k := ⟨_, rfl⟩
  have HT : Aside0 (∀ k, k ≠ b9 → k ≠ s + 1 → k < x5.heap.size → ¬ T k) := ⟨fun k h1 h2 h3 h4 => by rw [eT] at h4; rcases h4 with h | h | h <;> omega⟩
  have HT1 : Aside0 (∀ k, x5.heap.size ≤ k → T k) := ⟨fun k h => by rw [eT]; exact .inr (.inr h)⟩
  have HT2 : Aside0 (T b9 ∧ T (s + 1)) := ⟨by rw [eT]; exact ⟨.inl rfl, .inr (.inl rfl)⟩⟩
  have HPs : Aside0 (x1.heap.size ≤ x2.heap.size ∧ x4.heap.size ≤ x5.heap.size ∧ s + 1 < b9 ∧ b9 < x1.heap.size ∧ x2.heap.size = b10 ∧ b10 < x4.heap.size ∧ w.heap.size = s) := ⟨by have := HP9.out; have := HP2.out; have := HPd.out; have := HP4.out; have := HXZ.out.1; have := HS.out.size; have := HX12.out; omega⟩
  clear eT
  have HTb : Aside0 (¬ T s ∧ ¬ T (s + 1 + 1) ∧ ¬ T b10) := ⟨by have := HPs.out; have := HP9.out; exact ⟨HT.out _ (by omega) (by omega) (by omega), HT.out _ (by omega) (by omega) (by omega), HT.out _ (by omega) (by omega) (by omega)⟩⟩
  have HTo : Aside0 (∀ k, x1.heap.size ≤ k → k < x2.heap.size → ¬ T k) := ⟨fun k h1 h2 => by have := HPs.out; exact HT.out k (by omega) (by omega) (by omega)⟩
  have HTx : Aside0 (∀ k, x4.heap.size ≤ k → k < x5.heap.size → ¬ T k) := ⟨fun k h1 h2 => by have := HPs.out; exact HT.out k (by omega) (by omega) h2⟩
  refine rangeB2 (q := 11) (ty := 31) (gf := 39) (lb := #[.pointer (some ⟨bz, 0, none⟩), .pointer (some ⟨bx, 0, none⟩)]) rfl (enters_of Try.func39 (by kernel_rfl) rfl) (enc := fun d : Int × Int => .agg #[.int .i64 d.1, .int .i64 d.2]) (fun d => #[.int .i64 d.1, .int .i64 d.2]) HT1.out
    (Btw.stops 4 (by omega) T l0 l1 bx bz X Z xc zc x5 HXZ.out.2.1 HXZ.out.2.2.1 (HTx.out _ HXZ.out.1.1 HXZ.out.1.2.2.1) (HTx.out _ HXZ.out.1.2.1 HXZ.out.1.2.2.2) (Kd.R_reads' HXZ.out.2.2.2.1).2.1
      (Kd.C_kept_own (Kd.R_mono (ok' := fun k => x4.heap.size ≤ k ∧ k < x5.heap.size) (Kd.R_bound HXZ.out.2.2.2.1) (fun k q => ⟨q.2.1, q.2.2.1⟩)) (fun k q => HTx.out k q.1 q.2)) (Kd.C_kept_own (Kd.R_mono (ok' := fun k => x4.heap.size ≤ k ∧ k < x5.heap.size) (Kd.R_bound HXZ.out.2.2.2.2) (fun k q => ⟨q.2.1, q.2.2.1⟩)) (fun k q => HTx.out k q.1 q.2)) HR1.out.2.2 HW.out)
    (fun pre W => DI w x5 W T s b9 pre.length ∧ pre.length ≤ m)
    (fun c pre W => (c = .exit 2 ∧ pre.length = m + 1 ∧ DI w x5 W T s b9 m) ∨ ¬ pre <+: dots l0 l1)
    ?hI ?hIx ?h0 ?hIs (fun W => DI w x5 W T s b9 L.length) ?assign ?body ?done ?stop ?on
  case hI => exact fun pre A B row h hg hr => ⟨h.1.own hg HS.out.below.size HT1.out hr, h.2⟩
  case hIx =>
    rintro c pre A B row (h | h) hg hr
    · exact .inl ⟨h.1, h.2.1, h.2.2.own hg HS.out.below.size HT1.out hr⟩
    · exact .inr h
  case h0 => exact ⟨⟨H9.out, HS.out.s6, Kept.refl _ _, HS.out.below⟩, Nat.zero_le _⟩
  case hIs => exact fun pre W h => h.1.kept.1
  case assign =>
    intro l x W K hK
    gi_wp2
    exact hK
  case done =>
    rintro xs W hS ⟨h1, h2⟩
    have : L.length = xs.length := by rw [HL.out.2, ← hS]; omega
    rw [this]
    exact h1
  case stop =>
    rintro c pre W hS (⟨rfl, h1, h2⟩ | h)
    · have : L.length = m := by have := hS.length_le; rw [HL.out.2]; omega
      rw [this]
      exact ⟨rfl, h2⟩
    · exact absurd hS h
  case body =>
    rintro l pre ⟨x0, z0⟩ Bx W hBx hX ⟨hi, hpm⟩ hlt
    simp only [actB, List.setIfInBounds_toArray, List.set_cons_zero, List.set_cons_succ]
    exact bodyA_all l W hi hpm (by have := HN.out; omega) (HS.out.of hi HTb.out.1 HTb.out.2.1).s7.cell (Boxed.cell (blk_kept H10.out hi.kept HTb.out.2.2)) ((blk_cell hX 0).trans rfl) ((blk_cell hX 1).trans rfl) (Kd.C_kept_own HO.out (fun k q => HTo.out k q.1 q.2) W hi.kept) HL.out HT2.out (by have := HPs.out; omega) _ _ _ _ _ _ _ _ _ _ _ _ _ _ _ _ _ _ _ _ _ _ _ _ _ _ _ _ _ _ _ _ _ _ _ _ _ _ _ _ _ _ _ _ _ _ _ _ _ _ _ _ _ _ _ _ _ _ _ _ _ _ _ _ _ _ _ _ _ _ _ _ _ _ _ _ _ _ _ _ _ _ _ _ _ _ _ _ _ _ _ _ _ _ _ _ _ _ _ _ _ _ _ rfl
  case on =>
  intro D1 y1 hD hf hK
  dsimp only
  have HF := Aside0.mk hf
  have HK1 : Aside0 (y1.heap[D1]? = some (.deferred (some []))) := ⟨hK⟩
  have HD1 : Aside0 (s + 1 + 1 < D1) := ⟨by have := HS.out.lt; omega⟩
  have q9 := HF.out.i9.cell
  have q10 := Boxed.cell (blk_kept H10.out HF.out.kept HTb.out.2.2)
  replace HS := Aside0.mk (HS.out.of HF.out HTb.out.1 HTb.out.2.1)
  clear hD hf hK
  go_wp2
  clear q9 q10 HF HO HXZ H9 H10 HP9 HP2 HPd HP4 HPs HTb HTo HTx HT HT1 HT2 HX12
  show Code.wp _ _ _ _ _
  go_upto_region 12 with (fail)
  obtain ⟨b9, e9⟩ : ∃ b9, y1.heap.size = b9 := ⟨_, rfl⟩
  obtain ⟨x1, ex1⟩ : ∃ x1, y1.alloc (.cells #[.int .i64 0] 3) = x1 := ⟨_, rfl⟩
  have hb : Below y1.heap.size y1 x1 := by rw [← ex1]; exact below_alloc (Below.refl _ _) _
  have B9 : Boxed x1 b9 3 (.int .i64 0) := by rw [← ex1, ← e9]; exact blk_new _ _
  simp only [ex1, e9]
  have H9 := Aside0.mk B9
  have HP9 : Aside0 (s + 1 + 1 < b9) := ⟨by have := HS.out.lt; omega⟩
  have HB1 : Aside0 (D1 < b9) := ⟨by have := blk_lt HK1.out; omega⟩
  replace HS := Aside0.mk (HS.out.step hb)
  replace HK1 := Aside0.mk (blk_below HK1.out hb)
  clear hb B9 e9 ex1
  have q4 := HS.out.s4.cell
  have q7 := HS.out.s7.cell
  go_wp2_with fail
  refine (pannierref08_Between.calls k24 A0 c0 l0 A1 c1 l1 (m : Int) _ _ (Kd.C_below HR0.out.1 HS.out.below) HR0.out.2.1 (Kd.C_below HR1.out.1 HS.out.below) HR1.out.2.1 H24.out).mono ?_
  rintro e x2 ⟨v10, rfl, ho, hb⟩
  have HX12 : Aside0 (x1.heap.size ≤ x2.heap.size) := ⟨hb.size⟩
  have HO : Aside0 (Kd.R k31 31 x2 x1.heap.size (fun k => x1.heap.size ≤ k ∧ k < x2.heap.size) v10 L) := ⟨Kd.R_mono (Kd.R_bound ho) (fun k q => ⟨q.2.1, q.2.2.1⟩)⟩
  obtain ⟨A10, c10, e10⟩ := Kd.R_slice HO.out
  subst e10
  have HP2 : Aside0 (b9 < x1.heap.size) := ⟨blk_lt H9.out⟩
  replace HS := Aside0.mk (HS.out.step hb)
  replace H9 := Aside0.mk (blk_below H9.out hb)
  replace HK1 := Aside0.mk (blk_below HK1.out hb)
  clear hb ho q4 q7
  go_upto_region 13 with (fail)
  obtain ⟨b10, e10⟩ : ∃ b10, x2.heap.size = b10 := ⟨_, rfl⟩
  obtain ⟨x3, ex3⟩ : ∃ x3, x2.alloc (.cells #[.slice A10 L.length c10] 35) = x3 := ⟨_, rfl⟩
  have hb : Below x2.heap.size x2 x3 := by rw [← ex3]; exact below_alloc (Below.refl _ _) _
  have B10 : Boxed x3 b10 35 (.slice A10 L.length c10) := by rw [← ex3, ← e10]; exact blk_new _ _
  simp only [ex3, e10]
  have H10 := Aside0.mk B10
  have HPd : Aside0 (x2.heap.size = b10) := ⟨e10⟩
  replace HS := Aside0.mk (HS.out.step hb)
  replace H9 := Aside0.mk (blk_below H9.out hb)
  replace HO := Aside0.mk (Kd.R_below HO.out hb)
  replace HK1 := Aside0.mk (blk_below HK1.out hb)
  clear hb B10 e10 ex3
  have heq := eql_nilFunc
  have q4 := HS.out.s4.cell
  go_wp2_with fail
  refine (Btw.new A0 c0 l0 A1 c1 l1 _ (Kd.C_below HR0.out.1 HS.out.below) HR0.out.2.1 (Kd.C_below HR1.out.1 HS.out.below) HR1.out.2.1 HR0.out.2.2 HR1.out.2.2).mono ?_
  rintro e x4 ⟨_, _, _, _, _, _, rfl, _, _, _, _, _, hb⟩
  replace HS := Aside0.mk (HS.out.step hb)
  replace H9 := Aside0.mk (blk_below H9.out hb)
  replace H10 := Aside0.mk (blk_below H10.out hb)
  replace HO := Aside0.mk (Kd.R_below HO.out hb)
  replace HK1 := Aside0.mk (blk_below HK1.out hb)
  replace q4 := pw_cell_below hb q4
  clear hb
  go_wp2_with fail
  refine (Btw.new A0 c0 l0 A1 c1 l1 _ (Kd.C_below HR0.out.1 HS.out.below) HR0.out.2.1 (Kd.C_below HR1.out.1 HS.out.below) HR1.out.2.1 HR0.out.2.2 HR1.out.2.2).mono ?_
  rintro e x5 ⟨bx, bz, X, Z, xc, zc, rfl, hbb, hbx, hbz, hrx, hrz, hb⟩
  have HXZ := Aside0.mk (And.intro hbb (And.intro hbx (And.intro hbz (And.intro hrx hrz))))
  have HP4 : Aside0 (b10 < x4.heap.size) := ⟨blk_lt H10.out⟩
  replace HS := Aside0.mk (HS.out.step hb)
  replace H9 := Aside0.mk (blk_below H9.out hb)
  replace H10 := Aside0.mk (blk_below H10.out hb)
  replace HO := Aside0.mk (Kd.R_below HO.out hb)
  replace HK1 := Aside0.mk (blk_below HK1.out hb)
  clear hbb hbx hbz hrx hrz hb heq q4
  go_wp2
  obtain ⟨T, eT⟩ : ∃ T : Nat → Prop, T = fun k => k = b9 ∨ k = s + 1 ∨ x5.heap.size ≤ k := ⟨_, rfl⟩
  have HT : Aside0 (∀ k, k ≠ b9 → k ≠ s + 1 → k < x5.heap.size → ¬ T k) := ⟨fun k h1 h2 h3 h4 => by rw [eT] at h4; rcases h4 with h | h | h <;> omega⟩
  have HT1 : Aside0 (∀ k, x5.heap.size ≤ k → T k) := ⟨fun k h => by rw [eT]; exact .inr (.inr h)⟩
  have HT2 : Aside0 (T b9 ∧ T (s + 1)) := ⟨by rw [eT]; exact ⟨.inl rfl, .inr (.inl rfl)⟩⟩
  have HPs : Aside0 (x1.heap.size ≤ x2.heap.size ∧ x4.heap.size ≤ x5.heap.size ∧ s + 1 < b9 ∧ b9 < x1.heap.size ∧ x2.heap.size = b10 ∧ b10 < x4.heap.size ∧ w.heap.size = s) := ⟨by have := HP9.out; have := HP2.out; have := HPd.out; have := HP4.out; have := HXZ.out.1; have := HS.out.size; have := HX12.out; omega⟩
  clear eT
  have HTb : Aside0 (¬ T s ∧ ¬ T (s + 1 + 1) ∧ ¬ T b10) := ⟨by have := HPs.out; have := HP9.out; exact ⟨HT.out _ (by omega) (by omega) (by omega), HT.out _ (by omega) (by omega) (by omega), HT.out _ (by omega) (by omega) (by omega)⟩⟩
  have HTo : Aside0 (∀ k, x1.heap.size ≤ k → k < x2.heap.size → ¬ T k) := ⟨fun k h1 h2 => by have := HPs.out; exact HT.out k (by omega) (by omega) (by omega)⟩
  have HTx : Aside0 (∀ k, x4.heap.size ≤ k → k < x5.heap.size → ¬ T k) := ⟨fun k h1 h2 => by have := HPs.out; exact HT.out k (by omega) (by omega) h2⟩
  refine rangeB2 (q := 11) (ty := 31) (gf := 39) (lb := #[.pointer (some ⟨bz, 0, none⟩), .pointer (some ⟨bx, 0, none⟩)]) rfl (enters_of Try.func39 (by kernel_rfl) rfl) (enc := fun d : Int × Int => .agg #[.int .i64 d.1, .int .i64 d.2]) (fun d => #[.int .i64 d.1, .int .i64 d.2]) HT1.out
    (Btw.stops 4 (by omega) T l0 l1 bx bz X Z xc zc x5 HXZ.out.2.1 HXZ.out.2.2.1 (HTx.out _ HXZ.out.1.1 HXZ.out.1.2.2.1) (HTx.out _ HXZ.out.1.2.1 HXZ.out.1.2.2.2) (Kd.R_reads' HXZ.out.2.2.2.1).2.1
      (Kd.C_kept_own (Kd.R_mono (ok' := fun k => x4.heap.size ≤ k ∧ k < x5.heap.size) (Kd.R_bound HXZ.out.2.2.2.1) (fun k q => ⟨q.2.1, q.2.2.1⟩)) (fun k q => HTx.out k q.1 q.2)) (Kd.C_kept_own (Kd.R_mono (ok' := fun k => x4.heap.size ≤ k ∧ k < x5.heap.size) (Kd.R_bound HXZ.out.2.2.2.2) (fun k q => ⟨q.2.1, q.2.2.1⟩)) (fun k q => HTx.out k q.1 q.2)) HR1.out.2.2 HW.out)
    (fun pre W => DI w x5 W T s b9 pre.length ∧ pre.length ≤ m)
    (fun c pre W => (c = .exit 2 ∧ pre.length = m + 1 ∧ DI w x5 W T s b9 m) ∨ ¬ pre <+: dots l0 l1)
    ?hI ?hIx ?h0 ?hIs (fun W => DI w x5 W T s b9 L.length) ?assign ?body ?done ?stop ?on
  case hI => exact fun pre A B row h hg hr => ⟨h.1.own hg HS.out.below.size HT1.out hr, h.2⟩
  case hIx =>
    rintro c pre A B row (h | h) hg hr
    · exact .inl ⟨h.1, h.2.1, h.2.2.own hg HS.out.below.size HT1.out hr⟩
    · exact .inr h
  case h0 => exact ⟨⟨H9.out, HS.out.s6, Kept.refl _ _, HS.out.below⟩, Nat.zero_le _⟩
  case hIs => exact fun pre W h => h.1.kept.1
  case assign =>
    intro l x W K hK
    gi_wp2
    exact hK
  case done =>
    rintro xs W hS ⟨h1, h2⟩
    have : L.length = xs.length := by rw [HL.out.2, ← hS]; omega
    rw [this]
    exact h1
  case stop =>
    rintro c pre W hS (⟨rfl, h1, h2⟩ | h)
    · have : L.length = m := by have := hS.length_le; rw [HL.out.2]; omega
      rw [this]
      exact ⟨rfl, h2⟩
    · exact absurd hS h
  case body =>
    rintro l pre ⟨x0, z0⟩ Bx W hBx hX ⟨hi, hpm⟩ hlt
    simp only [actB, List.setIfInBounds_toArray, List.set_cons_zero, List.set_cons_succ]
    exact bodyA_all l W hi hpm (by have := HN.out; omega) (HS.out.of hi HTb.out.1 HTb.out.2.1).s7.cell (Boxed.cell (blk_kept H10.out hi.kept HTb.out.2.2)) ((blk_cell hX 0).trans rfl) ((blk_cell hX 1).trans rfl) (Kd.C_kept_own HO.out (fun k q => HTo.out k q.1 q.2) W hi.kept) HL.out HT2.out (by have := HPs.out; omega) _ _ _ _ _ _ _ _ _ _ _ _ _ _ _ _ _ _ _ _ _ _ _ _ _ _ _ _ _ _ _ _ _ _ _ _ _ _ _ _ _ _ _ _ _ _ _ _ _ _ _ _ _ _ _ _ _ _ _ _ _ _ _ _ _ _ _ _ _ _ _ _ _ _ _ _ _ _ _ _ _ _ _ _ _ _ _ _ _ _ _ _ _ _ _ _ _ _ _ _ _ _ _ rfl
  case on =>
  intro D2 y2 hD hf hK
  dsimp only
  have HF := Aside0.mk hf
  have HK2 : Aside0 (y2.heap[D2]? = some (.deferred (some []))) := ⟨hK⟩
  have HD2 : Aside0 (s + 1 + 1 < D2) := ⟨by have := HS.out.lt; omega⟩
  replace HK1 : Aside0 (y2.heap[D1]? = some (.deferred (some []))) := ⟨blk_kept HK1.out HF.out.kept (HT.out _ (by have := HB1.out; omega) (by have := HD1.out; omega) (blk_lt HK1.out))⟩
  have HDo12 : Aside0 (D1 < D2) := ⟨by have := HB1.out; have := HPs.out; omega⟩
  have q9 := HF.out.i9.cell
  have q10 := Boxed.cell (blk_kept H10.out HF.out.kept HTb.out.2.2)
  replace HS := Aside0.mk (HS.out.of HF.out HTb.out.1 HTb.out.2.1)
  clear hD hf hK
  go_wp2
  clear q9 q10 HF HO HXZ H9 H10 HP9 HP2 HPd HP4 HPs HTb HTo HTx HT HT1 HT2 HX12
  show Code.wp _ _ _ _ _
  go_upto_region 24 with (fail)
  obtain ⟨b9, e9⟩ : ∃ b9, y2.heap.size = b9 := ⟨_, rfl⟩
  obtain ⟨x1, ex1⟩ : ∃ x1, y2.alloc (.cells #[.int .i64 0] 3) = x1 := ⟨_, rfl⟩
  have hb : Below y2.heap.size y2 x1 := by rw [← ex1]; exact below_alloc (Below.refl _ _) _
  have B9 : Boxed x1 b9 3 (.int .i64 0) := by rw [← ex1, ← e9]; exact blk_new _ _
  simp only [ex1, e9]
  have H9 := Aside0.mk B9
  have HP9 : Aside0 (s + 1 + 1 < b9) := ⟨by have := HS.out.lt; omega⟩
  have HB1 : Aside0 (D1 < b9) := ⟨by have := blk_lt HK1.out; omega⟩
  have HB2 : Aside0 (D2 < b9) := ⟨by have := blk_lt HK2.out; omega⟩
  replace HS := Aside0.mk (HS.out.step hb)
  replace HK1 := Aside0.mk (blk_below HK1.out hb)
  replace HK2 := Aside0.mk (blk_below HK2.out hb)
  clear hb B9 e9 ex1
  have q4 := HS.out.s4.cell
  have q7 := HS.out.s7.cell
  go_wp2_with fail
  refine (pannierref08_Between.calls k24b none 0 [] A1 c1 l1 (m : Int) _ _ (Kd.C_nil _ _) (Nat.le_refl _) (Kd.C_below HR1.out.1 HS.out.below) HR1.out.2.1 H24b.out).mono ?_
  rintro e x2 ⟨v10, rfl, ho, hb⟩
  have HX12 : Aside0 (x1.heap.size ≤ x2.heap.size) := ⟨hb.size⟩
  have HO : Aside0 (Kd.R k31 31 x2 x1.heap.size (fun k => x1.heap.size ≤ k ∧ k < x2.heap.size) v10 L2) := ⟨Kd.R_mono (Kd.R_bound ho) (fun k q => ⟨q.2.1, q.2.2.1⟩)⟩
  obtain ⟨A10, c10, e10⟩ := Kd.R_slice HO.out
  subst e10
  have HP2 : Aside0 (b9 < x1.heap.size) := ⟨blk_lt H9.out⟩
  replace HS := Aside0.mk (HS.out.step hb)
  replace H9 := Aside0.mk (blk_below H9.out hb)
  replace HK1 := Aside0.mk (blk_below HK1.out hb)
  replace HK2 := Aside0.mk (blk_below HK2.out hb)
  clear hb ho q4 q7
  go_upto_region 25 with (fail)
  obtain ⟨b10, e10⟩ : ∃ b10, x2.heap.size = b10 := ⟨_, rfl⟩
  obtain ⟨x3, ex3⟩ : ∃ x3, x2.alloc (.cells #[.slice A10 L2.length c10] 35) = x3 := ⟨_, rfl⟩
  have hb : Below x2.heap.size x2 x3 := by rw [← ex3]; exact below_alloc (Below.refl _ _) _
  have B10 : Boxed x3 b10 35 (.slice A10 L2.length c10) := by rw [← ex3, ← e10]; exact blk_new _ _
  simp only [ex3, e10]
  have H10 := Aside0.mk B10
  have HPd : Aside0 (x2.heap.size = b10) := ⟨e10⟩
  replace HS := Aside0.mk (HS.out.step hb)
  replace H9 := Aside0.mk (blk_below H9.out hb)
  replace HO := Aside0.mk (Kd.R_below HO.out hb)
  replace HK1 := Aside0.mk (blk_below HK1.out hb)
  replace HK2 := Aside0.mk (blk_below HK2.out hb)
  clear hb B10 e10 ex3
  have heq := eql_nilFunc
  have q4 := HS.out.s4.cell
  go_wp2_with fail
  refine (Dots.new A1 c1 l1 _ (Kd.C_below HR1.out.1 HS.out.below) HR1.out.2.1 HR1.out.2.2).mono ?_
  rintro e x4 ⟨_, _, _, _, _, _, rfl, _, _, _, _, _, hb⟩
  replace HS := Aside0.mk (HS.out.step hb)
  replace H9 := Aside0.mk (blk_below H9.out hb)
  replace H10 := Aside0.mk (blk_below H10.out hb)
  replace HO := Aside0.mk (Kd.R_below HO.out hb)
  replace HK1 := Aside0.mk (blk_below HK1.out hb)
  replace HK2 := Aside0.mk (blk_below HK2.out hb)
  replace q4 := pw_cell_below hb q4
  clear hb
  go_wp2_with fail
  refine (Dots.new A1 c1 l1 _ (Kd.C_below HR1.out.1 HS.out.below) HR1.out.2.1 HR1.out.2.2).mono ?_
  rintro e x5 ⟨bx, bz, X, Z, xc, zc, rfl, hbb, hbx, hbz, hrx, hrz, hb⟩
  have HXZ := Aside0.mk (And.intro hbb (And.intro hbx (And.intro hbz (And.intro hrx hrz))))
  have HP4 : Aside0 (b10 < x4.heap.size) := ⟨blk_lt H10.out⟩
  replace HS := Aside0.mk (HS.out.step hb)
  replace H9 := Aside0.mk (blk_below H9.out hb)
  replace H10 := Aside0.mk (blk_below H10.out hb)
  replace HO := Aside0.mk (Kd.R_below HO.out hb)
  replace HK1 := Aside0.mk (blk_below HK1.out hb)
  replace HK2 := Aside0.mk (blk_below HK2.out hb)
  clear hbb hbx hbz hrx hrz hb heq q4
  go_wp2
  obtain ⟨T, eT⟩ : ∃ T : Nat → Prop, T = fun k => k = b9 ∨ k = s + 1 ∨ x5.heap.size ≤ k := ⟨_, rfl⟩
  have HT : Aside0 (∀ k, k ≠ b9 → k ≠ s + 1 → k < x5.heap.size → ¬ T k) := ⟨fun k h1 h2 h3 h4 => by rw [eT] at h4; rcases h4 with h | h | h <;> omega⟩
  have HT1 : Aside0 (∀ k, x5.heap.size ≤ k → T k) := ⟨fun k h => by rw [eT]; exact .inr (.inr h)⟩
  have HT2 : Aside0 (T b9 ∧ T (s + 1)) := ⟨by rw [eT]; exact ⟨.inl rfl, .inr (.inl rfl)⟩⟩
  have HPs : Aside0 (x1.heap.size ≤ x2.heap.size ∧ x4.heap.size ≤ x5.heap.size ∧ s + 1 < b9 ∧ b9 < x1.heap.size ∧ x2.heap.size = b10 ∧ b10 < x4.heap.size ∧ w.heap.size = s) := ⟨by have := HP9.out; have := HP2.out; have := HPd.out; have := HP4.out; have := HXZ.out.1; have := HS.out.size; have := HX12.out; omega⟩
  clear eT
  have HTb : Aside0 (¬ T s ∧ ¬ T (s + 1 + 1) ∧ ¬ T b10) := ⟨by have := HPs.out; have := HP9.out; exact ⟨HT.out _ (by omega) (by omega) (by omega), HT.out _ (by omega) (by omega) (by omega), HT.out _ (by omega) (by omega) (by omega)⟩⟩
  have HTo : Aside0 (∀ k, x1.heap.size ≤ k → k < x2.heap.size → ¬ T k) := ⟨fun k h1 h2 => by have := HPs.out; exact HT.out k (by omega) (by omega) (by omega)⟩
  have HTx : Aside0 (∀ k, x4.heap.size ≤ k → k < x5.heap.size → ¬ T k) := ⟨fun k h1 h2 => by have := HPs.out; exact HT.out k (by omega) (by omega) h2⟩
  refine rangeB2 (q := 14) (ty := 31) (gf := 39) (lb := #[.pointer (some ⟨bz, 0, none⟩), .pointer (some ⟨bx, 0, none⟩)]) rfl (enters_of Try.func39 (by kernel_rfl) rfl) (enc := fun d : Int × Int => .agg #[.int .i64 d.1, .int .i64 d.2]) (fun d => #[.int .i64 d.1, .int .i64 d.2]) HT1.out
    (Btw.stops 4 (by omega) T [] l1 bx bz X Z xc zc x5 HXZ.out.2.1 HXZ.out.2.2.1 (HTx.out _ HXZ.out.1.1 HXZ.out.1.2.2.1) (HTx.out _ HXZ.out.1.2.1 HXZ.out.1.2.2.2) (Kd.R_reads' HXZ.out.2.2.2.1).2.1
      (Kd.C_kept_own (Kd.R_mono (ok' := fun k => x4.heap.size ≤ k ∧ k < x5.heap.size) (Kd.R_bound HXZ.out.2.2.2.1) (fun k q => ⟨q.2.1, q.2.2.1⟩)) (fun k q => HTx.out k q.1 q.2)) (Kd.C_kept_own (Kd.R_mono (ok' := fun k => x4.heap.size ≤ k ∧ k < x5.heap.size) (Kd.R_bound HXZ.out.2.2.2.2) (fun k q => ⟨q.2.1, q.2.2.1⟩)) (fun k q => HTx.out k q.1 q.2)) HR1.out.2.2 HW.out)
    (fun pre W => DI w x5 W T s b9 pre.length ∧ pre.length ≤ m)
    (fun c pre W => (c = .exit 4 ∧ pre.length = m + 1 ∧ DI w x5 W T s b9 m) ∨ ¬ pre <+: dots [] l1)
    ?hI ?hIx ?h0 ?hIs (fun W => DI w x5 W T s b9 L2.length) ?assign ?body ?done ?stop ?on
  case hI => exact fun pre A B row h hg hr => ⟨h.1.own hg HS.out.below.size HT1.out hr, h.2⟩
  case hIx =>
    rintro c pre A B row (h | h) hg hr
    · exact .inl ⟨h.1, h.2.1, h.2.2.own hg HS.out.below.size HT1.out hr⟩
    · exact .inr h
  case h0 => exact ⟨⟨H9.out, HS.out.s6, Kept.refl _ _, HS.out.below⟩, Nat.zero_le _⟩
  case hIs => exact fun pre W h => h.1.kept.1
  case assign =>
    intro l x W K hK
    gi_wp2
    exact hK
  case done =>
    rintro xs W hS ⟨h1, h2⟩
    have : L2.length = xs.length := by rw [HL2.out.2, ← hS]; omega
    rw [this]
    exact h1
  case stop =>
    rintro c pre W hS (⟨rfl, h1, h2⟩ | h)
    · have : L2.length = m := by have := hS.length_le; rw [HL2.out.2]; omega
      rw [this]
      exact ⟨rfl, h2⟩
    · exact absurd hS h
  case body =>
    rintro l pre ⟨x0, z0⟩ Bx W hBx hX ⟨hi, hpm⟩ hlt
    simp only [actB, List.setIfInBounds_toArray, List.set_cons_zero, List.set_cons_succ]
    exact bodyB_all l W hi hpm (by have := HN.out; omega) (HS.out.of hi HTb.out.1 HTb.out.2.1).s7.cell (Boxed.cell (blk_kept H10.out hi.kept HTb.out.2.2)) ((blk_cell hX 0).trans rfl) ((blk_cell hX 1).trans rfl) (Kd.C_kept_own HO.out (fun k q => HTo.out k q.1 q.2) W hi.kept) HL2.out HT2.out (by have := HPs.out; omega) (HS.out.of hi HTb.out.1 HTb.out.2.1).s4.cell (Kd.C_below HR1.out.1 hi.below) HR1.out.2.1 _ _ _ _ _ _ _ _ _ _ _ _ _ _ _ _ _ _ _ _ _ _ _ _ _ _ _ _ _ _ _ _ _ _ _ _ _ _ _ _ _ _ _ _ _ _ _ _ _ _ _ _ _ _ _ _ _ _ _ _ _ _ _ _ _ _ _ _ _ _ _ _ _ _ _ _ _ _ _ _ _ _ _ _ _ _ _ _ _ _ _ _ _ _ _ _ _ _ _ _ _ _ rfl
  case on =>
  intro D3 y3 hD hf hK
  dsimp only
  have HF := Aside0.mk hf
  have HK3 : Aside0 (y3.heap[D3]? = some (.deferred (some []))) := ⟨hK⟩
  have HD3 : Aside0 (s + 1 + 1 < D3) := ⟨by have := HS.out.lt; omega⟩
  replace HK1 : Aside0 (y3.heap[D1]? = some (.deferred (some []))) := ⟨blk_kept HK1.out HF.out.kept (HT.out _ (by have := HB1.out; omega) (by have := HD1.out; omega) (blk_lt HK1.out))⟩
  replace HK2 : Aside0 (y3.heap[D2]? = some (.deferred (some []))) := ⟨blk_kept HK2.out HF.out.kept (HT.out _ (by have := HB2.out; omega) (by have := HD2.out; omega) (blk_lt HK2.out))⟩
  have HDo13 : Aside0 (D1 < D3) := ⟨by have := HB1.out; have := HPs.out; omega⟩
  have HDo23 : Aside0 (D2 < D3) := ⟨by have := HB2.out; have := HPs.out; omega⟩
  have q9 := HF.out.i9.cell
  have q10 := Boxed.cell (blk_kept H10.out HF.out.kept HTb.out.2.2)
  replace HS := Aside0.mk (HS.out.of HF.out HTb.out.1 HTb.out.2.1)
  clear hD hf hK
  have q6 := HS.out.s6.cell
  have f6 : y3.frozen? ⟨s + 1, 0, none⟩ = false := blk_frozen HS.out.s6 0
  go_wp2
  refine leaves_marks [D3, D2, D1] _ (fun W' g1 g2 g3 => ?_) ?_ ?_
  · have hc : W'.cell? ⟨s + 1, 0, none⟩ = some (.bool true) := by
      have h1 := box_set HS.out.s6 (.bool true)
      have h2 : W'.heap[s + 1]? = some (.cells #[.bool true] 4 (0, 0)) := (g1 (s + 1) (by have := HD1.out; have := HD2.out; have := HD3.out; simp; omega)).trans h1
      exact (blk_cell h2 0).trans rfl
    have hbw := HS.out.below.setCell (p := ⟨s + 1, 0, none⟩) (by have := HS.out.size; show w.heap.size ≤ s + 1; omega) (.bool true)
    refine ⟨.bool true, by simp [results, Try.f6, go_sem, hc], rfl, ⟨g3.1.trans hbw.os, g3.2.1.trans hbw.tape, g3.2.2.trans hbw.output, by rw [g2]; exact hbw.size, fun k hk => (g1 k ?_).trans (hbw.block k hk)⟩⟩
    have := HD1.out; have := HD2.out; have := HD3.out; have := HS.out.size; simp; omega
  · have := HDo12.out; have := HDo13.out; have := HDo23.out; simp; omega
  · intro D hD
    have hne : D ≠ s + 1 := by
      have := HD1.out; have := HD2.out; have := HD3.out
      simp at hD
      rcases hD with h | h | h <;> omega
    refine (Below.heap_setCell y3 ⟨s + 1, 0, none⟩ (.bool true) D hne).trans ?_
    simp at hD
    rcases hD with rfl | rfl | rfl
    · exact HK3.out
    · exact HK2.out
    · exact HK1.out
theorem VvDots.walked (w : World) (A0 : Option Addr) (c0 : Nat) (l0 : List Int) (hr0 : Kd.C (Kd.int .i64) w A0 l0.length l0) (hc0 : l0.length ≤ c0) (_ : ∀ x ∈ l0, (Lit.int .i64 x).wf = true) (y0 : l0.length * 8 ≤ 140737488351232)
    (A1 : Option Addr) (c1 : Nat) (l1 : List Int) (hr1 : Kd.C (Kd.int .i64) w A1 l1.length l1) (hc1 : l1.length ≤ c1) (h1 : ∀ x ∈ l1, (Lit.int .i64 x).wf = true) (y1 : l1.length * 8 ≤ 140737488351232) (most : Int) (_ : (Lit.int .i64 most).wf = true) :
    Calls Try.prog 6 #[.slice A0 l0.length c0, .slice A1 l1.length c1, .int .i64 most] w fun e w' => e = .returned (.bool true) ∧ Below w.heap.size w w' :=
  VvDots.at_ w A0 c0 l0 hr0 hc0 (by omega) A1 c1 l1 hr1 hc1 (by omega) (fun x hx => by
    have := h1 x hx
    simp [Lit.wf] at this
    omega) most
end Go.Proofs.Ytnmjhagmobcdkaa.P
