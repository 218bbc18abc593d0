/- The statement ClockBounds: the law behind it, and the walk. -/
import Derived.Test.YtfmcpceilkkhfaaLv
import Derived.Test.YtfmcpceilkkhfaaOp
namespace Go.Proofs.Ytfmcpceilkkhfaa.P
open Go.RowKit Go.Proofs.YtfmcpceilkkhfaaW.PrintWords Go.Proofs.YtfmcpceilkkhfaaW.PrintLast Go.Proofs.YtfmcpceilkkhfaaW.PrintMore
attribute [local go_sem] max2_int min2_int max_two min_two max_three min_three max_four min_four
set_option linter.unusedVariables false
set_option linter.unusedSimpArgs false
/-- Between two moments a clock goes on by what the drift lets it. -/
def In (d t0 c0 t1 c1 : Int) : Prop := t0 ≤ t1 ∧ c0 ≤ c1 ∧ (1000 - d) * (t1 - t0) ≤ 1000 * (c1 - c0) ∧ 1000 * (c1 - c0) ≤ (1000 + d) * (t1 - t0)
theorem In.refl (d t c : Int) : In d t c t c := ⟨by omega, by omega, by rw [Int.sub_self, Int.sub_self, Int.mul_zero, Int.mul_zero]; omega, by rw [Int.sub_self, Int.sub_self, Int.mul_zero, Int.mul_zero]; omega⟩
theorem In.tick {d t0 c0 t1 c1 time a : Int} (h : In d t0 c0 t1 c1) (ht : 0 ≤ time) (k : fitB time d a = true) : In d t0 c0 (t1 + time) (c1 + a) := by
  obtain ⟨h1, h2, h3, h4⟩ := h
  simp only [fitB, Bool.and_eq_true, decide_eq_true_eq, tkB_iff] at k
  have e1 : (1000 - d) * (t1 + time - t0) = (1000 - d) * (t1 - t0) + (1000 - d) * time := by rw [← Int.mul_add]; congr 1; omega
  have e2 : (1000 + d) * (t1 + time - t0) = (1000 + d) * (t1 - t0) + (1000 + d) * time := by rw [← Int.mul_add]; congr 1; omega
  exact ⟨by omega, by omega, by rw [e1]; omega, by rw [e2]; omega⟩
def BInv (d : Int) (T C : List Int) (t n1 : Int) : Prop :=
  T.length = C.length ∧ (∀ i j : Nat, i ≤ j → j < T.length → In d (rd T i) (rd C i) (rd T j) (rd C j)) ∧ (∀ i : Nat, i < T.length → In d (rd T i) (rd C i) t n1) ∧
    ∀ i : Nat, i < T.length → (0 ≤ rd T i ∧ rd T i ≤ MaxC) ∧ (0 ≤ rd C i ∧ rd C i ≤ MaxC)
theorem BInv.nil (d t n1 : Int) : BInv d [] [] t n1 := ⟨rfl, fun i j _ h => absurd h (by simp), fun i h => absurd h (by simp), fun i h => absurd h (by simp)⟩
theorem BInv.tick {d t n1 time a : Int} {T C : List Int} (h : BInv d T C t n1) (ht : 0 ≤ time) (k : fitB time d a = true) : BInv d T C (t + time) (n1 + a) := ⟨h.1, h.2.1, fun i hi => (h.2.2.1 i hi).tick ht k, h.2.2.2⟩
theorem rd_app_lt {l : List Int} {x : Int} {i : Nat} (h : i < l.length) : rd (l ++ [x]) i = rd l i := by
  unfold rd
  rw [Int.toNat_natCast, List.getD_eq_getElem?_getD, List.getD_eq_getElem?_getD, List.getElem?_append_left h]
theorem rd_app_eq {l : List Int} {x : Int} {i : Nat} (h : i = l.length) : rd (l ++ [x]) i = x := by
  subst h
  unfold rd
  rw [Int.toNat_natCast, List.getD_eq_getElem?_getD, List.getElem?_concat_length]
  rfl
theorem BInv.app {d t n1 : Int} {T C : List Int} (h : BInv d T C t n1) (h1 : 0 ≤ t ∧ t ≤ MaxC) (h2 : 0 ≤ n1 ∧ n1 ≤ MaxC) : BInv d (T ++ [t]) (C ++ [n1]) t n1 := by
  obtain ⟨e, g1, g2, g3⟩ := h
  refine ⟨by simp [e], fun i j hij hj => ?_, fun i hi => ?_, fun i hi => ?_⟩
  · rw [List.length_append, List.length_singleton] at hj
    by_cases q : j < T.length
    · rw [rd_app_lt q, rd_app_lt (show i < T.length by omega), rd_app_lt (show j < C.length by omega), rd_app_lt (show i < C.length by omega)]
      exact g1 i j hij q
    · rw [rd_app_eq (show j = T.length by omega), rd_app_eq (show j = C.length by omega)]
      by_cases q2 : i < T.length
      · rw [rd_app_lt q2, rd_app_lt (show i < C.length by omega)]
        exact g2 i q2
      · rw [rd_app_eq (show i = T.length by omega), rd_app_eq (show i = C.length by omega)]
        exact In.refl _ _ _
  · rw [List.length_append, List.length_singleton] at hi
    by_cases q : i < T.length
    · rw [rd_app_lt q, rd_app_lt (show i < C.length by omega)]
      exact g2 i q
    · rw [rd_app_eq (show i = T.length by omega), rd_app_eq (show i = C.length by omega)]
      exact In.refl _ _ _
  · rw [List.length_append, List.length_singleton] at hi
    by_cases q : i < T.length
    · rw [rd_app_lt q, rd_app_lt (show i < C.length by omega)]
      exact g3 i q
    · rw [rd_app_eq (show i = T.length by omega), rd_app_eq (show i = C.length by omega)]
      exact ⟨h1, h2⟩
/-- The clocks, and two rows of one's own besides. -/
def ARel (w W : World) (g b : Nat) (t : Int) (now : List Int) (dr : Int) (v1 : Value) (l1 : List Int) (v2 : Value) (l2 : List Int) : Prop :=
  Clk W w.heap.size g b t now dr ∧ Kd.R (Kd.int .i64) 3 W w.heap.size (fun k => k ≠ g ∧ k ≠ b) v1 l1 ∧ Kd.R (Kd.int .i64) 3 W w.heap.size (fun k => k ≠ g ∧ k ≠ b) v2 l2 ∧ (∀ k, v1.ownBlock = some k → v2.ownBlock ≠ some k) ∧ Below w.heap.size w W
theorem ARel.swap {w W : World} {g b : Nat} {t dr : Int} {now l1 l2 : List Int} {v1 v2 : Value} (h : ARel w W g b t now dr v1 l1 v2 l2) : ARel w W g b t now dr v2 l2 v1 l1 := ⟨h.1, h.2.2.1, h.2.1, fun k e1 e2 => h.2.2.2.1 k e2 e1, h.2.2.2.2⟩
theorem ARel.below {w W W' : World} {g b : Nat} {t dr : Int} {now l1 l2 : List Int} {v1 v2 : Value} (h : ARel w W g b t now dr v1 l1 v2 l2) (hb : Below W.heap.size W W') : ARel w W' g b t now dr v1 l1 v2 l2 :=
  ⟨h.1.below hb, Kd.R_below h.2.1 hb, Kd.R_below h.2.2.1 hb, h.2.2.2.1, below_step h.2.2.2.2 hb⟩
/-- One of the rows has grown. -/
theorem ARel.grown {w W W' : World} {g b : Nat} {t dr : Int} {now l1 l1' l2 : List Int} {v1 v1' v2 : Value} (h : ARel w W g b t now dr v1 l1 v2 l2) (ho : Kd.R (Kd.int .i64) 3 W' w.heap.size (fun k => k ≠ g ∧ k ≠ b) v1' l1') (hb : Below w.heap.size w W') (hg : W.grownBy W' v1.ownBlock) (hat : v1'.ownBlock = v1.ownBlock ∨ ∃ b, v1'.ownBlock = some b ∧ W.heap.size ≤ b) : ARel w W' g b t now dr v1' l1' v2 l2 := by
  obtain ⟨h1, h2, h3, h4, h5⟩ := h
  refine ⟨h1.kept (S := fun k => v1.ownBlock = some k) (Kept.of_grown hg (Kept.refl _ _) (fun k hk => .inl hk)) (fun e => (h2.1 g e).1 rfl) (fun e => (h2.1 b e).2 rfl), ho, Kd.R_grown2 h3 rfl hg (fun k hk e => h4 k hk e.symm), ?_, hb⟩
  intro k e1 e2
  rcases hat with e | ⟨q, e, hq⟩
  · exact h4 k (e ▸ e1) e2
  · rw [e] at e1
    cases e1
    obtain ⟨inner, hown⟩ := Kd.R_own h3
    have := own_lt hown _ e2
    omega
def BRel (w W : World) (g b : Nat) (d : Int) (vt : Value) (T : List Int) (vc : Value) (C : List Int) : Prop :=
  ∃ t now dr, ARel w W g b t now dr vt T vc C ∧ ClkOk t now dr ∧ now.length = 2 ∧ BInv d T C t (rd now 1) ∧ dr ≤ d
theorem BRel.below {w W W' : World} {g b : Nat} {d : Int} {T C : List Int} {vt vc : Value} (h : BRel w W g b d vt T vc C) (hb : Below W.heap.size W W') : BRel w W' g b d vt T vc C := by
  obtain ⟨t, now, dr, h1, h2⟩ := h
  exact ⟨t, now, dr, h1.below hb, h2⟩
theorem BRel.world {w W : World} {g b : Nat} {d : Int} {T C : List Int} {vt vc : Value} (h : BRel w W g b d vt T vc C) : Below w.heap.size w W := by
  obtain ⟨t, now, dr, h1, h2⟩ := h
  exact h1.2.2.2.2
theorem BRel.tick {w wc : World} {g b : Nat} {d : Int} {T C : List Int} {vt vc : Value} (h : BRel w wc g b d vt T vc C) (hd : drB d = true) (time : Int) (A0 : Option Addr) (c0 : Nat) (on : List Int) (hon : Kd.C (Kd.int .i64) w A0 on.length on) (hl : on.length < 17592186044416) (hk : keepsB time on d = true) :
    ∀ w2, Below wc.heap.size wc w2 → Calls Try.prog 24 #[.pointer (some ⟨g, 0, none⟩), .int .i64 time, .slice A0 on.length c0] w2 fun e w3 => ∃ v : Int, e = .returned (.int .i64 v) ∧ Aside0 (BRel w w3 g b d vt T vc C) := by
  intro w2 hb2
  obtain ⟨t, now, dr, h1, h2, h3, h4, h5⟩ := h
  have h6 := h1.below hb2
  refine (Tick.at time A0 c0 on w2 h6.1 h2 (hon_came hon h6.2.2.2.2 h6.1.ge.1 h6.1.ge.2) hl).mono ?_
  rintro e w3 (⟨ha, hr, rfl, r, hi, hc, hf⟩ | ⟨_, _, rfl, hb⟩ | ⟨_, rfl, hb⟩)
  · have hk2 := hi.2.2 d hd
    rw [hk] at hk2
    have hrd := of_decide_eq_true hk2.symm
    refine ⟨0, rfl, ⟨t + time, addL now on, _, ⟨hc, Kd.R_kept h6.2.1 hf.kept (fun k hk q => ?_), Kd.R_kept h6.2.2.1 hf.kept (fun k hk q => ?_), h6.2.2.2.1, hf.below (fun k hk => by have := h6.1.ge; rcases hk with rfl | rfl <;> omega) h6.2.2.2.2.size h6.2.2.2.2⟩, h2.tick ha hr hi, by rw [addL_length _ _ ha.2.1]; exact h3, ?_, by split <;> omega⟩⟩
    · rcases q with rfl | rfl
      · exact hk.1 rfl
      · exact hk.2 rfl
    · rcases q with rfl | rfl
      · exact hk.1 rfl
      · exact hk.2 rfl
    · have e11 : rd (addL now on) 1 = rd now 1 + rd on 1 := rd_addL ha.2.1 1 (by omega)
      simp only [keepsB, Bool.and_eq_true] at hk
      rw [e11]
      have hl2 := ha.2.1
      exact h4.tick (tkB_iff.mp ha.1).1 (rd_all hk.2.2 1 (by omega))
  · exact ⟨2, rfl, ⟨t, now, dr, h6.below hb, h2, h3, h4, h5⟩⟩
  · exact ⟨1, rfl, ⟨t, now, dr, h6.below hb, h2, h3, h4, h5⟩⟩
set_option maxHeartbeats 16000000 in
set_option maxRecDepth 100000 in
theorem ClockBounds.out (w : World) (A0 : Option Addr) (c0 : Nat) (l0 : List S44) (d from_ : Int) (hd : drB d = false) :
    Calls Try.prog 4 #[.slice A0 l0.length c0, .int .i64 d, .int .i64 from_] w fun e w' => e = .returned (.bool true) ∧ Below w.heap.size w w' := by
  by_cases k : d < 0
  · have kb : decide (d < 0) = true := decide_eq_true k
    clear k
    go_enter Try.func4, Try.ntmps4
    go_wp2_with fail
    refine (New.at 2 _ (by decide) (by decide)).mono ?_
    rintro e w3 ⟨g, b, rfl, hc, hb⟩
    have HC := Aside0.mk hc
    have HB := Aside0.mk hb
    clear hc hb
    go_wp2_with fail
    refine (lives05.at _).mono ?_
    rintro e w4 ⟨rfl, hb⟩
    replace HC := Aside0.mk (HC.out.below hb)
    replace HB := Aside0.mk (below_step HB.out hb)
    clear hb
    go_wp2_with fail
    refine (CKeeps.at d _ HC.out (by decide)).mono ?_
    rw [hd]
    rintro e w5 ⟨rfl, ⟨n1, rfl⟩⟩
    go_wp2
    go_ret
    exact ⟨by rfl, pw_below_drewN HB.out _⟩
  · have kb : decide (d < 0) = false := decide_eq_false k
    have kb2 : decide (999 < d) = true := decide_eq_true (by
      have : ¬ (0 ≤ d ∧ d ≤ 999) := fun h => by rw [drB_iff.mpr h] at hd; exact absurd hd (by simp)
      omega)
    clear k
    go_enter Try.func4, Try.ntmps4
    go_wp2_with fail
    refine (New.at 2 _ (by decide) (by decide)).mono ?_
    rintro e w3 ⟨g, b, rfl, hc, hb⟩
    have HC := Aside0.mk hc
    have HB := Aside0.mk hb
    clear hc hb
    go_wp2_with fail
    refine (lives05.at _).mono ?_
    rintro e w4 ⟨rfl, hb⟩
    replace HC := Aside0.mk (HC.out.below hb)
    replace HB := Aside0.mk (below_step HB.out hb)
    clear hb
    go_wp2_with fail
    refine (CKeeps.at d _ HC.out (by decide)).mono ?_
    rw [hd]
    rintro e w5 ⟨rfl, ⟨n1, rfl⟩⟩
    go_wp2
    go_ret
    exact ⟨by rfl, pw_below_drewN HB.out _⟩
set_option maxHeartbeats 32000000 in
set_option maxRecDepth 100000 in
theorem ClockBounds.in_ (w : World) (A0 : Option Addr) (c0 : Nat) (l0 : List S44) (hr0 : Kd.C k44 w A0 l0.length l0) (y0 : l0.length * 32 ≤ 140737488351232) (hq : ∀ y ∈ l0, t44wf y) (d from_ : Int) (hd : drB d = true) :
    Calls Try.prog 4 #[.slice A0 l0.length c0, .int .i64 d, .int .i64 from_] w fun e w' => e = .returned (.bool true) ∧ Below w.heap.size w w' := by
  have HR := Aside0.mk hr0
  have HY := Aside0.mk y0
  have HQ := Aside0.mk hq
  have HD := Aside0.mk (drB_iff.mp hd)
  have HDb := Aside0.mk hd
  have kb : decide (d < 0) = false := decide_eq_false (by have := HD.out; omega)
  have kb2 : decide (999 < d) = false := decide_eq_false (by have := HD.out; omega)
  clear hr0 y0 hq hd
  go_enter Try.func4, Try.ntmps4
  go_wp2_with fail
  refine (New.at 2 _ (by decide) (by decide)).mono ?_
  rintro e w3 ⟨g, b, rfl, hc, hb⟩
  have HC := Aside0.mk hc
  have HB := Aside0.mk hb
  clear hc hb
  go_wp2_with fail
  refine (lives05.at _).mono ?_
  rintro e w4 ⟨rfl, hb⟩
  have HT : Aside0 (BRel w w4 g b d (.slice none 0 0) [] (.slice none 0 0) []) := ⟨⟨0, [0, 0], 0, ⟨HC.out.below hb, Kd.R_nil _ _ _ _ _, Kd.R_nil _ _ _ _ _, fun k e => by simp [Value.ownBlock] at e, below_step HB.out hb⟩, clkOk0 2 (by decide) (by decide), rfl, BInv.nil _ _ _, HD.out.1⟩⟩
  clear hb HC HB
  go_wp2
  go_loopg [9, 10, 11] l0.length (fun kq v9 v10 v11 wc => ∃ (T C : List Int) (x : Int), v11 = .int .i64 x ∧ Aside0 (∃ j : Nat, x = (j : Int) ∧ j + kq = l0.length ∧ T.length ≤ j) ∧ Aside0 (BRel w wc g b d v9 T v10 C))
  case atStart => exact ⟨[], [], 0, rfl, ⟨0, rfl, by omega, Nat.le_refl _⟩, HT⟩
  case round =>
    clear HT
    obtain ⟨T, C, x, rfl, HJ, HT⟩ := hrel
    cases gk with
    | zero =>
      have c0b : decide (x < (l0.length : Int)) = false := decide_eq_false (by obtain ⟨j, e, hj, _⟩ := HJ.out; omega)
      have HTl : Aside0 (T.length ≤ l0.length) := ⟨by obtain ⟨j, e, hj, h⟩ := HJ.out; omega⟩
      clear HJ
      obtain ⟨t, now, dr, g1, g2, g3, g4, g5⟩ := HT.out
      have HA := Aside0.mk g1
      have HBI := Aside0.mk g4
      have HNl := Aside0.mk g3
      have kd : (drB d && decide (dr ≤ d)) = true := by rw [HDb.out, decide_eq_true g5]; rfl
      clear g1 g2 g3 g4 g5 HT HR HQ
      obtain ⟨A9, c9, e9⟩ := Kd.R_slice HA.out.2.1
      subst e9
      obtain ⟨A10, c10, e10⟩ := Kd.R_slice HA.out.2.2.1
      subst e10
      go_wp2_with fail
      refine (CKeeps.at d _ HA.out.1 (by have := HNl.out; omega)).mono ?_
      rw [kd]
      rintro e w5 ⟨rfl, ⟨n1, hq5⟩⟩
      replace HA : Aside0 (ARel w w5 g b t now dr (.slice A9 T.length c9) T (.slice A10 C.length c10) C) := ⟨by subst hq5; exact HA.out.below (pw_below_drewN (Below.refl _ _) _)⟩
      clear hq5 kd
      have HRT := Aside0.mk (Kd.R_reads' HA.out.2.1).2.2
      have HRC := Aside0.mk (Kd.R_reads' HA.out.2.2.1).2.2
      have HB := Aside0.mk HA.out.2.2.2.2
      clear HA
      by_cases kz : T.length = 0
      · have kzb : ((T.length : Int) == 0) = true := by rw [beq_iff_eq]; omega
        clear kz
        go_wp2
        go_ret
        exact ⟨rfl, HB.out⟩
      · have kzb : ((T.length : Int) == 0) = false := by rw [beq_eq_false_iff_ne]; omega
        have kzn : ((T.length : Int) != 0) = true := by rw [bne_iff_ne]; omega
        obtain ⟨k0, ek0⟩ : ∃ k0, from_.tmod (T.length : Int) = k0 := ⟨_, rfl⟩
        have HK0 : Aside0 (-(T.length : Int) < k0 ∧ k0 < (T.length : Int)) := ⟨by
          rw [← ek0]
          have := Int.tmod_lt_of_pos from_ (show 0 < (T.length : Int) by omega)
          have := Int.lt_tmod_of_pos from_ (show 0 < (T.length : Int) by omega)
          omega⟩
        have HYT : Aside0 (T.length ≤ 4398046511104) := ⟨by have := HTl.out; have := HY.out; omega⟩
        have ek1 : IntKind.i64.wrap k0 = k0 := by rw [i64_w]; unfold wrap64; have := HK0.out; have := HYT.out; omega
        have ek2 : IntKind.i64.wrap (k0 + (T.length : Int)) = k0 + (T.length : Int) := by rw [i64_w]; unfold wrap64; have := HK0.out; have := HYT.out; omega
        have HTpos : Aside0 (0 < T.length) := ⟨by omega⟩
        have kzf : ((T.length : Int) = 0) = False := eq_false (by omega)
        clear kz
        go_upto_if 95 with (fail)
        · exfalso
          rename_i h
          have hp := HTpos.out
          rw [h] at hp
          exact absurd hp (by simp)
        go_cut [12] from 90 to 152 (fun v12 wc => ∃ K : Nat, v12 = .int .i64 (K : Int) ∧ Aside0 (K < T.length) ∧ Aside0 (wc = w5))
        case first =>
          go_wp2
          all_goals
            by_cases kn : k0 < 0
            · first
                | (exfalso; omega)
                | (obtain ⟨K, eK⟩ := Int.eq_ofNat_of_zero_le (show 0 ≤ k0 + (T.length : Int) by have := HK0.out; omega)
                   go_meet
                   case rel => exact ⟨K, by rw [eK], ⟨by omega⟩, ⟨rfl⟩⟩)
            · first
                | (exfalso; omega)
                | (obtain ⟨K, eK⟩ := Int.eq_ofNat_of_zero_le (show 0 ≤ k0 by omega)
                   go_meet
                   case rel => exact ⟨K, by rw [eK], ⟨by have := HK0.out; omega⟩, ⟨rfl⟩⟩)
        case rest =>
          clear ek0 ek1 ek2 HK0
          obtain ⟨K, rfl, HKl, HWc⟩ := hcut
          obtain rfl := HWc.out
          clear HWc
          go_wp2
          go_loopg [13] (T.length - K) (fun kq v13 wx => ∃ i : Int, v13 = .int .i64 i ∧ Aside0 (∃ j : Nat, i = (j : Int) ∧ K ≤ j ∧ j + kq = T.length) ∧ Aside0 (Below wc.heap.size wc wx))
          case atStart => exact ⟨K, rfl, ⟨K, rfl, Nat.le_refl _, by have := HKl.out; omega⟩, ⟨Below.refl _ _⟩⟩
          case round =>
            obtain ⟨i, rfl, HJ, HBx⟩ := hrel
            cases gk with
            | zero =>
              have cib : decide (i < (T.length : Int)) = false := decide_eq_false (by obtain ⟨j, e, hj, _⟩ := HJ.out; omega)
              have HBz := Aside0.mk (below_step HB.out HBx.out)
              go_wp2
              go_ret
              exact ⟨rfl, HBz.out⟩
            | succ m =>
              have cib : decide (i < (T.length : Int)) = true := decide_eq_true (by obtain ⟨j, e, hj, _⟩ := HJ.out; omega)
              have hi1 : IntKind.i64.wrap (i + 1) = i + 1 := by rw [i64_w]; unfold wrap64; obtain ⟨j, e, hj, _⟩ := HJ.out; have := HYT.out; omega
              have HIn : Aside0 (In d (rd T (K : Int)) (rd C (K : Int)) (rd T i) (rd C i) ∧ ((0 ≤ rd T (K : Int) ∧ rd T (K : Int) ≤ MaxC) ∧ (0 ≤ rd C (K : Int) ∧ rd C (K : Int) ≤ MaxC)) ∧ ((0 ≤ rd T i ∧ rd T i ≤ MaxC) ∧ (0 ≤ rd C i ∧ rd C i ≤ MaxC))) := ⟨by
                obtain ⟨j, e, hj, hj2⟩ := HJ.out
                rw [e]
                exact ⟨HBI.out.2.1 K j hj (by omega), HBI.out.2.2.2 K HKl.out, HBI.out.2.2.2 j (by omega)⟩⟩
              have p0 : 0 ≤ i := by obtain ⟨j, e, hj, _⟩ := HJ.out; omega
              have p1 : i < (T.length : Int) := by obtain ⟨j, e, hj, _⟩ := HJ.out; omega
              have p2 : i < (C.length : Int) := by have := HBI.out.1; omega
              have p3 : 0 ≤ (K : Int) := by omega
              have p4 : (K : Int) < (T.length : Int) := by have := HKl.out; omega
              have p5 : (K : Int) < (C.length : Int) := by have := HBI.out.1; omega
              obtain ⟨adT, eT, t1⟩ := Kd.at_int (Kd.C_below HRT.out HBx.out) i p0 p1
              obtain ⟨adT2, eT2, t2⟩ := Kd.at_int (Kd.C_below HRT.out HBx.out) K p3 p4
              obtain ⟨adC, eC, t3⟩ := Kd.at_int (Kd.C_below HRC.out HBx.out) i p0 p2
              obtain ⟨adC2, eC2, t4⟩ := Kd.at_int (Kd.C_below HRC.out HBx.out) K p3 p5
              subst eT eC
              cases eT2
              cases eC2
              obtain ⟨tk, etk⟩ : ∃ tk, tk = rd T (K : Int) := ⟨_, rfl⟩
              obtain ⟨ck, eck⟩ : ∃ ck, ck = rd C (K : Int) := ⟨_, rfl⟩
              obtain ⟨ti, eti⟩ : ∃ ti, ti = rd T i := ⟨_, rfl⟩
              obtain ⟨ci, eci⟩ : ∃ ci, ci = rd C i := ⟨_, rfl⟩
              rw [← etk, ← eck, ← eti, ← eci] at HIn
              rw [← eti] at t1
              rw [← etk] at t2
              rw [← eci] at t3
              rw [← eck] at t4
              clear etk eck eti eci
              rw [Int.toNat_natCast] at t2 t4
              replace p0 := eq_true p0
              replace p1 := eq_true p1
              replace p2 := eq_true p2
              replace p3 := eq_true p3
              replace p4 := eq_true p4
              replace p5 := eq_true p5
              have w1e : IntKind.i64.wrap (ti - tk) = ti - tk := by rw [i64_w]; unfold wrap64; have := HIn.out.2; unfold MaxC at this; omega
              have w2e : IntKind.i64.wrap (ci - ck) = ci - ck := by rw [i64_w]; unfold wrap64; have := HIn.out.2; unfold MaxC at this; omega
              have qd1 : decide (ci - ck < 0) = false := decide_eq_false (by have := HIn.out.1.2.1; omega)
              have qd2 : decide (ti - tk < 0) = false := decide_eq_false (by have := HIn.out.1.1; omega)
              go_upto_region 23 with (fail)
              refine start_ (n := 20) (S := fun w' => w'.cell? (adT.add i.toNat) = some (.int .i64 ti) ∧ w'.cell? (adT.add K) = some (.int .i64 tk) ∧ w'.cell? (adC.add i.toNat) = some (.int .i64 ci) ∧ w'.cell? (adC.add K) = some (.int .i64 ck)) (ds := []) #[false, false, false, false, false, false, false, false, false, false, false, false, false, false, false, false, false, false, false, false] (by kernel_rfl) rfl rfl ⟨t1, t2, t3, t4⟩ (fun hHeld => ?_)
              refine pure_ (i := 0) (N := some 107) (v := ?_) (a' := ?_) #[true, false, false, false, false, false, false, false, false, false, false, false, false, false, false, false, false, false, false, false] rfl rfl (by kernel_rfl) (fun _ _ _ h => h) (Or.inl ⟨by rfl, ?_⟩) ?_ ?_
              rotate_left
              · intro w'
                go_simp
                with_reducible rfl
              rotate_left
              · simp only [Act.put, List.setIfInBounds_toArray, List.set_cons_zero, List.set_cons_succ, i64_w, i32_w]
                rfl
              refine pure_ (i := 1) (N := some 108) (v := ?_) (a' := ?_) #[true, true, false, false, false, false, false, false, false, false, false, false, false, false, false, false, false, false, false, false] rfl rfl (by kernel_rfl) (fun _ _ _ h => h) (Or.inl ⟨by rfl, ?_⟩) ?_ ?_
              rotate_left
              · intro w'
                go_simp
                with_reducible rfl
              rotate_left
              · simp only [Act.put, List.setIfInBounds_toArray, List.set_cons_zero, List.set_cons_succ, i64_w, i32_w]
                rfl
              refine pure_ (i := 2) (N := some 109) (v := ?_) (a' := ?_) #[true, true, true, false, false, false, false, false, false, false, false, false, false, false, false, false, false, false, false, false] rfl rfl (by kernel_rfl) (fun _ _ _ h => h) (Or.inl ⟨by rfl, ?_⟩) ?_ ?_
              rotate_left
              · intro w'
                go_simp
                with_reducible rfl
              rotate_left
              · simp only [Act.put, List.setIfInBounds_toArray, List.set_cons_zero, List.set_cons_succ, i64_w, i32_w]
                rfl
              refine pure_ (i := 4) (N := some 111) (v := ?_) (a' := ?_) #[true, true, true, false, true, false, false, false, false, false, false, false, false, false, false, false, false, false, false, false] rfl rfl (by kernel_rfl) (fun _ _ _ h => h) (Or.inl ⟨by rfl, ?_⟩) ?_ ?_
              rotate_left
              · intro w'
                go_simp
                with_reducible rfl
              rotate_left
              · simp only [Act.put, List.setIfInBounds_toArray, List.set_cons_zero, List.set_cons_succ, i64_w, i32_w]
                rfl
              refine pure_ (i := 5) (N := some 112) (v := ?_) (a' := ?_) #[true, true, true, false, true, true, false, false, false, false, false, false, false, false, false, false, false, false, false, false] rfl rfl (by kernel_rfl) (fun _ _ _ h => h) (Or.inl ⟨by rfl, ?_⟩) ?_ ?_
              rotate_left
              · intro w'
                go_simp
                with_reducible rfl
              rotate_left
              · simp only [Act.put, List.setIfInBounds_toArray, List.set_cons_zero, List.set_cons_succ, i64_w, i32_w]
                rfl
              refine pure_ (i := 6) (N := some 113) (v := ?_) (a' := ?_) #[true, true, true, false, true, true, true, false, false, false, false, false, false, false, false, false, false, false, false, false] rfl rfl (by kernel_rfl) (fun _ _ _ h => h) (Or.inl ⟨by rfl, ?_⟩) ?_ ?_
              rotate_left
              · intro w'
                go_simp
                with_reducible rfl
              rotate_left
              · simp only [Act.put, List.setIfInBounds_toArray, List.set_cons_zero, List.set_cons_succ, i64_w, i32_w]
                rfl
              refine pure_ (i := 9) (N := some 116) (v := ?_) (a' := ?_) #[true, true, true, false, true, true, true, false, false, true, false, false, false, false, false, false, false, false, false, false] rfl rfl (by kernel_rfl) (fun _ _ _ h => h) (Or.inl ⟨by rfl, ?_⟩) ?_ ?_
              rotate_left
              · intro w'
                go_simp
                with_reducible rfl
              rotate_left
              · simp only [Act.put, List.setIfInBounds_toArray, List.set_cons_zero, List.set_cons_succ, i64_w, i32_w]
                rfl
              refine pure_ (i := 10) (N := some 117) (v := ?_) (a' := ?_) #[true, true, true, false, true, true, true, false, false, true, true, false, false, false, false, false, false, false, false, false] rfl rfl (by kernel_rfl) (fun _ _ _ h => h) (Or.inl ⟨by rfl, ?_⟩) ?_ ?_
              rotate_left
              · intro w'
                go_simp
                with_reducible rfl
              rotate_left
              · simp only [Act.put, List.setIfInBounds_toArray, List.set_cons_zero, List.set_cons_succ, i64_w, i32_w]
                rfl
              refine pure_ (i := 11) (N := some 118) (v := ?_) (a' := ?_) #[true, true, true, false, true, true, true, false, false, true, true, true, false, false, false, false, false, false, false, false] rfl rfl (by kernel_rfl) (fun _ _ _ h => h) (Or.inl ⟨by rfl, ?_⟩) ?_ ?_
              rotate_left
              · intro w'
                go_simp
                with_reducible rfl
              rotate_left
              · simp only [Act.put, List.setIfInBounds_toArray, List.set_cons_zero, List.set_cons_succ, i64_w, i32_w]
                rfl
              refine pure_ (i := 13) (N := some 120) (v := ?_) (a' := ?_) #[true, true, true, false, true, true, true, false, false, true, true, true, false, true, false, false, false, false, false, false] rfl rfl (by kernel_rfl) (fun _ _ _ h => h) (Or.inl ⟨by rfl, ?_⟩) ?_ ?_
              rotate_left
              · intro w'
                go_simp
                with_reducible rfl
              rotate_left
              · simp only [Act.put, List.setIfInBounds_toArray, List.set_cons_zero, List.set_cons_succ, i64_w, i32_w]
                rfl
              refine pure_ (i := 14) (N := some 121) (v := ?_) (a' := ?_) #[true, true, true, false, true, true, true, false, false, true, true, true, false, true, true, false, false, false, false, false] rfl rfl (by kernel_rfl) (fun _ _ _ h => h) (Or.inl ⟨by rfl, ?_⟩) ?_ ?_
              rotate_left
              · intro w'
                go_simp
                with_reducible rfl
              rotate_left
              · simp only [Act.put, List.setIfInBounds_toArray, List.set_cons_zero, List.set_cons_succ, i64_w, i32_w]
                rfl
              refine pure_ (i := 15) (N := some 122) (v := ?_) (a' := ?_) #[true, true, true, false, true, true, true, false, false, true, true, true, false, true, true, true, false, false, false, false] rfl rfl (by kernel_rfl) (fun _ _ _ h => h) (Or.inl ⟨by rfl, ?_⟩) ?_ ?_
              rotate_left
              · intro w'
                go_simp
                with_reducible rfl
              rotate_left
              · simp only [Act.put, List.setIfInBounds_toArray, List.set_cons_zero, List.set_cons_succ, i64_w, i32_w]
                rfl
              refine take_ (i := 3) (N := some 110) (v := ?_) (a' := ?_) #[true, true, true, true, true, true, true, false, false, true, true, true, false, true, true, true, false, false, false, false] rfl rfl (by kernel_rfl) (fun _ _ _ h => h) (Or.inl ⟨by rfl, ?_⟩) hHeld ?_ ?_
              rotate_left
              · rintro w' ⟨s0, s1, s2, s3⟩
                go_simp
                with_reducible rfl
              rotate_left
              · simp only [Act.put, List.setIfInBounds_toArray, List.set_cons_zero, List.set_cons_succ, i64_w, i32_w]
                rfl
              refine take_ (i := 7) (N := some 114) (v := ?_) (a' := ?_) #[true, true, true, true, true, true, true, true, false, true, true, true, false, true, true, true, false, false, false, false] rfl rfl (by kernel_rfl) (fun _ _ _ h => h) (Or.inl ⟨by rfl, ?_⟩) hHeld ?_ ?_
              rotate_left
              · rintro w' ⟨s0, s1, s2, s3⟩
                go_simp
                with_reducible rfl
              rotate_left
              · simp only [Act.put, List.setIfInBounds_toArray, List.set_cons_zero, List.set_cons_succ, i64_w, i32_w]
                rfl
              refine pure_ (i := 8) (N := some 115) (v := ?_) (a' := ?_) #[true, true, true, true, true, true, true, true, true, true, true, true, false, true, true, true, false, false, false, false] rfl rfl (by kernel_rfl) (fun _ _ _ h => h) (Or.inl ⟨by rfl, ?_⟩) ?_ ?_
              rotate_left
              · intro w'
                go_simp
                with_reducible rfl
              rotate_left
              · simp only [Act.put, List.setIfInBounds_toArray, List.set_cons_zero, List.set_cons_succ, i64_w, i32_w]
                rfl
              refine pure_ (i := 18) (N := some 14) (v := ?_) (a' := ?_) #[true, true, true, true, true, true, true, true, true, true, true, true, false, true, true, true, false, false, true, false] rfl rfl (by kernel_rfl) (fun _ _ _ h => h) (Or.inl ⟨by rfl, ?_⟩) ?_ ?_
              rotate_left
              · intro w'
                go_simp
                with_reducible rfl
              rotate_left
              · simp only [Act.put, List.setIfInBounds_toArray, List.set_cons_zero, List.set_cons_succ, i64_w, i32_w]
                rfl
              refine take_ (i := 12) (N := some 119) (v := ?_) (a' := ?_) #[true, true, true, true, true, true, true, true, true, true, true, true, true, true, true, true, false, false, true, false] rfl rfl (by kernel_rfl) (fun _ _ _ h => h) (Or.inl ⟨by rfl, ?_⟩) hHeld ?_ ?_
              rotate_left
              · rintro w' ⟨s0, s1, s2, s3⟩
                go_simp
                with_reducible rfl
              rotate_left
              · simp only [Act.put, List.setIfInBounds_toArray, List.set_cons_zero, List.set_cons_succ, i64_w, i32_w]
                rfl
              refine take_ (i := 16) (N := some 123) (v := ?_) (a' := ?_) #[true, true, true, true, true, true, true, true, true, true, true, true, true, true, true, true, true, false, true, false] rfl rfl (by kernel_rfl) (fun _ _ _ h => h) (Or.inl ⟨by rfl, ?_⟩) hHeld ?_ ?_
              rotate_left
              · rintro w' ⟨s0, s1, s2, s3⟩
                go_simp
                with_reducible rfl
              rotate_left
              · simp only [Act.put, List.setIfInBounds_toArray, List.set_cons_zero, List.set_cons_succ, i64_w, i32_w]
                rfl
              refine pure_ (i := 17) (N := some 124) (v := ?_) (a' := ?_) #[true, true, true, true, true, true, true, true, true, true, true, true, true, true, true, true, true, true, true, false] rfl rfl (by kernel_rfl) (fun _ _ _ h => h) (Or.inl ⟨by rfl, ?_⟩) ?_ ?_
              rotate_left
              · intro w'
                go_simp
                with_reducible rfl
              rotate_left
              · simp only [Act.put, List.setIfInBounds_toArray, List.set_cons_zero, List.set_cons_succ, i64_w, i32_w]
                rfl
              refine pure_ (i := 19) (N := some 15) (v := ?_) (a' := ?_) #[true, true, true, true, true, true, true, true, true, true, true, true, true, true, true, true, true, true, true, true] rfl rfl (by kernel_rfl) (fun _ _ _ h => h) (Or.inl ⟨by rfl, ?_⟩) ?_ ?_
              rotate_left
              · intro w'
                go_simp
                with_reducible rfl
              rotate_left
              · simp only [Act.put, List.setIfInBounds_toArray, List.set_cons_zero, List.set_cons_succ, i64_w, i32_w]
                rfl
              refine done_ (by kernel_rfl) ?_
              clear hHeld t1 t2 t3 t4 p0 p1 p2 p3 p4 p5 w1e w2e
              have HJ3 : Aside0 (∃ j : Nat, i + 1 = (j : Int) ∧ K ≤ j ∧ j + m = T.length) := ⟨by obtain ⟨j, e, hj, hj2⟩ := HJ.out; exact ⟨j + 1, by omega, by omega, by omega⟩⟩
              by_cases kt : ti - tk < 1099511627776
              · have ktb : decide (ti - tk < 1099511627776) = true := decide_eq_true kt
                have hI := HIn.out.1
                have hD := HD.out
                unfold In at hI
                have m1 : (1000 - d) * (ti - tk) ≤ 1000 * 1099511627776 := mul_le_of (by omega) (by omega) (by omega) (by omega)
                have m2 : (1000 + d) * (ti - tk) ≤ 1999 * 1099511627776 := mul_le_of (by omega) (by omega) (by omega) (by omega)
                have m3 : 0 ≤ (1000 - d) * (ti - tk) := Int.mul_nonneg (by omega) (by omega)
                have m4 : 0 ≤ (1000 + d) * (ti - tk) := Int.mul_nonneg (by omega) (by omega)
                have z1 : IntKind.i64.wrap (1000 - d) = 1000 - d := by rw [i64_w]; unfold wrap64; omega
                have z2 : IntKind.i64.wrap (1000 + d) = 1000 + d := by rw [i64_w]; unfold wrap64; omega
                have z3 : IntKind.i64.wrap ((1000 - d) * (ti - tk)) = (1000 - d) * (ti - tk) := by rw [i64_w]; unfold wrap64; omega
                have z4 : IntKind.i64.wrap ((1000 + d) * (ti - tk)) = (1000 + d) * (ti - tk) := by rw [i64_w]; unfold wrap64; omega
                have z5 : IntKind.i64.wrap (1000 * (ci - ck)) = 1000 * (ci - ck) := by rw [i64_w]; unfold wrap64; omega
                have qd3 : decide (1000 * (ci - ck) < (1000 - d) * (ti - tk)) = false := decide_eq_false (by omega)
                have qd4 : decide ((1000 + d) * (ti - tk) < 1000 * (ci - ck)) = false := decide_eq_false (by omega)
                clear hI hD m1 m2 m3 m4 kt
                go_wp2
                go_roundg m
                case measure => omega
                case rel => exact ⟨i + 1, rfl, HJ3, ⟨Below.drew HBx.out⟩⟩
              · have ktb : decide (ti - tk < 1099511627776) = false := decide_eq_false kt
                clear kt
                go_wp2
                go_roundg m
                case measure => omega
                case rel => exact ⟨i + 1, rfl, HJ3, ⟨Below.drew HBx.out⟩⟩
    | succ m =>
      have c0b : decide (x < (l0.length : Int)) = true := decide_eq_true (by obtain ⟨j, e, hj, _⟩ := HJ.out; omega)
      have HX1 : Aside0 (IntKind.i64.wrap (x + 1) = x + 1) := ⟨by rw [i64_w]; unfold wrap64; obtain ⟨j, e, hj, _⟩ := HJ.out; have := HY.out; omega⟩
      have p0 : 0 ≤ x := by obtain ⟨j, e, hj, _⟩ := HJ.out; omega
      have p1 : x < (l0.length : Int) := by obtain ⟨j, e, hj, _⟩ := HJ.out; omega
      obtain ⟨ad, A1, c1, rfl, hx0, hx1, hl1, hi1⟩ := at_T44 HR.out x p0 p1
      have HI := Aside0.mk hi1
      have HLn : Aside0 ((rd_T44 l0 x).f1.length < 17592186044416) := ⟨by
        have := HQ.out (rd_T44 l0 x) (by
          unfold rd_T44
          rw [List.getD_eq_getElem?_getD, List.getElem?_eq_getElem (by omega)]
          exact List.getElem_mem _)
        have := this.2.1
        omega⟩
      have HX01 := Aside0.mk (And.intro hx0 hx1)
      clear hx0 hx1 hl1 hi1
      go_upto_region 11 with (fail)
      go_cut [72] from 40 to 82 (fun v72 wc => ∃ ap : Bool, v72 = .bool ap ∧ Aside0 (BRel w wc g b d u9 T u10 C))
      case first =>
        have q0 := pw_cell_below HT.out.world HX01.out.1
        have q1 := pw_cell_below HT.out.world HX01.out.2
        replace p0 := eq_true p0
        replace p1 := eq_true p1
        by_cases hk : keepsB (rd_T44 l0 x).f0 (rd_T44 l0 x).f1 d = true
        · have HTk := Aside0.mk (HT.out.tick HDb.out (rd_T44 l0 x).f0 A1 c1 (rd_T44 l0 x).f1 HI.out HLn.out hk)
          have HKp : Aside0 (∀ w2, Below wr.heap.size wr w2 → Calls Try.prog 23 #[.int .i64 (rd_T44 l0 x).f0, .slice A1 (rd_T44 l0 x).f1.length c1, .int .i64 d] w2 fun e w3 => e = .returned (.bool true) ∧ w3.cell? (ad.add (x.toNat * 2)) = some (.int .i64 (rd_T44 l0 x).f0) ∧ w3.cell? ⟨(ad.add (x.toNat * 2)).block, (ad.add (x.toNat * 2)).off + 1, none⟩ = some (.slice A1 (rd_T44 l0 x).f1.length c1) ∧ Aside0 (Below wr.heap.size wr w3)) := ⟨fun w2 hb2 => by
            refine (keeps.at _ _ _ _ (rd_T44 l0 x).f1 _ (Kd.C_below HI.out (below_step HT.out.world hb2)) HLn.out).mono ?_
            rw [hk]
            rintro e w3 ⟨rfl, hb3⟩
            have := below_step HT.out.world (below_step hb2 hb3)
            exact ⟨rfl, pw_cell_below this HX01.out.1, pw_cell_below this HX01.out.2, ⟨below_step hb2 hb3⟩⟩⟩
          clear hk
          refine start_ (n := 27) (S := fun w' => w'.cell? (ad.add (x.toNat * 2)) = some (.int .i64 (rd_T44 l0 x).f0) ∧ w'.cell? ⟨(ad.add (x.toNat * 2)).block, (ad.add (x.toNat * 2)).off + 1, none⟩ = some (.slice A1 (rd_T44 l0 x).f1.length c1)) (ds := [24]) #[false, false, false, false, false, false, false, false, false, false, false, false, false, false, false, false, false, false, false, false, false, false, false, false, false, false, false] (by kernel_rfl) rfl rfl ⟨q0, q1⟩ (fun hHeld => ?_)
          refine pure_ (i := 0) (N := some 46) (v := ?_) (a' := ?_) #[true, false, false, false, false, false, false, false, false, false, false, false, false, false, false, false, false, false, false, false, false, false, false, false, false, false, false] rfl rfl (by kernel_rfl) (fun _ _ _ h => h) (Or.inl ⟨by rfl, ?_⟩) ?_ ?_
          rotate_left
          · intro w'
            go_simp
            with_reducible rfl
          rotate_left
          · simp only [Act.put, List.setIfInBounds_toArray, List.set_cons_zero, List.set_cons_succ, i64_w, i32_w]
            rfl
          refine pure_ (i := 1) (N := some 47) (v := ?_) (a' := ?_) #[true, true, false, false, false, false, false, false, false, false, false, false, false, false, false, false, false, false, false, false, false, false, false, false, false, false, false] rfl rfl (by kernel_rfl) (fun _ _ _ h => h) (Or.inl ⟨by rfl, ?_⟩) ?_ ?_
          rotate_left
          · intro w'
            go_simp
            with_reducible rfl
          rotate_left
          · simp only [Act.put, List.setIfInBounds_toArray, List.set_cons_zero, List.set_cons_succ, i64_w, i32_w]
            rfl
          refine pure_ (i := 2) (N := some 48) (v := ?_) (a' := ?_) #[true, true, true, false, false, false, false, false, false, false, false, false, false, false, false, false, false, false, false, false, false, false, false, false, false, false, false] rfl rfl (by kernel_rfl) (fun _ _ _ h => h) (Or.inl ⟨by rfl, ?_⟩) ?_ ?_
          rotate_left
          · intro w'
            go_simp
            with_reducible rfl
          rotate_left
          · simp only [Act.put, List.setIfInBounds_toArray, List.set_cons_zero, List.set_cons_succ, i64_w, i32_w]
            rfl
          refine pure_ (i := 3) (N := some 49) (v := ?_) (a' := ?_) #[true, true, true, true, false, false, false, false, false, false, false, false, false, false, false, false, false, false, false, false, false, false, false, false, false, false, false] rfl rfl (by kernel_rfl) (fun _ _ _ h => h) (Or.inl ⟨by rfl, ?_⟩) ?_ ?_
          rotate_left
          · intro w'
            go_simp
            with_reducible rfl
          rotate_left
          · simp only [Act.put, List.setIfInBounds_toArray, List.set_cons_zero, List.set_cons_succ, i64_w, i32_w]
            rfl
          refine pure_ (i := 5) (N := some 51) (v := ?_) (a' := ?_) #[true, true, true, true, false, true, false, false, false, false, false, false, false, false, false, false, false, false, false, false, false, false, false, false, false, false, false] rfl rfl (by kernel_rfl) (fun _ _ _ h => h) (Or.inl ⟨by rfl, ?_⟩) ?_ ?_
          rotate_left
          · intro w'
            go_simp
            with_reducible rfl
          rotate_left
          · simp only [Act.put, List.setIfInBounds_toArray, List.set_cons_zero, List.set_cons_succ, i64_w, i32_w]
            rfl
          refine pure_ (i := 6) (N := some 52) (v := ?_) (a' := ?_) #[true, true, true, true, false, true, true, false, false, false, false, false, false, false, false, false, false, false, false, false, false, false, false, false, false, false, false] rfl rfl (by kernel_rfl) (fun _ _ _ h => h) (Or.inl ⟨by rfl, ?_⟩) ?_ ?_
          rotate_left
          · intro w'
            go_simp
            with_reducible rfl
          rotate_left
          · simp only [Act.put, List.setIfInBounds_toArray, List.set_cons_zero, List.set_cons_succ, i64_w, i32_w]
            rfl
          refine pure_ (i := 7) (N := some 53) (v := ?_) (a' := ?_) #[true, true, true, true, false, true, true, true, false, false, false, false, false, false, false, false, false, false, false, false, false, false, false, false, false, false, false] rfl rfl (by kernel_rfl) (fun _ _ _ h => h) (Or.inl ⟨by rfl, ?_⟩) ?_ ?_
          rotate_left
          · intro w'
            go_simp
            with_reducible rfl
          rotate_left
          · simp only [Act.put, List.setIfInBounds_toArray, List.set_cons_zero, List.set_cons_succ, i64_w, i32_w]
            rfl
          refine pure_ (i := 8) (N := some 54) (v := ?_) (a' := ?_) #[true, true, true, true, false, true, true, true, true, false, false, false, false, false, false, false, false, false, false, false, false, false, false, false, false, false, false] rfl rfl (by kernel_rfl) (fun _ _ _ h => h) (Or.inl ⟨by rfl, ?_⟩) ?_ ?_
          rotate_left
          · intro w'
            go_simp
            with_reducible rfl
          rotate_left
          · simp only [Act.put, List.setIfInBounds_toArray, List.set_cons_zero, List.set_cons_succ, i64_w, i32_w]
            rfl
          refine pure_ (i := 10) (N := some 56) (v := ?_) (a' := ?_) #[true, true, true, true, false, true, true, true, true, false, true, false, false, false, false, false, false, false, false, false, false, false, false, false, false, false, false] rfl rfl (by kernel_rfl) (fun _ _ _ h => h) (Or.inl ⟨by rfl, ?_⟩) ?_ ?_
          rotate_left
          · intro w'
            go_simp
            with_reducible rfl
          rotate_left
          · simp only [Act.put, List.setIfInBounds_toArray, List.set_cons_zero, List.set_cons_succ, i64_w, i32_w]
            rfl
          refine take_ (i := 4) (N := some 50) (v := ?_) (a' := ?_) #[true, true, true, true, true, true, true, true, true, false, true, false, false, false, false, false, false, false, false, false, false, false, false, false, false, false, false] rfl rfl (by kernel_rfl) (fun _ _ _ h => h) (Or.inl ⟨by rfl, ?_⟩) hHeld ?_ ?_
          rotate_left
          · rintro w' ⟨s0, s1⟩
            go_simp
            with_reducible rfl
          rotate_left
          · simp only [Act.put, List.setIfInBounds_toArray, List.set_cons_zero, List.set_cons_succ, i64_w, i32_w]
            rfl
          refine take_ (i := 9) (N := some 55) (v := ?_) (a' := ?_) #[true, true, true, true, true, true, true, true, true, true, true, false, false, false, false, false, false, false, false, false, false, false, false, false, false, false, false] rfl rfl (by kernel_rfl) (fun _ _ _ h => h) (Or.inl ⟨by rfl, ?_⟩) hHeld ?_ ?_
          rotate_left
          · rintro w' ⟨s0, s1⟩
            go_simp
            with_reducible rfl
          rotate_left
          · simp only [Act.put, List.setIfInBounds_toArray, List.set_cons_zero, List.set_cons_succ, i64_w, i32_w]
            rfl
          refine one_ (i := 11) (N := some 57) #[true, true, true, true, true, true, true, true, true, true, true, true, false, false, false, false, false, false, false, false, false, false, false, false, false, false, false] rfl rfl (by kernel_rfl) (by decide) (fun K hK => ?_)
          refine goes_ Try.func23 (by kernel_rfl) rfl #[.int .i64 (rd_T44 l0 x).f0, .slice A1 (rd_T44 l0 x).f1.length c1, .int .i64 d] (by rfl) rfl rfl (by simp only [List.map_toArray, List.map_cons, List.map_nil]; rfl) ?_
          with_reducible refine (HKp.out _ (Below.drew (Below.refl _ _))).mono ?_
          rintro e w6 ⟨rfl, q2, q3, q4⟩
          refine ⟨_, rfl, ?_⟩
          refine hK.out _ _ ⟨q2, q3⟩ (fun hHeld => ?_)
          clear hK K
          refine norm_ (a' := ?_) ?_ ?_
          rotate_left
          · show Act.put _ (some 57) _ = _
            simp only [Act.put, List.setIfInBounds_toArray, List.set_cons_zero, List.set_cons_succ, i64_w, i32_w]
            rfl
          refine pure_ (i := 12) (N := some 58) (v := ?_) (a' := ?_) #[true, true, true, true, true, true, true, true, true, true, true, true, true, false, false, false, false, false, false, false, false, false, false, false, false, false, false] rfl rfl (by kernel_rfl) (fun _ _ _ h => h) (Or.inl ⟨by rfl, ?_⟩) ?_ ?_
          rotate_left
          · intro w'
            go_simp
            with_reducible rfl
          rotate_left
          · simp only [Act.put, List.setIfInBounds_toArray, List.set_cons_zero, List.set_cons_succ, i64_w, i32_w]
            rfl
          refine pure_ (i := 13) (N := some 59) (v := ?_) (a' := ?_) #[true, true, true, true, true, true, true, true, true, true, true, true, true, true, false, false, false, false, false, false, false, false, false, false, false, false, false] rfl rfl (by kernel_rfl) (fun _ _ _ h => h) (Or.inl ⟨by rfl, ?_⟩) ?_ ?_
          rotate_left
          · intro w'
            go_simp
            with_reducible rfl
          rotate_left
          · simp only [Act.put, List.setIfInBounds_toArray, List.set_cons_zero, List.set_cons_succ, i64_w, i32_w]
            rfl
          refine pure_ (i := 14) (N := some 60) (v := ?_) (a' := ?_) #[true, true, true, true, true, true, true, true, true, true, true, true, true, true, true, false, false, false, false, false, false, false, false, false, false, false, false] rfl rfl (by kernel_rfl) (fun _ _ _ h => h) (Or.inl ⟨by rfl, ?_⟩) ?_ ?_
          rotate_left
          · intro w'
            go_simp
            with_reducible rfl
          rotate_left
          · simp only [Act.put, List.setIfInBounds_toArray, List.set_cons_zero, List.set_cons_succ, i64_w, i32_w]
            rfl
          refine pure_ (i := 15) (N := some 61) (v := ?_) (a' := ?_) #[true, true, true, true, true, true, true, true, true, true, true, true, true, true, true, true, false, false, false, false, false, false, false, false, false, false, false] rfl rfl (by kernel_rfl) (fun _ _ _ h => h) (Or.inl ⟨by rfl, ?_⟩) ?_ ?_
          rotate_left
          · intro w'
            go_simp
            with_reducible rfl
          rotate_left
          · simp only [Act.put, List.setIfInBounds_toArray, List.set_cons_zero, List.set_cons_succ, i64_w, i32_w]
            rfl
          refine pure_ (i := 16) (N := some 62) (v := ?_) (a' := ?_) #[true, true, true, true, true, true, true, true, true, true, true, true, true, true, true, true, true, false, false, false, false, false, false, false, false, false, false] rfl rfl (by kernel_rfl) (fun _ _ _ h => h) (Or.inl ⟨by rfl, ?_⟩) ?_ ?_
          rotate_left
          · intro w'
            go_simp
            with_reducible rfl
          rotate_left
          · simp only [Act.put, List.setIfInBounds_toArray, List.set_cons_zero, List.set_cons_succ, i64_w, i32_w]
            rfl
          refine pure_ (i := 17) (N := some 63) (v := ?_) (a' := ?_) #[true, true, true, true, true, true, true, true, true, true, true, true, true, true, true, true, true, true, false, false, false, false, false, false, false, false, false] rfl rfl (by kernel_rfl) (fun _ _ _ h => h) (Or.inl ⟨by rfl, ?_⟩) ?_ ?_
          rotate_left
          · intro w'
            go_simp
            with_reducible rfl
          rotate_left
          · simp only [Act.put, List.setIfInBounds_toArray, List.set_cons_zero, List.set_cons_succ, i64_w, i32_w]
            rfl
          refine pure_ (i := 19) (N := some 65) (v := ?_) (a' := ?_) #[true, true, true, true, true, true, true, true, true, true, true, true, true, true, true, true, true, true, false, true, false, false, false, false, false, false, false] rfl rfl (by kernel_rfl) (fun _ _ _ h => h) (Or.inl ⟨by rfl, ?_⟩) ?_ ?_
          rotate_left
          · intro w'
            go_simp
            with_reducible rfl
          rotate_left
          · simp only [Act.put, List.setIfInBounds_toArray, List.set_cons_zero, List.set_cons_succ, i64_w, i32_w]
            rfl
          refine pure_ (i := 20) (N := some 66) (v := ?_) (a' := ?_) #[true, true, true, true, true, true, true, true, true, true, true, true, true, true, true, true, true, true, false, true, true, false, false, false, false, false, false] rfl rfl (by kernel_rfl) (fun _ _ _ h => h) (Or.inl ⟨by rfl, ?_⟩) ?_ ?_
          rotate_left
          · intro w'
            go_simp
            with_reducible rfl
          rotate_left
          · simp only [Act.put, List.setIfInBounds_toArray, List.set_cons_zero, List.set_cons_succ, i64_w, i32_w]
            rfl
          refine pure_ (i := 21) (N := some 67) (v := ?_) (a' := ?_) #[true, true, true, true, true, true, true, true, true, true, true, true, true, true, true, true, true, true, false, true, true, true, false, false, false, false, false] rfl rfl (by kernel_rfl) (fun _ _ _ h => h) (Or.inl ⟨by rfl, ?_⟩) ?_ ?_
          rotate_left
          · intro w'
            go_simp
            with_reducible rfl
          rotate_left
          · simp only [Act.put, List.setIfInBounds_toArray, List.set_cons_zero, List.set_cons_succ, i64_w, i32_w]
            rfl
          refine pure_ (i := 22) (N := some 68) (v := ?_) (a' := ?_) #[true, true, true, true, true, true, true, true, true, true, true, true, true, true, true, true, true, true, false, true, true, true, true, false, false, false, false] rfl rfl (by kernel_rfl) (fun _ _ _ h => h) (Or.inl ⟨by rfl, ?_⟩) ?_ ?_
          rotate_left
          · intro w'
            go_simp
            with_reducible rfl
          rotate_left
          · simp only [Act.put, List.setIfInBounds_toArray, List.set_cons_zero, List.set_cons_succ, i64_w, i32_w]
            rfl
          refine take_ (i := 18) (N := some 64) (v := ?_) (a' := ?_) #[true, true, true, true, true, true, true, true, true, true, true, true, true, true, true, true, true, true, true, true, true, true, true, false, false, false, false] rfl rfl (by kernel_rfl) (fun _ _ _ h => h) (Or.inl ⟨by rfl, ?_⟩) hHeld ?_ ?_
          rotate_left
          · rintro w' ⟨s0, s1⟩
            go_simp
            with_reducible rfl
          rotate_left
          · simp only [Act.put, List.setIfInBounds_toArray, List.set_cons_zero, List.set_cons_succ, i64_w, i32_w]
            rfl
          refine take_ (i := 23) (N := some 69) (v := ?_) (a' := ?_) #[true, true, true, true, true, true, true, true, true, true, true, true, true, true, true, true, true, true, true, true, true, true, true, true, false, false, false] rfl rfl (by kernel_rfl) (fun _ _ _ h => h) (Or.inl ⟨by rfl, ?_⟩) hHeld ?_ ?_
          rotate_left
          · rintro w' ⟨s0, s1⟩
            go_simp
            with_reducible rfl
          rotate_left
          · simp only [Act.put, List.setIfInBounds_toArray, List.set_cons_zero, List.set_cons_succ, i64_w, i32_w]
            rfl
          refine last_ (i := 24) (N := some 70) #[true, true, true, true, true, true, true, true, true, true, true, true, true, true, true, true, true, true, true, true, true, true, true, true, true, false, false] rfl rfl (by kernel_rfl) (by decide) (fun K hK => ?_)
          refine goes_ Try.func24 (by kernel_rfl) rfl #[.pointer (some ⟨g, 0, none⟩), .int .i64 (rd_T44 l0 x).f0, .slice A1 (rd_T44 l0 x).f1.length c1] (by rfl) rfl rfl (by simp only [List.map_toArray, List.map_cons, List.map_nil]; rfl) ?_
          with_reducible refine (HTk.out _ q4.out).mono ?_
          rintro e w7 ⟨v, rfl, h7⟩
          refine ⟨_, rfl, ?_⟩
          refine hK.out _ _ ?_
          clear hK K
          refine norm_ (a' := ?_) ?_ ?_
          rotate_left
          · show Act.put _ (some 70) _ = _
            simp only [Act.put, List.setIfInBounds_toArray, List.set_cons_zero, List.set_cons_succ, i64_w, i32_w]
            rfl
          refine pure_ (i := 25) (N := some 71) (v := ?_) (a' := ?_) #[true, true, true, true, true, true, true, true, true, true, true, true, true, true, true, true, true, true, true, true, true, true, true, true, true, true, false] rfl rfl (by kernel_rfl) (fun _ _ _ h => h) (Or.inl ⟨by rfl, ?_⟩) ?_ ?_
          rotate_left
          · intro w'
            go_simp
            with_reducible rfl
          rotate_left
          · simp only [Act.put, List.setIfInBounds_toArray, List.set_cons_zero, List.set_cons_succ, i64_w, i32_w]
            rfl
          refine pure_ (i := 26) (N := some 72) (v := ?_) (a' := ?_) #[true, true, true, true, true, true, true, true, true, true, true, true, true, true, true, true, true, true, true, true, true, true, true, true, true, true, true] rfl rfl (by kernel_rfl) (fun _ _ _ h => h) (Or.inl ⟨by rfl, ?_⟩) ?_ ?_
          rotate_left
          · intro w'
            go_simp
            with_reducible rfl
          rotate_left
          · simp only [Act.put, List.setIfInBounds_toArray, List.set_cons_zero, List.set_cons_succ, i64_w, i32_w]
            rfl
          refine done_ (by kernel_rfl) ?_
          go_wp2
          go_meet
          case rel => exact ⟨v == 0, rfl, h7⟩
        · have hk : keepsB (rd_T44 l0 x).f0 (rd_T44 l0 x).f1 d = false := by simpa using hk
          have HKp : Aside0 (∀ w2, Below wr.heap.size wr w2 → Calls Try.prog 23 #[.int .i64 (rd_T44 l0 x).f0, .slice A1 (rd_T44 l0 x).f1.length c1, .int .i64 d] w2 fun e w3 => e = .returned (.bool false) ∧ w3.cell? (ad.add (x.toNat * 2)) = some (.int .i64 (rd_T44 l0 x).f0) ∧ w3.cell? ⟨(ad.add (x.toNat * 2)).block, (ad.add (x.toNat * 2)).off + 1, none⟩ = some (.slice A1 (rd_T44 l0 x).f1.length c1) ∧ Aside0 (Below wr.heap.size wr w3)) := ⟨fun w2 hb2 => by
            refine (keeps.at _ _ _ _ (rd_T44 l0 x).f1 _ (Kd.C_below HI.out (below_step HT.out.world hb2)) HLn.out).mono ?_
            rw [hk]
            rintro e w3 ⟨rfl, hb3⟩
            have := below_step HT.out.world (below_step hb2 hb3)
            exact ⟨rfl, pw_cell_below this HX01.out.1, pw_cell_below this HX01.out.2, ⟨below_step hb2 hb3⟩⟩⟩
          clear hk
          refine start_ (n := 27) (S := fun w' => w'.cell? (ad.add (x.toNat * 2)) = some (.int .i64 (rd_T44 l0 x).f0) ∧ w'.cell? ⟨(ad.add (x.toNat * 2)).block, (ad.add (x.toNat * 2)).off + 1, none⟩ = some (.slice A1 (rd_T44 l0 x).f1.length c1)) (ds := []) #[false, false, false, false, false, false, false, false, false, false, false, false, false, false, false, false, false, false, false, false, false, false, false, false, false, false, false] (by kernel_rfl) rfl rfl ⟨q0, q1⟩ (fun hHeld => ?_)
          refine pure_ (i := 0) (N := some 46) (v := ?_) (a' := ?_) #[true, false, false, false, false, false, false, false, false, false, false, false, false, false, false, false, false, false, false, false, false, false, false, false, false, false, false] rfl rfl (by kernel_rfl) (fun _ _ _ h => h) (Or.inl ⟨by rfl, ?_⟩) ?_ ?_
          rotate_left
          · intro w'
            go_simp
            with_reducible rfl
          rotate_left
          · simp only [Act.put, List.setIfInBounds_toArray, List.set_cons_zero, List.set_cons_succ, i64_w, i32_w]
            rfl
          refine pure_ (i := 1) (N := some 47) (v := ?_) (a' := ?_) #[true, true, false, false, false, false, false, false, false, false, false, false, false, false, false, false, false, false, false, false, false, false, false, false, false, false, false] rfl rfl (by kernel_rfl) (fun _ _ _ h => h) (Or.inl ⟨by rfl, ?_⟩) ?_ ?_
          rotate_left
          · intro w'
            go_simp
            with_reducible rfl
          rotate_left
          · simp only [Act.put, List.setIfInBounds_toArray, List.set_cons_zero, List.set_cons_succ, i64_w, i32_w]
            rfl
          refine pure_ (i := 2) (N := some 48) (v := ?_) (a' := ?_) #[true, true, true, false, false, false, false, false, false, false, false, false, false, false, false, false, false, false, false, false, false, false, false, false, false, false, false] rfl rfl (by kernel_rfl) (fun _ _ _ h => h) (Or.inl ⟨by rfl, ?_⟩) ?_ ?_
          rotate_left
          · intro w'
            go_simp
            with_reducible rfl
          rotate_left
          · simp only [Act.put, List.setIfInBounds_toArray, List.set_cons_zero, List.set_cons_succ, i64_w, i32_w]
            rfl
          refine pure_ (i := 3) (N := some 49) (v := ?_) (a' := ?_) #[true, true, true, true, false, false, false, false, false, false, false, false, false, false, false, false, false, false, false, false, false, false, false, false, false, false, false] rfl rfl (by kernel_rfl) (fun _ _ _ h => h) (Or.inl ⟨by rfl, ?_⟩) ?_ ?_
          rotate_left
          · intro w'
            go_simp
            with_reducible rfl
          rotate_left
          · simp only [Act.put, List.setIfInBounds_toArray, List.set_cons_zero, List.set_cons_succ, i64_w, i32_w]
            rfl
          refine pure_ (i := 5) (N := some 51) (v := ?_) (a' := ?_) #[true, true, true, true, false, true, false, false, false, false, false, false, false, false, false, false, false, false, false, false, false, false, false, false, false, false, false] rfl rfl (by kernel_rfl) (fun _ _ _ h => h) (Or.inl ⟨by rfl, ?_⟩) ?_ ?_
          rotate_left
          · intro w'
            go_simp
            with_reducible rfl
          rotate_left
          · simp only [Act.put, List.setIfInBounds_toArray, List.set_cons_zero, List.set_cons_succ, i64_w, i32_w]
            rfl
          refine pure_ (i := 6) (N := some 52) (v := ?_) (a' := ?_) #[true, true, true, true, false, true, true, false, false, false, false, false, false, false, false, false, false, false, false, false, false, false, false, false, false, false, false] rfl rfl (by kernel_rfl) (fun _ _ _ h => h) (Or.inl ⟨by rfl, ?_⟩) ?_ ?_
          rotate_left
          · intro w'
            go_simp
            with_reducible rfl
          rotate_left
          · simp only [Act.put, List.setIfInBounds_toArray, List.set_cons_zero, List.set_cons_succ, i64_w, i32_w]
            rfl
          refine pure_ (i := 7) (N := some 53) (v := ?_) (a' := ?_) #[true, true, true, true, false, true, true, true, false, false, false, false, false, false, false, false, false, false, false, false, false, false, false, false, false, false, false] rfl rfl (by kernel_rfl) (fun _ _ _ h => h) (Or.inl ⟨by rfl, ?_⟩) ?_ ?_
          rotate_left
          · intro w'
            go_simp
            with_reducible rfl
          rotate_left
          · simp only [Act.put, List.setIfInBounds_toArray, List.set_cons_zero, List.set_cons_succ, i64_w, i32_w]
            rfl
          refine pure_ (i := 8) (N := some 54) (v := ?_) (a' := ?_) #[true, true, true, true, false, true, true, true, true, false, false, false, false, false, false, false, false, false, false, false, false, false, false, false, false, false, false] rfl rfl (by kernel_rfl) (fun _ _ _ h => h) (Or.inl ⟨by rfl, ?_⟩) ?_ ?_
          rotate_left
          · intro w'
            go_simp
            with_reducible rfl
          rotate_left
          · simp only [Act.put, List.setIfInBounds_toArray, List.set_cons_zero, List.set_cons_succ, i64_w, i32_w]
            rfl
          refine pure_ (i := 10) (N := some 56) (v := ?_) (a' := ?_) #[true, true, true, true, false, true, true, true, true, false, true, false, false, false, false, false, false, false, false, false, false, false, false, false, false, false, false] rfl rfl (by kernel_rfl) (fun _ _ _ h => h) (Or.inl ⟨by rfl, ?_⟩) ?_ ?_
          rotate_left
          · intro w'
            go_simp
            with_reducible rfl
          rotate_left
          · simp only [Act.put, List.setIfInBounds_toArray, List.set_cons_zero, List.set_cons_succ, i64_w, i32_w]
            rfl
          refine take_ (i := 4) (N := some 50) (v := ?_) (a' := ?_) #[true, true, true, true, true, true, true, true, true, false, true, false, false, false, false, false, false, false, false, false, false, false, false, false, false, false, false] rfl rfl (by kernel_rfl) (fun _ _ _ h => h) (Or.inl ⟨by rfl, ?_⟩) hHeld ?_ ?_
          rotate_left
          · rintro w' ⟨s0, s1⟩
            go_simp
            with_reducible rfl
          rotate_left
          · simp only [Act.put, List.setIfInBounds_toArray, List.set_cons_zero, List.set_cons_succ, i64_w, i32_w]
            rfl
          refine take_ (i := 9) (N := some 55) (v := ?_) (a' := ?_) #[true, true, true, true, true, true, true, true, true, true, true, false, false, false, false, false, false, false, false, false, false, false, false, false, false, false, false] rfl rfl (by kernel_rfl) (fun _ _ _ h => h) (Or.inl ⟨by rfl, ?_⟩) hHeld ?_ ?_
          rotate_left
          · rintro w' ⟨s0, s1⟩
            go_simp
            with_reducible rfl
          rotate_left
          · simp only [Act.put, List.setIfInBounds_toArray, List.set_cons_zero, List.set_cons_succ, i64_w, i32_w]
            rfl
          refine one_ (i := 11) (N := some 57) #[true, true, true, true, true, true, true, true, true, true, true, true, false, false, false, false, false, false, false, false, false, false, false, false, false, false, false] rfl rfl (by kernel_rfl) (by decide) (fun K hK => ?_)
          refine goes_ Try.func23 (by kernel_rfl) rfl #[.int .i64 (rd_T44 l0 x).f0, .slice A1 (rd_T44 l0 x).f1.length c1, .int .i64 d] (by rfl) rfl rfl (by simp only [List.map_toArray, List.map_cons, List.map_nil]; rfl) ?_
          with_reducible refine (HKp.out _ (Below.drew (Below.refl _ _))).mono ?_
          rintro e w6 ⟨rfl, q2, q3, q4⟩
          refine ⟨_, rfl, ?_⟩
          refine hK.out _ _ ⟨q2, q3⟩ (fun hHeld => ?_)
          clear hK K
          refine norm_ (a' := ?_) ?_ ?_
          rotate_left
          · show Act.put _ (some 57) _ = _
            simp only [Act.put, List.setIfInBounds_toArray, List.set_cons_zero, List.set_cons_succ, i64_w, i32_w]
            rfl
          refine pure_ (i := 12) (N := some 58) (v := ?_) (a' := ?_) #[true, true, true, true, true, true, true, true, true, true, true, true, true, false, false, false, false, false, false, false, false, false, false, false, false, false, false] rfl rfl (by kernel_rfl) (fun _ _ _ h => h) (Or.inl ⟨by rfl, ?_⟩) ?_ ?_
          rotate_left
          · intro w'
            go_simp
            with_reducible rfl
          rotate_left
          · simp only [Act.put, List.setIfInBounds_toArray, List.set_cons_zero, List.set_cons_succ, i64_w, i32_w]
            rfl
          refine pure_ (i := 13) (N := some 59) (v := undef) (a' := ?_) #[true, true, true, true, true, true, true, true, true, true, true, true, true, true, false, false, false, false, false, false, false, false, false, false, false, false, false] rfl rfl (by kernel_rfl) (fun _ _ _ h => h) (Or.inr ⟨by rfl, rfl⟩) ?_ ?_
          rotate_left
          · simp only [Act.put, List.setIfInBounds_toArray, List.set_cons_zero, List.set_cons_succ, i64_w, i32_w]
            rfl
          refine pure_ (i := 14) (N := some 60) (v := undef) (a' := ?_) #[true, true, true, true, true, true, true, true, true, true, true, true, true, true, true, false, false, false, false, false, false, false, false, false, false, false, false] rfl rfl (by kernel_rfl) (fun _ _ _ h => h) (Or.inr ⟨by rfl, rfl⟩) ?_ ?_
          rotate_left
          · simp only [Act.put, List.setIfInBounds_toArray, List.set_cons_zero, List.set_cons_succ, i64_w, i32_w]
            rfl
          refine pure_ (i := 15) (N := some 61) (v := undef) (a' := ?_) #[true, true, true, true, true, true, true, true, true, true, true, true, true, true, true, true, false, false, false, false, false, false, false, false, false, false, false] rfl rfl (by kernel_rfl) (fun _ _ _ h => h) (Or.inr ⟨by rfl, rfl⟩) ?_ ?_
          rotate_left
          · simp only [Act.put, List.setIfInBounds_toArray, List.set_cons_zero, List.set_cons_succ, i64_w, i32_w]
            rfl
          refine pure_ (i := 16) (N := some 62) (v := undef) (a' := ?_) #[true, true, true, true, true, true, true, true, true, true, true, true, true, true, true, true, true, false, false, false, false, false, false, false, false, false, false] rfl rfl (by kernel_rfl) (fun _ _ _ h => h) (Or.inr ⟨by rfl, rfl⟩) ?_ ?_
          rotate_left
          · simp only [Act.put, List.setIfInBounds_toArray, List.set_cons_zero, List.set_cons_succ, i64_w, i32_w]
            rfl
          refine pure_ (i := 17) (N := some 63) (v := undef) (a' := ?_) #[true, true, true, true, true, true, true, true, true, true, true, true, true, true, true, true, true, true, false, false, false, false, false, false, false, false, false] rfl rfl (by kernel_rfl) (fun _ _ _ h => h) (Or.inr ⟨by rfl, rfl⟩) ?_ ?_
          rotate_left
          · simp only [Act.put, List.setIfInBounds_toArray, List.set_cons_zero, List.set_cons_succ, i64_w, i32_w]
            rfl
          refine pure_ (i := 18) (N := some 64) (v := undef) (a' := ?_) #[true, true, true, true, true, true, true, true, true, true, true, true, true, true, true, true, true, true, true, false, false, false, false, false, false, false, false] rfl rfl (by kernel_rfl) (fun _ _ _ h => h) (Or.inr ⟨by rfl, rfl⟩) ?_ ?_
          rotate_left
          · simp only [Act.put, List.setIfInBounds_toArray, List.set_cons_zero, List.set_cons_succ, i64_w, i32_w]
            rfl
          refine pure_ (i := 19) (N := some 65) (v := undef) (a' := ?_) #[true, true, true, true, true, true, true, true, true, true, true, true, true, true, true, true, true, true, true, true, false, false, false, false, false, false, false] rfl rfl (by kernel_rfl) (fun _ _ _ h => h) (Or.inr ⟨by rfl, rfl⟩) ?_ ?_
          rotate_left
          · simp only [Act.put, List.setIfInBounds_toArray, List.set_cons_zero, List.set_cons_succ, i64_w, i32_w]
            rfl
          refine pure_ (i := 20) (N := some 66) (v := undef) (a' := ?_) #[true, true, true, true, true, true, true, true, true, true, true, true, true, true, true, true, true, true, true, true, true, false, false, false, false, false, false] rfl rfl (by kernel_rfl) (fun _ _ _ h => h) (Or.inr ⟨by rfl, rfl⟩) ?_ ?_
          rotate_left
          · simp only [Act.put, List.setIfInBounds_toArray, List.set_cons_zero, List.set_cons_succ, i64_w, i32_w]
            rfl
          refine pure_ (i := 21) (N := some 67) (v := undef) (a' := ?_) #[true, true, true, true, true, true, true, true, true, true, true, true, true, true, true, true, true, true, true, true, true, true, false, false, false, false, false] rfl rfl (by kernel_rfl) (fun _ _ _ h => h) (Or.inr ⟨by rfl, rfl⟩) ?_ ?_
          rotate_left
          · simp only [Act.put, List.setIfInBounds_toArray, List.set_cons_zero, List.set_cons_succ, i64_w, i32_w]
            rfl
          refine pure_ (i := 22) (N := some 68) (v := undef) (a' := ?_) #[true, true, true, true, true, true, true, true, true, true, true, true, true, true, true, true, true, true, true, true, true, true, true, false, false, false, false] rfl rfl (by kernel_rfl) (fun _ _ _ h => h) (Or.inr ⟨by rfl, rfl⟩) ?_ ?_
          rotate_left
          · simp only [Act.put, List.setIfInBounds_toArray, List.set_cons_zero, List.set_cons_succ, i64_w, i32_w]
            rfl
          refine pure_ (i := 23) (N := some 69) (v := undef) (a' := ?_) #[true, true, true, true, true, true, true, true, true, true, true, true, true, true, true, true, true, true, true, true, true, true, true, true, false, false, false] rfl rfl (by kernel_rfl) (fun _ _ _ h => h) (Or.inr ⟨by rfl, rfl⟩) ?_ ?_
          rotate_left
          · simp only [Act.put, List.setIfInBounds_toArray, List.set_cons_zero, List.set_cons_succ, i64_w, i32_w]
            rfl
          refine pure_ (i := 24) (N := some 70) (v := undef) (a' := ?_) #[true, true, true, true, true, true, true, true, true, true, true, true, true, true, true, true, true, true, true, true, true, true, true, true, true, false, false] rfl rfl (by kernel_rfl) (fun _ _ _ h => h) (Or.inr ⟨by rfl, rfl⟩) ?_ ?_
          rotate_left
          · simp only [Act.put, List.setIfInBounds_toArray, List.set_cons_zero, List.set_cons_succ, i64_w, i32_w]
            rfl
          refine pure_ (i := 25) (N := some 71) (v := undef) (a' := ?_) #[true, true, true, true, true, true, true, true, true, true, true, true, true, true, true, true, true, true, true, true, true, true, true, true, true, true, false] rfl rfl (by kernel_rfl) (fun _ _ _ h => h) (Or.inr ⟨by rfl, rfl⟩) ?_ ?_
          rotate_left
          · simp only [Act.put, List.setIfInBounds_toArray, List.set_cons_zero, List.set_cons_succ, i64_w, i32_w]
            rfl
          refine pure_ (i := 26) (N := some 72) (v := ?_) (a' := ?_) #[true, true, true, true, true, true, true, true, true, true, true, true, true, true, true, true, true, true, true, true, true, true, true, true, true, true, true] rfl rfl (by kernel_rfl) (fun _ _ _ h => h) (Or.inl ⟨by rfl, ?_⟩) ?_ ?_
          rotate_left
          · intro w'
            go_simp
            with_reducible rfl
          rotate_left
          · simp only [Act.put, List.setIfInBounds_toArray, List.set_cons_zero, List.set_cons_succ, i64_w, i32_w]
            rfl
          refine done_ (by kernel_rfl) ?_
          go_wp2
          go_meet
          case rel => exact ⟨false, rfl, ⟨HT.out.below q4.out⟩⟩
      case rest =>
        clear HT HI HLn HX01 p0 p1
        obtain ⟨ap, rfl, HT⟩ := hcut
        have hx1 := HX1.out
        cases ap with
        | false =>
          go_wp2
          go_roundg m
          case measure => omega
          case rel => exact ⟨T, C, x + 1, rfl, ⟨by obtain ⟨j, e, hj, h⟩ := HJ.out; exact ⟨j + 1, by omega, by omega, by omega⟩⟩, HT⟩
        | true =>
          obtain ⟨t, now, dr, g1, g2, g3, g4, g5⟩ := HT.out
          have HA := Aside0.mk g1
          have HP := Aside0.mk (And.intro g2 (And.intro g3 (And.intro g4 g5)))
          have HLT : Aside0 (T.length ≤ 4398046511104 ∧ C.length = T.length) := ⟨by obtain ⟨j, e, hj, h⟩ := HJ.out; have := HY.out; have := g4.1; omega⟩
          clear g1 g2 g3 g4 g5 HT
          go_wp2_with fail
          refine (Time.at _ HA.out.1 (by have := HP.out.2.1; omega)).mono ?_
          rintro e w5 ⟨rfl, ⟨n1, hq5⟩⟩
          replace HA : Aside0 (ARel w w5 g b t now dr u9 T u10 C) := ⟨by subst hq5; exact HA.out.below (pw_below_drewN (Below.refl _ _) _)⟩
          clear hq5
          go_wp2_with (first
            | ((with_reducible refine gate_builtin (b := .append) (xs := #[.tmp 73, .tmp 76]) rfl ?_); at_builtin; refine Kd.R_append (Kd.int .i64) (w0 := w) w.heap.size rfl (.tmp 73) (.tmp 76) 22 3 (.int .i64 0) 8 rfl Try.underlying22 info3 rfl (by decide) (by omega) u9 T t [.int .i64 t] (fun k => k ≠ g ∧ k ≠ b) (fun _ => False) rfl rfl ?aP (fun _ hk => hk.elim) ?aF ?aO ?aB ?aS ?aL ?_; (case aP => exact rfl); (case aB => exact HA.out.2.2.2.2); (case aF => exact (fun k hk => by have := HA.out.1.lt; omega)); (case aO => exact HA.out.2.1); (case aS => exact HA.out.2.2.2.2.size); (case aL => have := HLT.out; omega); intro v1 w6 ho hb hg hat; have HA2 := Aside0.mk (HA.out.grown ho hb hg hat); clear ho hb hg hat HA))
          refine (Now.at 1 _ HA2.out.1 (by have := HP.out.2.1; omega) (by have := HP.out.2.1; omega)).mono ?_
          rintro e w7 ⟨rfl, ⟨n2, hq7⟩⟩
          rw [show nowAt now 1 = rd now 1 from if_pos (by have := HP.out.2.1; omega)]
          replace HA2 : Aside0 (ARel w w7 g b t now dr u10 C v1 (T ++ [t])) := ⟨by subst hq7; exact (HA2.out.below (pw_below_drewN (Below.refl _ _) _)).swap⟩
          clear hq7
          go_wp2_with (first
            | ((with_reducible refine gate_builtin (b := .append) (xs := #[.tmp 78, .tmp 81]) rfl ?_); at_builtin; refine Kd.R_append (Kd.int .i64) (w0 := w) w.heap.size rfl (.tmp 78) (.tmp 81) 22 3 (.int .i64 0) 8 rfl Try.underlying22 info3 rfl (by decide) (by omega) u10 C (rd now 1) [.int .i64 (rd now 1)] (fun k => k ≠ g ∧ k ≠ b) (fun _ => False) rfl rfl ?aP (fun _ hk => hk.elim) ?aF ?aO ?aB ?aS ?aL ?_; (case aP => exact rfl); (case aB => exact HA2.out.2.2.2.2); (case aF => exact (fun k hk => by have := HA2.out.1.lt; omega)); (case aO => exact HA2.out.2.1); (case aS => exact HA2.out.2.2.2.2.size); (case aL => have := HLT.out; omega); intro v2 w8 ho hb hg hat; have HA3 := Aside0.mk (HA2.out.grown ho hb hg hat).swap; clear ho hb hg hat HA2))
          go_roundg m
          case measure => omega
          case rel => exact ⟨T ++ [t], C ++ [rd now 1], x + 1, rfl, ⟨by obtain ⟨j, e, hj, h⟩ := HJ.out; exact ⟨j + 1, by omega, by omega, by rw [List.length_append, List.length_singleton]; omega⟩⟩, ⟨t, now, dr, HA3.out, HP.out.1, HP.out.2.1, HP.out.2.2.1.app HP.out.1.1 (HP.out.1.2.1 1 (by have := HP.out.2.1; omega)), HP.out.2.2.2⟩⟩
theorem ClockBounds.walked (w : World) (A0 : Option Addr) (c0 : Nat) (l0 : List S44) (hr0 : Kd.C k44 w A0 l0.length l0) (hc0 : l0.length ≤ c0) (y0 : l0.length * Try.prog.bytesOf 44 ≤ reachBytes) (hq : ∀ y ∈ l0, t44wf y) (d : Int) (_ : (Lit.int .i64 d).wf = true) (from_ : Int) (_ : (Lit.int .i64 from_).wf = true) :
    Calls Try.prog 4 #[.slice A0 l0.length c0, .int .i64 d, .int .i64 from_] w fun e w' => e = .returned (.bool true) ∧ Below w.heap.size w w' := by
  by_cases hd : drB d = true
  · refine ClockBounds.in_ w A0 c0 l0 hr0 ?_ hq d from_ hd
    have e : Try.prog.bytesOf 44 = 32 := by kernel_rfl
    rw [e] at y0
    exact Nat.le_trans y0 (by decide)
  · exact ClockBounds.out w A0 c0 l0 d from_ (by simpa using hd)

end Go.Proofs.Ytfmcpceilkkhfaa.P
