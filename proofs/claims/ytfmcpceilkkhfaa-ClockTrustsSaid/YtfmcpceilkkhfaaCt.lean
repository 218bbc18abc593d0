/- The statement ClockTrusts: the law behind it, and the walk. -/
import Derived.Test.YtfmcpceilkkhfaaLv
import Derived.Test.YtfmcpceilkkhfaaOp
namespace Go.Proofs.Ytfmcpceilkkhfaa.P
open Go.RowKit Go.Proofs.YtfmcpceilkkhfaaW.PrintWords Go.Proofs.YtfmcpceilkkhfaaW.PrintLast Go.Proofs.YtfmcpceilkkhfaaW.PrintMore
attribute [local go_sem] max2_int min2_int max_two min_two max_three min_three max_four min_four
set_option linter.unusedVariables false
set_option linter.unusedSimpArgs false
/-- What holds between an ask and a promise, and now. -/
def TInv (t n0 n1 d : Int) (asks gives : Bool) (mine yours : Int) : Prop :=
  ∃ ta tg : Int, ta ≤ tg ∧ tg ≤ t ∧ (asks = true → (1000 - d) * (t - ta) ≤ 1000 * (n0 - mine) ∧ mine ≤ n0) ∧ (asks = false → mine = 0 ∧ gives = false) ∧
    (gives = true → 1000 * (n1 - yours) ≤ (1000 + d) * (t - tg) ∧ yours ≤ n1) ∧ (0 ≤ mine ∧ mine ≤ MaxC) ∧ (0 ≤ yours ∧ yours ≤ MaxC)
theorem TInv.init (d : Int) : TInv 0 0 0 d false false 0 0 := ⟨0, 0, by omega, by omega, fun h => absurd h (by simp), fun _ => ⟨rfl, rfl⟩, fun h => absurd h (by simp), by unfold MaxC; omega, by unfold MaxC; omega⟩
theorem TInv.ask {t n0 n1 d mine yours : Int} {gives : Bool} (h : TInv t n0 n1 d false gives mine yours) (h0 : 0 ≤ n0 ∧ n0 ≤ MaxC) : TInv t n0 n1 d true gives n0 yours := by
  obtain ⟨ta, tg, h1, h2, h3, h4, h5, h6, h7⟩ := h
  obtain ⟨_, rfl⟩ := h4 rfl
  exact ⟨t, t, by omega, by omega, fun _ => ⟨by rw [Int.sub_self, Int.sub_self, Int.mul_zero, Int.mul_zero]; omega, by omega⟩, fun h => absurd h (by simp), fun h => absurd h (by simp), h0, h7⟩
theorem TInv.give {t n0 n1 d mine yours : Int} {gives : Bool} (h : TInv t n0 n1 d true gives mine yours) (h0 : 0 ≤ n1 ∧ n1 ≤ MaxC) : TInv t n0 n1 d true true mine n1 := by
  obtain ⟨ta, tg, h1, h2, h3, h4, h5, h6, h7⟩ := h
  exact ⟨ta, t, by omega, by omega, h3, fun h => absurd h (by simp), fun _ => ⟨by rw [Int.sub_self, Int.sub_self, Int.mul_zero, Int.mul_zero]; omega, by omega⟩, h6, h0⟩
theorem TInv.tick {t n0 n1 d mine yours time a0 a1 : Int} {asks gives : Bool} (h : TInv t n0 n1 d asks gives mine yours) (ht : 0 ≤ time) (k0 : fitB time d a0 = true) (k1 : fitB time d a1 = true) : TInv (t + time) (n0 + a0) (n1 + a1) d asks gives mine yours := by
  obtain ⟨ta, tg, h1, h2, h3, h4, h5, h6, h7⟩ := h
  simp only [fitB, Bool.and_eq_true, decide_eq_true_eq, tkB_iff] at k0 k1
  refine ⟨ta, tg, h1, by omega, fun h => ?_, h4, fun h => ?_, h6, h7⟩
  · have q := h3 h
    have e : (1000 - d) * (t + time - ta) = (1000 - d) * (t - ta) + (1000 - d) * time := by rw [← Int.mul_add]; congr 1; omega
    rw [e]
    omega
  · have q := h5 h
    have e : (1000 + d) * (t + time - tg) = (1000 + d) * (t - tg) + (1000 + d) * time := by rw [← Int.mul_add]; congr 1; omega
    rw [e]
    omega
theorem TInv.final {t n0 n1 d mine yours lease : Int} {asks : Bool} (h : TInv t n0 n1 d asks true mine yours) (h1 : n0 - mine < trustI lease d) : ¬ lease ≤ n1 - yours := by
  intro h2
  obtain ⟨ta, tg, g1, g2, g3, g4, g5, g6, g7⟩ := h
  have ha : asks = true := by
    cases asks with
    | true => rfl
    | false => exact absurd (g4 rfl).2 (by simp)
  obtain ⟨p1, p2⟩ := g3 ha
  obtain ⟨q1, q2⟩ := g5 rfl
  unfold trustI at h1
  by_cases hh : (1 ≤ lease ∧ lease ≤ 1048576) ∧ (0 ≤ d ∧ d ≤ 999)
  · rw [if_pos hh] at h1
    have s1 : (1000 + d) * (t - tg) ≤ (1000 + d) * (t - ta) := Int.mul_le_mul_of_nonneg_left (by omega) (by omega)
    have s2 : 1000 * lease ≤ (1000 + d) * (t - ta) := by omega
    have s3 : 1000 * lease * (1000 - d) ≤ (1000 + d) * (t - ta) * (1000 - d) := Int.mul_le_mul_of_nonneg_right s2 (by omega)
    have s4 : (1000 - d) * (t - ta) * (1000 + d) ≤ 1000 * (n0 - mine) * (1000 + d) := Int.mul_le_mul_of_nonneg_right p1 (by omega)
    have e1 : (1000 + d) * (t - ta) * (1000 - d) = (1000 - d) * (t - ta) * (1000 + d) := by rw [Int.mul_comm (1000 + d), Int.mul_right_comm, Int.mul_comm (t - ta)]
    have e2 : 1000 * lease * (1000 - d) = 1000 * (lease * (1000 - d)) := by rw [Int.mul_assoc]
    have e3 : 1000 * (n0 - mine) * (1000 + d) = 1000 * ((n0 - mine) * (1000 + d)) := by rw [Int.mul_assoc]
    have s5 : lease * (1000 - d) ≤ (n0 - mine) * (1000 + d) := by omega
    have s6 := Int.ediv_le_of_le_mul (show 0 < 1000 + d by omega) s5
    omega
  · rw [if_neg hh] at h1
    omega
def TRel (w wc : World) (g b : Nat) (d : Int) (asks gives : Bool) (mine yours : Int) : Prop :=
  ∃ t now dr, Clk wc w.heap.size g b t now dr ∧ ClkOk t now dr ∧ now.length = 2 ∧ TInv t (rd now 0) (rd now 1) d asks gives mine yours ∧ Below w.heap.size w wc
theorem TRel.below {w wc wd : World} {g b : Nat} {d mine yours : Int} {asks gives : Bool} (h : TRel w wc g b d asks gives mine yours) (hb : Below wc.heap.size wc wd) : TRel w wd g b d asks gives mine yours := by
  obtain ⟨t, now, dr, h1, h2, h3, h4, h5⟩ := h
  exact ⟨t, now, dr, h1.below hb, h2, h3, h4, below_step h5 hb⟩
theorem TRel.world {w wc : World} {g b : Nat} {d mine yours : Int} {asks gives : Bool} (h : TRel w wc g b d asks gives mine yours) : Below w.heap.size w wc := by
  obtain ⟨t, now, dr, h1, h2, h3, h4, h5⟩ := h
  exact h5
/-- Now of node k of two. -/
theorem TRel.now {w wc : World} {g b : Nat} {d mine yours : Int} {asks gives : Bool} (h : TRel w wc g b d asks gives mine yours) (k : Int) (hk : k = 0 ∨ k = 1) :
    Calls Try.prog 26 #[.pointer (some ⟨g, 0, none⟩), .int .i64 k] wc fun e w2 => ∃ n, e = .returned (.int .i64 n) ∧ Aside0 (0 ≤ n ∧ n ≤ MaxC) ∧ Aside0 (∃ t now dr, Clk w2 w.heap.size g b t now dr ∧ ClkOk t now dr ∧ now.length = 2 ∧ TInv t (rd now 0) (rd now 1) d asks gives mine yours ∧ Below w.heap.size w w2 ∧ n = rd now k) ∧ Below wc.heap.size wc w2 := by
  obtain ⟨t, now, dr, h1, h2, h3, h4, h5⟩ := h
  refine (Now.at k wc h1 (by omega) (by omega)).mono ?_
  rintro e w2 ⟨rfl, ⟨nd, rfl⟩⟩
  have e1 : nowAt now k = rd now k := if_pos (by omega)
  rw [e1]
  have e2 : 0 ≤ rd now k ∧ rd now k ≤ MaxC := by
    rcases hk with rfl | rfl
    · exact h2.2.1 0 (by omega)
    · exact h2.2.1 1 (by omega)
  exact ⟨_, rfl, ⟨e2⟩, ⟨t, now, dr, h1.below (pw_below_drewN (Below.refl _ _) _), h2, h3, h4, pw_below_drewN h5 _, rfl⟩, pw_below_drewN (Below.refl _ _) _⟩
/-- A tick that keeps the drift, or none. -/
theorem TRel.tick {w wc : World} {g b : Nat} {d mine yours : Int} {asks gives : Bool} (h : TRel w wc g b d asks gives mine yours) (time : Int) (A0 : Option Addr) (c0 : Nat) (on : List Int) (hon : Kd.C (Kd.int .i64) w A0 on.length on) (hl : on.length < 17592186044416) (hk : keepsB time on d = true) :
    ∀ w2, Below wc.heap.size wc w2 → Calls Try.prog 24 #[.pointer (some ⟨g, 0, none⟩), .int .i64 time, .slice A0 on.length c0] w2 fun e w3 => ∃ v, e = .returned v ∧ Aside0 (TRel w w3 g b d asks gives mine yours) := by
  intro w2 hb2
  obtain ⟨t, now, dr, h1, h2, h3, h4, h5⟩ := h
  have h6 := h1.below hb2
  have h7 := below_step h5 hb2
  refine (Tick.at time A0 c0 on w2 h6 h2 (hon_came hon h7 h6.ge.1 h6.ge.2) hl).mono ?_
  rintro e w3 (⟨ha, hr, rfl, r, hi, hc, hf⟩ | ⟨_, _, rfl, hb⟩ | ⟨_, rfl, hb⟩)
  · refine ⟨_, rfl, ⟨t + time, addL now on, _, hc, h2.tick ha hr hi, by rw [addL_length _ _ ha.2.1]; exact h3, ?_, hf.below (fun k hk => by have := h6.ge; rcases hk with rfl | rfl <;> omega) h7.size h7⟩⟩
    have e0 := rd_addL ha.2.1 0 (by omega)
    have e1 := rd_addL ha.2.1 1 (by omega)
    simp only [keepsB, Bool.and_eq_true] at hk
    have e00 : rd (addL now on) 0 = rd now 0 + rd on 0 := e0
    have e11 : rd (addL now on) 1 = rd now 1 + rd on 1 := e1
    rw [e00, e11]
    have hl2 := ha.2.1
    exact h4.tick (tkB_iff.mp ha.1).1 (rd_all hk.2.2 0 (by omega)) (rd_all hk.2.2 1 (by omega))
  · exact ⟨_, rfl, ⟨t, now, dr, h6.below hb, h2, h3, h4, below_step h7 hb⟩⟩
  · exact ⟨_, rfl, ⟨t, now, dr, h6.below hb, h2, h3, h4, below_step h7 hb⟩⟩
set_option maxHeartbeats 16000000 in
set_option maxRecDepth 100000 in
theorem ClockTrusts.at_ (w : World) (A0 : Option Addr) (c0 : Nat) (l0 : List S44) (hr0 : Kd.C k44 w A0 l0.length l0) (y0 : l0.length < 17592186044416) (hq : ∀ y ∈ l0, t44wf y) (d lease asked given : Int) :
    Calls Try.prog 5 #[.slice A0 l0.length c0, .int .i64 d, .int .i64 lease, .int .i64 asked, .int .i64 given] w fun e w' => e = .returned (.bool true) ∧ Below w.heap.size w w' := by
  have HR := Aside0.mk hr0
  have HY := Aside0.mk y0
  have HQ := Aside0.mk hq
  clear hr0 y0 hq
  obtain ⟨trust, et⟩ : ∃ trust, trust = trustI lease d := ⟨_, rfl⟩
  go_enter Try.func5, Try.ntmps5
  go_wp2_with fail
  refine (lives05.at _).mono ?_
  rintro e w1 ⟨rfl, hb⟩
  have HB := Aside0.mk hb
  clear hb
  go_wp2_with fail
  refine (Trust.at lease d _).mono ?_
  rintro e w2 ⟨rfl, ⟨n1, rfl⟩⟩
  rw [← et]
  go_wp2_with fail
  refine (refTrust.at lease d _).mono ?_
  rintro e w2 ⟨rfl, ⟨n2, rfl⟩⟩
  rw [← et]
  go_wp2_with fail
  refine (New.at 2 _ (by decide) (by decide)).mono ?_
  rintro e w3 ⟨g, b, rfl, hc, hb⟩
  have HT : Aside0 (TRel w w3 g b d false false 0 0) := ⟨⟨0, [0, 0], 0, by
    obtain ⟨c, q1, q2, q3, q4, q5, q6⟩ := hc
    have hs := HB.out.size
    have hs2 : w1.heap.size ≤ g := q3
    have hs3 : w1.heap.size ≤ b := q4
    exact ⟨c, q1, Row.of_R q2 (by omega), by omega, by omega, q5, q6⟩, clkOk0 2 (by decide) (by decide), rfl, TInv.init d, below_step (pw_below_drewN HB.out _) hb⟩⟩
  clear hc hb HB
  go_wp2_with fail
  refine (Trust.at lease d _).mono ?_
  rintro e w4 ⟨rfl, ⟨n3, hq4⟩⟩
  rw [← et]
  replace HT : Aside0 (TRel w w4 g b d false false 0 0) := ⟨by subst hq4; exact HT.out.below (pw_below_drewN (Below.refl _ _) _)⟩
  have HE := Aside0.mk et
  clear hq4 et
  go_wp2
  go_loopg [14, 15, 16, 17, 18] l0.length (fun kq v14 v15 v16 v17 v18 wc => ∃ (mine yours : Int) (asks gives : Bool) (x : Int), v14 = .int .i64 mine ∧ v15 = .int .i64 yours ∧ v16 = .bool asks ∧ v17 = .bool gives ∧ v18 = .int .i64 x ∧ Aside0 (∃ j : Nat, x = (j : Int) ∧ j + kq = l0.length) ∧ Aside0 (TRel w wc g b d asks gives mine yours))
  case atStart => exact ⟨0, 0, false, false, 0, rfl, rfl, rfl, rfl, rfl, ⟨0, rfl, by omega⟩, HT⟩
  case round =>
    clear HT
    obtain ⟨mine, yours, asks, gives, x, rfl, rfl, rfl, rfl, rfl, HJ, HT⟩ := hrel
    cases gk with
    | zero =>
      have c0b : decide (x < (l0.length : Int)) = false := decide_eq_false (by obtain ⟨j, e, hj⟩ := HJ.out; omega)
      go_wp2
      go_ret
      exact ⟨rfl, HT.out.world⟩
    | succ m =>
      have c0b : decide (x < (l0.length : Int)) = true := decide_eq_true (by obtain ⟨j, e, hj⟩ := HJ.out; omega)
      by_cases kx : x < 100000
      rotate_left
      · have kxb : decide (x < 100000) = false := decide_eq_false kx
        clear kx
        go_wp2
        go_ret
        exact ⟨rfl, HT.out.world⟩
      have kxb : decide (x < 100000) = true := decide_eq_true kx
      clear kx
      have HX1 : Aside0 (IntKind.i64.wrap (x + 1) = x + 1) := ⟨by rw [i64_w]; unfold wrap64; obtain ⟨j, e, hj⟩ := HJ.out; have := HY.out; omega⟩
      have HJ2 : Aside0 (∃ j : Nat, x + 1 = (j : Int) ∧ j + m = l0.length) := ⟨by obtain ⟨j, e, hj⟩ := HJ.out; exact ⟨j + 1, by omega, by omega⟩⟩
      have HC : Aside0 (0 ≤ x ∧ x < (l0.length : Int)) := ⟨by obtain ⟨j, e, hj⟩ := HJ.out; omega⟩
      go_upto_region 12 with (fail)
      go_cut [59] from 43 to 114 (fun v59 wc => ∃ tk : Bool, v59 = .bool tk ∧ Aside0 (tk = true → asks = false) ∧ Aside0 (TRel w wc g b d asks gives mine yours))
      case first =>
        by_cases e1 : x = asked
        · have eb : (x == asked) = true := by rw [beq_iff_eq]; exact e1
          clear e1
          cases asks with
          | true =>
            go_wp2
            go_meet
            case rel => exact ⟨false, rfl, ⟨fun h => absurd h (by simp)⟩, HT⟩
          | false =>
            go_wp2
            go_meet
            case rel => exact ⟨true, rfl, ⟨by simp⟩, HT⟩
        · have eb : (x == asked) = false := by rw [beq_eq_false_iff_ne]; exact e1
          clear e1
          go_wp2
          go_meet
          case rel => exact ⟨false, rfl, ⟨fun h => absurd h (by simp)⟩, HT⟩
      case rest =>
        clear HT
        obtain ⟨tk, rfl, HK, HT⟩ := hcut
        go_upto_if 59 with (fail)
        go_cut [14, 16] from 43 to 114 (fun v14 v16 wc => ∃ (mine : Int) (asks : Bool), v14 = .int .i64 mine ∧ v16 = .bool asks ∧ Aside0 (TRel w wc g b d asks gives mine yours))
        case first =>
          cases tk with
          | false =>
            go_wp2
            go_meet
            case rel => exact ⟨mine, asks, rfl, rfl, HT⟩
          | true =>
            have ea := HK.out rfl
            subst ea
            have HN := Aside0.mk (HT.out.now 0 (.inl rfl))
            go_wp2_with fail
            refine HN.out.mono ?_
            rintro e w5 ⟨n, rfl, h1, h2, _⟩
            go_wp2
            go_meet
            case rel => exact ⟨n, true, rfl, rfl, ⟨by
              obtain ⟨t, now, dr, g1, g2, g3, g4, g5, g6⟩ := h2.out
              rw [g6] at h1 ⊢
              exact ⟨t, now, dr, g1, g2, g3, g4.ask h1.out, g5⟩⟩⟩
        case rest =>
          clear HT HK
          obtain ⟨mine, asks, rfl, rfl, HT⟩ := hcut
          go_upto_region 14 with (fail)
          go_cut [71] from 43 to 114 (fun v71 wc => ∃ tk : Bool, v71 = .bool tk ∧ Aside0 (tk = true → asks = true) ∧ Aside0 (TRel w wc g b d asks gives mine yours))
          case first =>
            by_cases e1 : x = given
            · have eb : (x == given) = true := by rw [beq_iff_eq]; exact e1
              clear e1
              cases asks with
              | true =>
                cases gives with
                | true =>
                  go_wp2
                  go_meet
                  case rel => exact ⟨false, rfl, ⟨by simp⟩, HT⟩
                | false =>
                  go_wp2
                  go_meet
                  case rel => exact ⟨true, rfl, ⟨by simp⟩, HT⟩
              | false =>
                go_wp2
                go_meet
                case rel => exact ⟨false, rfl, ⟨by simp⟩, HT⟩
            · have eb : (x == given) = false := by rw [beq_eq_false_iff_ne]; exact e1
              clear e1
              go_wp2
              go_meet
              case rel => exact ⟨false, rfl, ⟨by simp⟩, HT⟩
          case rest =>
            clear HT
            obtain ⟨tk, rfl, HK, HT⟩ := hcut
            go_upto_if 71 with (fail)
            go_cut [15, 17] from 43 to 114 (fun v15 v17 wc => ∃ (yours : Int) (gives : Bool), v15 = .int .i64 yours ∧ v17 = .bool gives ∧ Aside0 (TRel w wc g b d asks gives mine yours))
            case first =>
              cases tk with
              | false =>
                go_wp2
                go_meet
                case rel => exact ⟨yours, gives, rfl, rfl, HT⟩
              | true =>
                have ea := HK.out rfl
                subst ea
                have HN := Aside0.mk (HT.out.now 1 (.inr rfl))
                go_wp2_with fail
                refine HN.out.mono ?_
                rintro e w5 ⟨n, rfl, h1, h2, _⟩
                go_wp2
                go_meet
                case rel => exact ⟨n, true, rfl, rfl, ⟨by
                  obtain ⟨t, now, dr, g1, g2, g3, g4, g5, g6⟩ := h2.out
                  rw [g6] at h1 ⊢
                  exact ⟨t, now, dr, g1, g2, g3, g4.give h1.out, g5⟩⟩⟩
            case rest =>
              clear HT HK
              obtain ⟨yours, gives, rfl, rfl, HT⟩ := hcut
              have p0 : 0 ≤ x := HC.out.1
              have p1 : x < (l0.length : Int) := HC.out.2
              obtain ⟨ad, A1, c1, rfl, hx0, hx1, hl1, hi1⟩ := at_T44 HR.out x p0 p1
              have HI := Aside0.mk hi1
              have HLn : Aside0 ((rd_T44 l0 x).f1.length < 17592186044416) := ⟨by
                have := HQ.out (rd_T44 l0 x) (by
                  unfold rd_T44
                  rw [List.getD_eq_getElem?_getD, List.getElem?_eq_getElem (by omega)]
                  exact List.getElem_mem _)
                have := this.2.1
                omega⟩
              have HX01 := Aside0.mk (And.intro hx0 hx1)
              clear hx0 hx1 hl1 hi1
              go_upto_region 16 with (fail)
              go_cut [85] from 43 to 114 (fun v85 wc => ∃ kp : Bool, v85 = .bool kp ∧ Aside0 (kp = keepsB (rd_T44 l0 x).f0 (rd_T44 l0 x).f1 d) ∧ Aside0 (TRel w wc g b d asks gives mine yours))
              case first =>
                have q0 := pw_cell_below HT.out.world HX01.out.1
                have q1 := pw_cell_below HT.out.world HX01.out.2
                replace p0 := eq_true p0
                replace p1 := eq_true p1
                go_region_with (first | (go_at_call 23; refine (keeps.at _ _ _ _ (rd_T44 l0 x).f1 _ (Kd.C_below HI.out (Below.drew HT.out.world)) HLn.out).mono ?_; rintro e w6 ⟨rfl, hb6⟩))
                all_goals
                  go_wp2
                  go_meet
                  case rel => exact ⟨_, rfl, ⟨rfl⟩, ⟨HT.out.below (below_step (Below.drew (Below.refl _ _)) hb6)⟩⟩
              case rest =>
                clear HT
                obtain ⟨kp, rfl, HK, HT⟩ := hcut
                go_upto_if 85 with (fail)
                go_cut [] from 43 to 114 (fun wc => Aside0 (TRel w wc g b d asks gives mine yours))
                case first =>
                  cases kp with
                  | false =>
                    go_wp2
                    go_meet
                    case rel => exact HT
                  | true =>
                    have q0 := pw_cell_below HT.out.world HX01.out.1
                    have q1 := pw_cell_below HT.out.world HX01.out.2
                    have HTk := Aside0.mk (HT.out.tick (rd_T44 l0 x).f0 A1 c1 (rd_T44 l0 x).f1 HI.out HLn.out HK.out.symm)
                    replace p0 := eq_true p0
                    replace p1 := eq_true p1
                    go_wp2_with fail
                    go_region_with (first | (go_at_call 24; refine (HTk.out _ (Below.drew (Below.refl _ _))).mono ?_; rintro e w6 ⟨v, rfl, h6⟩))
                    all_goals
                      go_wp2
                      go_meet
                      case rel => exact h6
                case rest =>
                  clear HT HK HX01 HI HLn p0 p1
                  have HT := hcut
                  clear hcut
                  have hx1 := HX1.out
                  cases gives with
                  | false =>
                    go_wp2
                    go_roundg m
                    case measure => omega
                    case rel => exact ⟨mine, yours, asks, false, x + 1, rfl, rfl, rfl, rfl, rfl, HJ2, HT⟩
                  | true =>
                    have HN := Aside0.mk (HT.out.now 0 (.inl rfl))
                    have HMb : Aside0 ((0 ≤ mine ∧ mine ≤ MaxC) ∧ (0 ≤ yours ∧ yours ≤ MaxC)) := ⟨by
                      obtain ⟨t, now, dr, g1, g2, g3, g4, g5⟩ := HT.out
                      obtain ⟨ta, tg, z1, z2, z3, z4, z5, z6, z7⟩ := g4
                      exact ⟨z6, z7⟩⟩
                    go_wp2_with fail
                    refine HN.out.mono ?_
                    rintro e w5 ⟨n, rfl, h1, h2, hb5⟩
                    have HT2 := Aside0.mk (HT.out.below hb5)
                    obtain ⟨t, now, dr, g1, g2, g3, g4, g5, g6⟩ := h2.out
                    have en2 : nowAt now 1 = rd now 1 := if_pos (by omega)
                    have HN2 := Aside0.mk (Now.at 1 w5 g1 (by omega) (by omega))
                    rw [en2] at HN2
                    have HG := Aside0.mk (And.intro (g2.2.1 1 (by omega)) (And.intro g4 g6))
                    have HB2 : Aside0 (0 ≤ rd now 1 ∧ rd now 1 ≤ MaxC) := ⟨HG.out.1⟩
                    clear g1 g2 g3 g4 g5 g6 en2 h2
                    have e1 : IntKind.i64.wrap (n - mine) = n - mine := by rw [i64_w]; unfold wrap64; have := h1.out; have := HMb.out; unfold MaxC at *; omega
                    clear HT HN hb5
                    by_cases kt : n - mine < trust
                    · have ktb : decide (n - mine < trust) = true := decide_eq_true kt
                      have HKt := Aside0.mk kt
                      clear kt
                      go_wp2_with fail
                      refine HN2.out.mono ?_
                      rintro e w6 ⟨rfl, ⟨n6, hq6⟩⟩
                      have e2 : IntKind.i64.wrap (rd now 1 - yours) = rd now 1 - yours := by rw [i64_w]; unfold wrap64; have := HB2.out; have := HMb.out; unfold MaxC at *; omega
                      have kl : decide (lease ≤ rd now 1 - yours) = false := decide_eq_false (by
                        have g6 := HG.out.2.2
                        have hk := HKt.out
                        rw [HE.out, g6] at hk
                        exact HG.out.2.1.final hk)
                      have HT3 : Aside0 (TRel w w6 g b d asks true mine yours) := ⟨by subst hq6; exact HT2.out.below (pw_below_drewN (Below.refl _ _) _)⟩
                      clear hq6 HN2 HT2 HG
                      go_wp2
                      go_roundg m
                      case measure => omega
                      case rel => exact ⟨mine, yours, asks, true, x + 1, rfl, rfl, rfl, rfl, rfl, HJ2, HT3⟩
                    · have ktb : decide (n - mine < trust) = false := decide_eq_false kt
                      clear kt
                      go_wp2
                      go_roundg m
                      case measure => omega
                      case rel => exact ⟨mine, yours, asks, true, x + 1, rfl, rfl, rfl, rfl, rfl, HJ2, HT2⟩
theorem ClockTrusts.walked (w : World) (A0 : Option Addr) (c0 : Nat) (l0 : List S44) (hr0 : Kd.C k44 w A0 l0.length l0) (hc0 : l0.length ≤ c0) (y0 : l0.length * Try.prog.bytesOf 44 ≤ reachBytes) (hq : ∀ y ∈ l0, t44wf y) (d : Int) (_ : (Lit.int .i64 d).wf = true) (lease : Int) (hw : (Lit.int .i64 lease).wf = true) (asked : Int) (_ : (Lit.int .i64 asked).wf = true) (given : Int) (_ : (Lit.int .i64 given).wf = true) :
    Calls Try.prog 5 #[.slice A0 l0.length c0, .int .i64 d, .int .i64 lease, .int .i64 asked, .int .i64 given] w fun e w' => e = .returned (.bool true) ∧ Below w.heap.size w w' := by
  refine ClockTrusts.at_ w A0 c0 l0 hr0 ?_ hq d lease asked given
  have e : Try.prog.bytesOf 44 = 32 := by kernel_rfl
  rw [e] at y0
  have := reachBytes_lt
  omega
end Go.Proofs.Ytfmcpceilkkhfaa.P
