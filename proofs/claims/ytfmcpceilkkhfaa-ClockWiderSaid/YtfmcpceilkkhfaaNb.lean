/- The statements ClockNobody and ClockWider: the walks. -/
import Derived.Test.YtfmcpceilkkhfaaLv
import Derived.Test.YtfmcpceilkkhfaaOp
namespace Go.Proofs.Ytfmcpceilkkhfaa.P
open Go.RowKit Go.Proofs.YtfmcpceilkkhfaaW.PrintWords Go.Proofs.YtfmcpceilkkhfaaW.PrintLast Go.Proofs.YtfmcpceilkkhfaaW.PrintMore
attribute [local go_sem] max2_int min2_int max_two min_two max_three min_three max_four min_four
set_option linter.unusedVariables false
set_option linter.unusedSimpArgs false
set_option maxHeartbeats 4000000 in
set_option maxRecDepth 100000 in
theorem ClockNobody.walked (w : World) (n : Int) (_ : (Lit.int .i64 n).wf = true) (A0 : Option Addr) (c0 : Nat) (l0 : List Int) (hr0 : Kd.C (Kd.int .i64) w A0 l0.length l0) (hc0 : l0.length ≤ c0) (_ : ∀ x ∈ l0, (Lit.int .i64 x).wf = true) (y0 : l0.length * 8 ≤ 140737488351232) :
    Calls Try.prog 8 #[.int .i64 n, .slice A0 l0.length c0] w fun e w' => e = .returned (.bool true) ∧ Below w.heap.size w w' := by
  clear hr0 hc0 y0
  go_enter Try.func8, Try.ntmps8
  go_wp2_with fail
  refine (lives05.at _).mono ?_
  rintro e w1 ⟨rfl, hb⟩
  have HB := Aside0.mk hb
  clear hb
  go_wp2_with fail
  refine (Tick.nil n _ _).mono ?_
  rintro e w2 ⟨rfl, ⟨n1, rfl⟩⟩
  go_wp2_with fail
  refine (Now.nil n _).mono ?_
  rintro e w2 ⟨rfl, ⟨n2, rfl⟩⟩
  go_wp2_with fail
  refine (Time.nil _).mono ?_
  rintro e w2 ⟨rfl, ⟨n3, rfl⟩⟩
  go_wp2_with fail
  refine (CKeeps.nil n _).mono ?_
  rintro e w2 ⟨rfl, ⟨n4, rfl⟩⟩
  go_wp2_with fail
  refine (Fork.nil _).mono ?_
  rintro e w2 ⟨rfl, ⟨n5, rfl⟩⟩
  go_wp2
  go_ret
  exact ⟨by rfl, pw_below_drewN HB.out _⟩
theorem keepsB_neg (t d : Int) (l : List Int) (h : drB d = false) : keepsB t l d = false := by unfold keepsB; rw [h]; rfl
theorem trust_anti {lease a b : Int} (h0 : 0 ≤ a) (h1 : a ≤ b) (h2 : b ≤ 999) : trustI lease b ≤ trustI lease a := by
  unfold trustI
  by_cases h : 1 ≤ lease ∧ lease ≤ 1048576
  · rw [if_pos ⟨h, by omega, h2⟩, if_pos ⟨h, h0, by omega⟩]
    rw [Int.le_ediv_iff_mul_le (by omega)]
    have q1 := Int.ediv_mul_le (lease * (1000 - b)) (show 1000 + b ≠ 0 by omega)
    have q0 : 0 ≤ lease * (1000 - b) / (1000 + b) := Int.ediv_nonneg (Int.mul_nonneg (by omega) (by omega)) (by omega)
    have q2 : lease * (1000 - b) / (1000 + b) * (1000 + a) ≤ lease * (1000 - b) / (1000 + b) * (1000 + b) := Int.mul_le_mul_of_nonneg_left (by omega) q0
    have q3 : lease * (1000 - b) ≤ lease * (1000 - a) := Int.mul_le_mul_of_nonneg_left (by omega) (by omega)
    omega
  · rw [if_neg (fun x => h x.1), if_neg (fun x => h x.1)]
    omega
theorem trust_up {lease a : Int} (h0 : 1 ≤ lease) (h1 : lease + 1 ≤ 1048576) (ha : 0 ≤ a) (hb : a ≤ 999) : trustI lease a ≤ trustI (lease + 1) a := by
  unfold trustI
  rw [if_pos ⟨by omega, ha, hb⟩, if_pos ⟨by omega, ha, hb⟩]
  exact Int.ediv_le_ediv (by omega) (Int.mul_le_mul_of_nonneg_right (by omega) (by omega))
theorem trust_zero {lease : Int} (h0 : 1 ≤ lease) (h1 : lease ≤ 1048576) : trustI lease 0 = lease := by
  unfold trustI
  rw [if_pos ⟨by omega, by omega, by omega⟩]
  show lease * 1000 / 1000 = lease
  omega
theorem trust_big (lease : Int) : trustI lease 1000 = 0 := by
  unfold trustI
  rw [if_neg (by omega)]
set_option maxHeartbeats 8000000 in
set_option maxRecDepth 100000 in
theorem ClockWider.out (w : World) (time : Int) (A0 : Option Addr) (c0 : Nat) (l0 : List Int) (hr0 : Kd.C (Kd.int .i64) w A0 l0.length l0) (y0 : l0.length * 8 ≤ 140737488351232) (a b lease : Int) (hab : a < 0 ∨ b < a ∨ 999 < b) :
    Calls Try.prog 6 #[.int .i64 time, .slice A0 l0.length c0, .int .i64 a, .int .i64 b, .int .i64 lease] w fun e w' => e = .returned (.bool true) ∧ Below w.heap.size w w' := by
  have HR := Aside0.mk hr0
  have HY : Aside0 (l0.length < 17592186044416) := ⟨by omega⟩
  clear hr0 y0
  have hk := keepsB_neg time (-1) l0 rfl
  have ht := trust_big lease
  by_cases h1 : a < 0
  · have b1 : decide (a < 0) = true := decide_eq_true h1
    clear hab h1
    go_enter Try.func6, Try.ntmps6
    go_wp2_with fail
    refine (lives05.at _).mono ?_
    rintro e w1 ⟨rfl, hb⟩
    have HB := Aside0.mk hb
    clear hb
    go_wp2_with fail
    refine (keeps.at time (-1) _ _ l0 _ (Kd.C_below HR.out HB.out) HY.out).mono ?_
    rw [hk]
    rintro e w2 ⟨rfl, hb⟩
    have HB2 := Aside0.mk (below_step HB.out hb)
    clear hb
    go_wp2_with fail
    refine (Trust.at lease 1000 _).mono ?_
    rw [ht]
    rintro e w2 ⟨rfl, ⟨n5, rfl⟩⟩
    go_wp2
    go_ret
    exact ⟨by rfl, pw_below_drewN HB2.out _⟩
  have b1 : decide (a < 0) = false := decide_eq_false h1
  by_cases h2 : b < a
  · have b2 : decide (b < a) = true := decide_eq_true h2
    clear hab h1 h2
    go_enter Try.func6, Try.ntmps6
    go_wp2_with fail
    refine (lives05.at _).mono ?_
    rintro e w1 ⟨rfl, hb⟩
    have HB := Aside0.mk hb
    clear hb
    go_wp2_with fail
    refine (keeps.at time (-1) _ _ l0 _ (Kd.C_below HR.out HB.out) HY.out).mono ?_
    rw [hk]
    rintro e w2 ⟨rfl, hb⟩
    have HB2 := Aside0.mk (below_step HB.out hb)
    clear hb
    go_wp2_with fail
    refine (Trust.at lease 1000 _).mono ?_
    rw [ht]
    rintro e w2 ⟨rfl, ⟨n5, rfl⟩⟩
    go_wp2
    go_ret
    exact ⟨by rfl, pw_below_drewN HB2.out _⟩
  have b2 : decide (b < a) = false := decide_eq_false h2
  have b3 : decide (999 < b) = true := decide_eq_true (by omega)
  clear hab h1 h2
  go_enter Try.func6, Try.ntmps6
  go_wp2_with fail
  refine (lives05.at _).mono ?_
  rintro e w1 ⟨rfl, hb⟩
  have HB := Aside0.mk hb
  clear hb
  go_wp2_with fail
  refine (keeps.at time (-1) _ _ l0 _ (Kd.C_below HR.out HB.out) HY.out).mono ?_
  rw [hk]
  rintro e w2 ⟨rfl, hb⟩
  have HB2 := Aside0.mk (below_step HB.out hb)
  clear hb
  go_wp2_with fail
  refine (Trust.at lease 1000 _).mono ?_
  rw [ht]
  rintro e w2 ⟨rfl, ⟨n5, rfl⟩⟩
  go_wp2
  go_ret
  exact ⟨by rfl, pw_below_drewN HB2.out _⟩
set_option maxHeartbeats 16000000 in
set_option maxRecDepth 100000 in
theorem ClockWider.in_ (w : World) (time : Int) (A0 : Option Addr) (c0 : Nat) (l0 : List Int) (hr0 : Kd.C (Kd.int .i64) w A0 l0.length l0) (y0 : l0.length * 8 ≤ 140737488351232) (a b lease : Int) (h0 : 0 ≤ a) (hab : a ≤ b) (h9 : b ≤ 999) :
    Calls Try.prog 6 #[.int .i64 time, .slice A0 l0.length c0, .int .i64 a, .int .i64 b, .int .i64 lease] w fun e w' => e = .returned (.bool true) ∧ Below w.heap.size w w' := by
  have HR := Aside0.mk hr0
  have HY : Aside0 (l0.length < 17592186044416) := ⟨by omega⟩
  clear hr0 y0
  have b1 : decide (a < 0) = false := decide_eq_false (by omega)
  have b2 : decide (b < a) = false := decide_eq_false (by omega)
  have b3 : decide (999 < b) = false := decide_eq_false (by omega)
  have tb : decide (trustI lease a < trustI lease b) = false := decide_eq_false (by have := trust_anti (lease := lease) h0 hab h9; omega)
  have HA : Aside0 (0 ≤ a ∧ a ≤ b ∧ b ≤ 999) := ⟨h0, hab, h9⟩
  clear h0 hab h9
  by_cases ka : keepsB time l0 a = true
  · have kb : keepsB time l0 b = true := keepsB_mono HA.out.2.1 ka (drB_iff.mpr (by have := HA.out; omega))
    by_cases h1 : lease < 1
    · have b4 : decide (lease < 1) = true := decide_eq_true h1
      clear h1
      go_enter Try.func6, Try.ntmps6
      go_wp2_with fail
      refine (lives05.at _).mono ?_
      rintro e w1 ⟨rfl, hb⟩
      have HB := Aside0.mk hb
      clear hb
      go_wp2_with fail
      refine (keeps.at time a _ _ l0 _ (Kd.C_below HR.out HB.out) HY.out).mono ?_
      rw [ka]
      rintro e w2 ⟨rfl, hb⟩
      replace HB := Aside0.mk (below_step HB.out hb)
      clear hb
      go_wp2_with fail
      refine (keeps.at time b _ _ l0 _ (Kd.C_below HR.out HB.out) HY.out).mono ?_
      rw [kb]
      rintro e w3 ⟨rfl, hb⟩
      replace HB := Aside0.mk (below_step HB.out hb)
      clear hb
      go_wp2_with fail
      refine (Trust.at lease b _).mono ?_
      rintro e w4 ⟨rfl, ⟨n1, rfl⟩⟩
      go_wp2_with fail
      refine (Trust.at lease a _).mono ?_
      rintro e w4 ⟨rfl, ⟨n2, rfl⟩⟩
      go_wp2
      go_ret
      exact ⟨by rfl, pw_below_drewN HB.out _⟩
    · have b4 : decide (lease < 1) = false := decide_eq_false h1
      by_cases h2 : 1048576 ≤ lease
      · have b5 : decide (1048576 ≤ lease) = true := decide_eq_true h2
        clear h1 h2
        go_enter Try.func6, Try.ntmps6
        go_wp2_with fail
        refine (lives05.at _).mono ?_
        rintro e w1 ⟨rfl, hb⟩
        have HB := Aside0.mk hb
        clear hb
        go_wp2_with fail
        refine (keeps.at time a _ _ l0 _ (Kd.C_below HR.out HB.out) HY.out).mono ?_
        rw [ka]
        rintro e w2 ⟨rfl, hb⟩
        replace HB := Aside0.mk (below_step HB.out hb)
        clear hb
        go_wp2_with fail
        refine (keeps.at time b _ _ l0 _ (Kd.C_below HR.out HB.out) HY.out).mono ?_
        rw [kb]
        rintro e w3 ⟨rfl, hb⟩
        replace HB := Aside0.mk (below_step HB.out hb)
        clear hb
        go_wp2_with fail
        refine (Trust.at lease b _).mono ?_
        rintro e w4 ⟨rfl, ⟨n1, rfl⟩⟩
        go_wp2_with fail
        refine (Trust.at lease a _).mono ?_
        rintro e w4 ⟨rfl, ⟨n2, rfl⟩⟩
        go_wp2
        go_ret
        exact ⟨by rfl, pw_below_drewN HB.out _⟩
      · have b5 : decide (1048576 ≤ lease) = false := decide_eq_false h2
        have e1 : IntKind.i64.wrap (lease + 1) = lease + 1 := by rw [i64_w]; unfold wrap64; omega
        have b6 : decide (trustI lease a ≤ trustI (lease + 1) a) = true := decide_eq_true (trust_up (by omega) (by omega) HA.out.1 (by have := HA.out; omega))
        have b7 : (trustI lease 0 == lease) = true := by rw [trust_zero (by omega) (by omega)]; simp
        clear h1 h2
        go_enter Try.func6, Try.ntmps6
        go_wp2_with fail
        refine (lives05.at _).mono ?_
        rintro e w1 ⟨rfl, hb⟩
        have HB := Aside0.mk hb
        clear hb
        go_wp2_with fail
        refine (keeps.at time a _ _ l0 _ (Kd.C_below HR.out HB.out) HY.out).mono ?_
        rw [ka]
        rintro e w2 ⟨rfl, hb⟩
        replace HB := Aside0.mk (below_step HB.out hb)
        clear hb
        go_wp2_with fail
        refine (keeps.at time b _ _ l0 _ (Kd.C_below HR.out HB.out) HY.out).mono ?_
        rw [kb]
        rintro e w3 ⟨rfl, hb⟩
        replace HB := Aside0.mk (below_step HB.out hb)
        clear hb
        go_wp2_with fail
        refine (Trust.at lease b _).mono ?_
        rintro e w4 ⟨rfl, ⟨n1, rfl⟩⟩
        go_wp2_with fail
        refine (Trust.at lease a _).mono ?_
        rintro e w4 ⟨rfl, ⟨n2, rfl⟩⟩
        go_wp2_with fail
        refine (Trust.at (lease + 1) a _).mono ?_
        rintro e w4 ⟨rfl, ⟨n3, rfl⟩⟩
        go_wp2_with fail
        refine (Trust.at lease a _).mono ?_
        rintro e w4 ⟨rfl, ⟨n4, rfl⟩⟩
        go_wp2_with fail
        refine (Trust.at lease 0 _).mono ?_
        rintro e w4 ⟨rfl, ⟨n5, rfl⟩⟩
        go_wp2
        go_ret
        exact ⟨by rfl, pw_below_drewN HB.out _⟩
  · have ka : keepsB time l0 a = false := by simpa using ka
    by_cases h1 : lease < 1
    · have b4 : decide (lease < 1) = true := decide_eq_true h1
      clear h1
      go_enter Try.func6, Try.ntmps6
      go_wp2_with fail
      refine (lives05.at _).mono ?_
      rintro e w1 ⟨rfl, hb⟩
      have HB := Aside0.mk hb
      clear hb
      go_wp2_with fail
      refine (keeps.at time a _ _ l0 _ (Kd.C_below HR.out HB.out) HY.out).mono ?_
      rw [ka]
      rintro e w2 ⟨rfl, hb⟩
      replace HB := Aside0.mk (below_step HB.out hb)
      clear hb
      go_wp2_with fail
      refine (Trust.at lease b _).mono ?_
      rintro e w4 ⟨rfl, ⟨n1, rfl⟩⟩
      go_wp2_with fail
      refine (Trust.at lease a _).mono ?_
      rintro e w4 ⟨rfl, ⟨n2, rfl⟩⟩
      go_wp2
      go_ret
      exact ⟨by rfl, pw_below_drewN HB.out _⟩
    · have b4 : decide (lease < 1) = false := decide_eq_false h1
      by_cases h2 : 1048576 ≤ lease
      · have b5 : decide (1048576 ≤ lease) = true := decide_eq_true h2
        clear h1 h2
        go_enter Try.func6, Try.ntmps6
        go_wp2_with fail
        refine (lives05.at _).mono ?_
        rintro e w1 ⟨rfl, hb⟩
        have HB := Aside0.mk hb
        clear hb
        go_wp2_with fail
        refine (keeps.at time a _ _ l0 _ (Kd.C_below HR.out HB.out) HY.out).mono ?_
        rw [ka]
        rintro e w2 ⟨rfl, hb⟩
        replace HB := Aside0.mk (below_step HB.out hb)
        clear hb
        go_wp2_with fail
        refine (Trust.at lease b _).mono ?_
        rintro e w4 ⟨rfl, ⟨n1, rfl⟩⟩
        go_wp2_with fail
        refine (Trust.at lease a _).mono ?_
        rintro e w4 ⟨rfl, ⟨n2, rfl⟩⟩
        go_wp2
        go_ret
        exact ⟨by rfl, pw_below_drewN HB.out _⟩
      · have b5 : decide (1048576 ≤ lease) = false := decide_eq_false h2
        have e1 : IntKind.i64.wrap (lease + 1) = lease + 1 := by rw [i64_w]; unfold wrap64; omega
        have b6 : decide (trustI lease a ≤ trustI (lease + 1) a) = true := decide_eq_true (trust_up (by omega) (by omega) HA.out.1 (by have := HA.out; omega))
        have b7 : (trustI lease 0 == lease) = true := by rw [trust_zero (by omega) (by omega)]; simp
        clear h1 h2
        go_enter Try.func6, Try.ntmps6
        go_wp2_with fail
        refine (lives05.at _).mono ?_
        rintro e w1 ⟨rfl, hb⟩
        have HB := Aside0.mk hb
        clear hb
        go_wp2_with fail
        refine (keeps.at time a _ _ l0 _ (Kd.C_below HR.out HB.out) HY.out).mono ?_
        rw [ka]
        rintro e w2 ⟨rfl, hb⟩
        replace HB := Aside0.mk (below_step HB.out hb)
        clear hb
        go_wp2_with fail
        refine (Trust.at lease b _).mono ?_
        rintro e w4 ⟨rfl, ⟨n1, rfl⟩⟩
        go_wp2_with fail
        refine (Trust.at lease a _).mono ?_
        rintro e w4 ⟨rfl, ⟨n2, rfl⟩⟩
        go_wp2_with fail
        refine (Trust.at (lease + 1) a _).mono ?_
        rintro e w4 ⟨rfl, ⟨n3, rfl⟩⟩
        go_wp2_with fail
        refine (Trust.at lease a _).mono ?_
        rintro e w4 ⟨rfl, ⟨n4, rfl⟩⟩
        go_wp2_with fail
        refine (Trust.at lease 0 _).mono ?_
        rintro e w4 ⟨rfl, ⟨n5, rfl⟩⟩
        go_wp2
        go_ret
        exact ⟨by rfl, pw_below_drewN HB.out _⟩
theorem ClockWider.walked (w : World) (time : Int) (_ : (Lit.int .i64 time).wf = true) (A0 : Option Addr) (c0 : Nat) (l0 : List Int) (hr0 : Kd.C (Kd.int .i64) w A0 l0.length l0) (hc0 : l0.length ≤ c0) (_ : ∀ x ∈ l0, (Lit.int .i64 x).wf = true) (y0 : l0.length * 8 ≤ 140737488351232) (a : Int) (_ : (Lit.int .i64 a).wf = true) (b : Int) (_ : (Lit.int .i64 b).wf = true) (lease : Int) (_ : (Lit.int .i64 lease).wf = true) :
    Calls Try.prog 6 #[.int .i64 time, .slice A0 l0.length c0, .int .i64 a, .int .i64 b, .int .i64 lease] w fun e w' => e = .returned (.bool true) ∧ Below w.heap.size w w' := by
  by_cases h : a < 0 ∨ b < a ∨ 999 < b
  · exact ClockWider.out w time A0 c0 l0 hr0 y0 a b lease h
  · exact ClockWider.in_ w time A0 c0 l0 hr0 y0 a b lease (by omega) (by omega) (by omega)
end Go.Proofs.Ytfmcpceilkkhfaa.P
