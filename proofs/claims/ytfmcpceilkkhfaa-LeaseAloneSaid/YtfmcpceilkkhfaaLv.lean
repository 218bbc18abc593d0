/- Trust; what must come of every program (lives of the clock's statements). -/
import Derived.Test.YtfmcpceilkkhfaaTk
import Derived.Test.YtfmcpceilkkhfaaP27
import Derived.Test.YtfmcpceilkkhfaaP28
namespace Go.Proofs.Ytfmcpceilkkhfaa.P
open Go.RowKit Go.Proofs.YtfmcpceilkkhfaaW.PrintWords Go.Proofs.YtfmcpceilkkhfaaW.PrintLast Go.Proofs.YtfmcpceilkkhfaaW.PrintMore
attribute [local go_sem] max2_int min2_int max_two min_two max_three min_three max_four min_four
set_option linter.unusedVariables false
set_option linter.unusedSimpArgs false
def trustI (lease d : Int) : Int := if (1 ≤ lease ∧ lease ≤ 1048576) ∧ (0 ≤ d ∧ d ≤ 999) then lease * (1000 - d) / (1000 + d) else 0
theorem trust_num {lease d : Int} (h : (1 ≤ lease ∧ lease ≤ 1048576) ∧ (0 ≤ d ∧ d ≤ 999)) : wrap64 (Int.tdiv (wrap64 (lease * wrap64 (1000 - d))) (wrap64 (1000 + d))) = lease * (1000 - d) / (1000 + d) ∧ wrap64 (1000 + d) ≠ 0 := by
  obtain ⟨⟨h1, h2⟩, h3, h4⟩ := h
  have m1 : lease * (1000 - d) ≤ 1048576 * 1000 := mul_le_of h2 (by omega) (by omega) (by omega)
  have m2 : 0 ≤ lease * (1000 - d) := Int.mul_nonneg (by omega) (by omega)
  have e1 : wrap64 (1000 - d) = 1000 - d := by unfold wrap64; omega
  have e2 : wrap64 (1000 + d) = 1000 + d := by unfold wrap64; omega
  have e3 : wrap64 (lease * (1000 - d)) = lease * (1000 - d) := by unfold wrap64; omega
  rw [e1, e2, e3]
  have q : Int.tdiv (lease * (1000 - d)) (1000 + d) = lease * (1000 - d) / (1000 + d) := Int.tdiv_eq_ediv_of_nonneg m2
  have b1 : 0 ≤ lease * (1000 - d) / (1000 + d) := Int.ediv_nonneg m2 (by omega)
  have b2 : lease * (1000 - d) / (1000 + d) ≤ lease * (1000 - d) := Int.ediv_le_self _ m2
  rw [q]
  exact ⟨by unfold wrap64; omega, by omega⟩
theorem Trust_is (lease d : Int) : clock_Trust.f lease d = some (trustI lease d) := by
  by_cases hh : (1 ≤ lease ∧ lease ≤ 1048576) ∧ (0 ≤ d ∧ d ≤ 999)
  · obtain ⟨e, ne⟩ := trust_num hh
    have q : trustI lease d = lease * (1000 - d) / (1000 + d) := if_pos hh
    unfold clock_Trust.f
    rw [within_is, isDrift_is, q, decide_eq_true hh.1.1, decide_eq_true hh.1.2, drB_iff.mpr hh.2]
    simp only [Option.bind_some, Bool.and_self, if_true]
    rw [if_neg ne, e]
  · have q : trustI lease d = 0 := if_neg hh
    unfold clock_Trust.f
    rw [within_is, isDrift_is, q]
    simp only [Option.bind_some]
    by_cases h1 : 1 ≤ lease ∧ lease ≤ 1048576
    · have h2 : drB d = false := by rw [Bool.eq_false_iff]; exact fun h => hh ⟨h1, drB_iff.mp h⟩
      rw [decide_eq_true h1.1, decide_eq_true h1.2, h2]
      rfl
    · have : (decide (1 ≤ lease) && decide (lease ≤ 1048576)) = false := by
        rw [Bool.and_eq_false_iff, decide_eq_false_iff_not, decide_eq_false_iff_not]; omega
      rw [this]
      rfl
theorem refTrust_is (lease d : Int) : pannierref05_Trust.f lease d = some (trustI lease d) := by
  unfold pannierref05_Trust.f trustI
  by_cases h1 : lease < 1
  · rw [if_pos h1, if_neg (by omega)]
  rw [if_neg h1]
  by_cases h2 : lease > 1048576
  · rw [if_pos h2, if_neg (by omega)]
  rw [if_neg h2]
  by_cases h3 : d < 0
  · rw [if_pos h3, if_neg (by omega)]
  rw [if_neg h3]
  by_cases h4 : d > 999
  · rw [if_pos h4, if_neg (by omega)]
  have hh : (1 ≤ lease ∧ lease ≤ 1048576) ∧ (0 ≤ d ∧ d ≤ 999) := by omega
  obtain ⟨e, ne⟩ := trust_num hh
  rw [if_neg h4, if_neg ne, if_pos hh, e]
theorem Trust.at (lease d : Int) (w : World) : Calls Try.prog 27 #[.int .i64 lease, .int .i64 d] w fun e w' => e = .returned (.int .i64 (trustI lease d)) ∧ Drawn0 w w' := clock_Trust.calls _ _ _ _ (Trust_is lease d)
theorem refTrust.at (lease d : Int) (w : World) : Calls Try.prog 28 #[.int .i64 lease, .int .i64 d] w fun e w' => e = .returned (.int .i64 (trustI lease d)) ∧ Drawn0 w w' := pannierref05_Trust.calls _ _ _ _ (refTrust_is lease d)
/-- A row of one's own that is none of the clocks' blocks. -/
theorem Row.hon {W : World} {B g b k c : Nat} {l : List Int} (h : Row W B k l c) (h1 : k ≠ g) (h2 : k ≠ b) : ∀ W', Kept W W' (fun k => k = g ∨ k = b) → Kd.C (Kd.int .i64) W' (some ⟨k, 0, none⟩) l.length l := fun W' hk => (h.kept hk (fun e => e.elim h1 h2)).reads.2
/-- A row that came in. -/
theorem hon_came {w0 W : World} {g b n : Nat} {A : Option Addr} {l : List Int} (h : Kd.C (Kd.int .i64) w0 A n l) (hb : Below w0.heap.size w0 W) (hg : w0.heap.size ≤ g) (hb2 : w0.heap.size ≤ b) : ∀ W', Kept W W' (fun k => k = g ∨ k = b) → Kd.C (Kd.int .i64) W' A n l := Kd.C_kept_came (Kd.heap_int .i64) h hb (fun k e => by rcases e with rfl | rfl <;> assumption)
theorem Row.lit (W : World) {B : Nat} (xs : List Int) (hB : B ≤ W.heap.size) (h : xs.length ≤ 100) : Row (W.alloc (.cells (nums .i64 xs).toArray 3)) B W.heap.size xs xs.length := Kd.R_of_own (own_lit W B 3 .i64 xs hB (by omega)) (fun k e => by injection e with e; exact e.symm)
theorem Clk.lt {W : World} {B g b : Nat} {t dr : Int} {now : List Int} (h : Clk W B g b t now dr) : g < W.heap.size ∧ b < W.heap.size := by
  obtain ⟨c, h1, _, _, _, h5, _⟩ := h
  exact ⟨blk_lt h1, h5⟩
theorem Clk.ge {W : World} {B g b : Nat} {t dr : Int} {now : List Int} (h : Clk W B g b t now dr) : B ≤ g ∧ B ≤ b := by
  obtain ⟨c, h1, _, h3, h4, h5, _⟩ := h
  exact ⟨h3, h4⟩
theorem least_is {t : Int} {l : List Int} {r k : Int} (h : IsLeast t l r) (h0 : drB k = true) (h1 : drB (k - 1) = true) (h2 : keepsB t l k = true) (h3 : keepsB t l (k - 1) = false) : r = k := by
  have a := h.2.2 k h0
  have b := h.2.2 (k - 1) h1
  rw [h2] at a
  rw [h3] at b
  have a := of_decide_eq_true a.symm
  have b := of_decide_eq_false b.symm
  omega
theorem clkOk0 (n : Nat) (h1 : 1 ≤ n) (h7 : n ≤ 7) : ClkOk 0 (List.replicate n 0) 0 := by
  refine ⟨by unfold MaxC; omega, fun i hi => ?_, by omega, by rw [List.length_replicate]; omega⟩
  have : rd (List.replicate n 0) i = 0 := by
    unfold rd
    rw [List.getD_eq_getElem?_getD, List.getElem?_replicate]
    split <;> rfl
  rw [this]
  unfold MaxC
  omega
set_option maxHeartbeats 4000000 in
set_option maxRecDepth 100000 in
theorem lives05.at (w : World) : Calls Try.prog 21 #[] w fun e w' => e = .returned (.bool true) ∧ Below w.heap.size w w' := by
  go_enter Try.func21, Try.ntmps21
  go_wp2_with fail
  refine (New.at 2 _ (by decide) (by decide)).mono ?_
  rintro e w1 ⟨g, b, rfl, hc, hb⟩
  have HC := Aside0.mk hc
  have HB := Aside0.mk hb
  clear hc hb
  go_wp2_with fail
  have hcl := HC.out.below (below_alloc (Below.refl _ _) (.cells (nums .i64 [900, 1100]).toArray 3))
  refine (Tick.at 1000 (some ⟨w1.heap.size, 0, none⟩) 2 [900, 1100] _ hcl (clkOk0 2 (by decide) (by decide)) ((Row.lit w1 (B := 0) [900, 1100] (Nat.zero_le _) (by decide)).hon (by have := HC.out.lt; omega) (by have := HC.out.lt; omega)) (by decide)).mono ?_
  rintro e w2 hp
  have hA : ArgOk (List.replicate (2 : Int).toNat 0) 1000 [900, 1100] := ⟨by decide, by decide, by decide⟩
  have hR : RoomOk 0 (List.replicate (2 : Int).toNat 0) 1000 [900, 1100] := ⟨by decide, by
    intro i hi
    have : i = 0 ∨ i = 1 := by simp at hi; omega
    rcases this with rfl | rfl <;> decide⟩
  rcases hp with ⟨_, _, rfl, r, hr, hc, hfr⟩ | ⟨_, h, _⟩ | ⟨h, _⟩
  rotate_left
  · exact absurd hR h
  · exact absurd hA h
  obtain rfl := least_is (k := 100) hr (by decide) (by decide) (by decide) (by decide)
  have HB2 := Aside0.mk (hfr.below (B := w.heap.size) (fun k hk => by have := HC.out.ge; rcases hk with rfl | rfl <;> omega) (by have := HB.out.size; simp; omega) (below_alloc HB.out _))
  have HC2 := Aside0.mk hc
  clear hc hfr hA hR hr HB
  go_wp2_with fail
  refine (Now.at 1 _ HC2.out (by decide) (by decide)).mono ?_
  rintro e w3 ⟨rfl, ⟨n1, rfl⟩⟩
  have hn : nowAt (addL (List.replicate (2 : Int).toNat 0) [900, 1100]) 1 = 1100 := by decide
  rw [hn]
  go_wp2_with fail
  refine (Time.at _ (HC2.out.below (pw_below_drewN (Below.refl _ _) _)) (by decide)).mono ?_
  rintro e w3 ⟨rfl, ⟨n2, rfl⟩⟩
  go_wp2_with fail
  refine (CKeeps.at 100 _ (HC2.out.below (pw_below_drewN (Below.refl _ _) _)) (by decide)).mono ?_
  rintro e w3 ⟨rfl, ⟨n3, rfl⟩⟩
  go_wp2_with fail
  refine (CKeeps.at 99 _ (HC2.out.below (pw_below_drewN (Below.refl _ _) _)) (by decide)).mono ?_
  rintro e w3 ⟨rfl, ⟨n4, rfl⟩⟩
  go_wp2_with fail
  refine (Trust.at 1100 100 _).mono ?_
  rintro e w3 ⟨rfl, ⟨n5, rfl⟩⟩
  have ht : trustI 1100 100 = 900 := by decide
  rw [ht]
  go_wp2
  go_ret
  exact ⟨by rfl, pw_below_drewN HB2.out _⟩
end Go.Proofs.Ytfmcpceilkkhfaa.P
