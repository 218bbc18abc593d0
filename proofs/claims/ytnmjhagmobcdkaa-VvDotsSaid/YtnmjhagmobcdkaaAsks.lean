/- The law VvAsks: what is told of any vector is what the reference tells. -/
import Derived.Test.YtnmjhagmobcdkaaTot
import Derived.Test.YtnmjhagmobcdkaaPm
namespace Go.Proofs.Ytnmjhagmobcdkaa.P
open Go.RowKit Go.Proofs.YtnmjhagmobcdkaaW.PrintWords Go.Proofs.YtnmjhagmobcdkaaW.PrintLast Go.Proofs.YtnmjhagmobcdkaaW.PrintMore
/-- Noughts behind a list till there is a place o. -/
def padL (l : List Int) (o : Int) : List Int := l ++ List.replicate ((o + 1).toNat - l.length) 0
theorem padL_length (l : List Int) (o : Int) (h : 0 ≤ o) : (padL l o).length = max l.length (o + 1).toNat := by
  unfold padL
  rw [List.length_append, List.length_replicate]
  omega
/-- Another number at a place; or an error. -/
def withZ (l : List Int) (o n : Int) : List Int × Int := if 0 ≤ o ∧ o ≤ 6 ∧ 0 ≤ n ∧ n ≤ 2147483647 then (plainL ((padL l o).set o.toNat n), 0) else ([], 1)
theorem vv_With.at1 {l : List Int} {o n : Int} (hl : l.length * 8 ≤ 140737488351232) (k : Nat) : vv_With.f (k + 1) l o n = some (withZ l o n) := by
  unfold vv_With.f withZ
  by_cases h0 : o < 0
  · rw [if_pos h0, if_neg (by omega)]; simp only [vv_With.j0, if_true]
  · rw [if_neg h0]
    by_cases h7 : o ≥ 7
    · rw [if_pos h7, if_neg (by omega)]; simp only [vv_With.j0, if_true]
    · rw [if_neg h7, vv_isCount.some]
      simp only [Option.bind_some, vv_With.j0]
      by_cases hc : 0 ≤ n ∧ n ≤ 2147483647
      · have hb : cntB n = true := by simpa [cntB] using hc
        rw [hb, if_neg (by simp), if_pos ⟨by omega, by omega, hc⟩]
        have hw : wrap64 (wrap64 (o + 1) - (l.length : Int)) = o + 1 - (l.length : Int) := by unfold wrap64; omega
        rw [hw]
        have hm : (mx (o + 1 - (l.length : Int)) 0).toNat = (o + 1).toNat - l.length := by unfold mx; split <;> omega
        have hm0 : 0 ≤ mx (o + 1 - (l.length : Int)) 0 := by unfold mx; split <;> omega
        have hf : slices_Clone_int_int.f l = some l := by unfold slices_Clone_int_int.f; rw [if_pos (by omega)]
        rw [hf]
        simp only [Option.bind_some]
        rw [if_pos hm0, hm, if_pos (by omega)]
        have hL := padL_length l o (by omega)
        have hp : l ++ List.replicate ((o + 1).toNat - l.length) 0 = padL l o := rfl
        rw [hp, if_pos (by omega), if_pos (by omega)]
        unfold vv_Plain.f
        rw [if_pos (by rw [List.length_set]; omega)]
        rfl
      · have hb : cntB n = false := by rw [Bool.eq_false_iff]; intro h; exact hc (by simpa [cntB] using h)
        rw [hb, if_pos (by simp), if_neg (by omega)]
theorem pannierref08_With.loop (o n : Int) (h0 : 0 ≤ o) (h6 : o ≤ 6) (d : Nat) : ∀ (k : Nat) (x : List Int), x.length < 17592186044416 → (o + 1).toNat - x.length = d → d < k → pannierref08_With.l0 k o n x = some (plainL ((padL x o).set o.toNat n), 0) := by
  induction d with
  | zero =>
    intro k x hx hd hk
    obtain ⟨k, rfl⟩ := succ_of hk
    simp only [pannierref08_With.l0]
    have hp : padL x o = x := by unfold padL; rw [hd]; simp
    rw [if_neg (by omega), if_pos h0, if_pos (by omega), hp]
    unfold pannierref08_Plain.f
    rw [if_pos (by rw [List.length_set]; exact hx)]
    rfl
  | succ d ih =>
    intro k x hx hd hk
    obtain ⟨k, rfl⟩ := succ_of hk
    have h := ih k (x ++ [0]) (by rw [List.length_append, List.length_singleton]; omega) (by rw [List.length_append, List.length_singleton]; omega) (by omega)
    have hp : padL (x ++ [0]) o = padL x o := by
      unfold padL
      rw [List.length_append, List.length_singleton, List.append_assoc, hd, show (o + 1).toNat - (x.length + 1) = d from by omega]
      rfl
    rw [hp] at h
    simp only [pannierref08_With.l0]
    rw [if_pos (by omega), if_pos (by omega)]
    exact h
theorem pannierref08_With.at1 {l : List Int} {o n : Int} (hl : l.length * 8 ≤ 140737488351232) (k : Nat) (hk : 10 ≤ k) : pannierref08_With.f (k + 1) l o n = some (withZ l o n) := by
  unfold pannierref08_With.f withZ
  by_cases h0 : o < 0
  · rw [if_pos h0, if_neg (by omega)]; simp only [pannierref08_With.j0, if_true]
  · rw [if_neg h0]
    by_cases h7 : o > 6
    · rw [if_pos h7, if_neg (by omega)]; simp only [pannierref08_With.j0, if_true]
    · rw [if_neg h7]
      by_cases h1 : n < 0
      · rw [if_pos h1, if_neg (by omega)]; simp only [pannierref08_With.j0, if_true]
      · rw [if_neg h1]
        by_cases h2 : n > 2147483647
        · rw [decide_eq_true h2, if_neg (by omega)]; simp only [pannierref08_With.j0, if_true]
        · rw [decide_eq_false h2, if_pos (by omega)]
          simp only [pannierref08_With.j0, Option.bind_some, List.length_nil, Nat.zero_add, List.nil_append]
          rw [if_neg (by simp), if_pos (by omega)]
          exact pannierref08_With.loop o n (by omega) (by omega) _ k l (by omega) rfl (by omega)
theorem withZ_length {l : List Int} {o n : Int} (hl : l.length * 8 ≤ 140737488351232) : (withZ l o n).1.length < 17592186044416 := by
  unfold withZ
  split
  · have := plainL_length ((padL l o).set o.toNat n)
    rw [List.length_set, padL_length l o (by omega)] at this
    show (plainL _).length < _
    omega
  · simp
theorem pannierref08_Of.all (l : List Int) (o : Int) : pannierref08_Of.f l o = some (ofZ l o) := vv_Of.all l o
theorem VvAsks_pure (l : List Int) (o n d0 d1 : Int) (y0 : l.length * 8 ≤ 140737488351232) : ∃ k, pannierlaw08_VvAsks.f k l o n d0 d1 = some true := by
  have h0 : l.length < 17592186044416 := by omega
  obtain ⟨K1, e1⟩ := pannierref08_May.ev h0
  obtain ⟨K2, e2⟩ := pannierlaw08_Same.ev (b := l) h0
  obtain ⟨K3, e3⟩ := pannierlaw08_Same.ev (b := plainL l) (show (plainL l).length < _ by have := plainL_length l; omega)
  obtain ⟨K4, e4⟩ := pannierlaw08_Same.ev (b := (withZ l o n).1) (withZ_length (l := l) (o := o) (n := n) y0)
  obtain ⟨k, hk⟩ : ∃ k, k = K1 + K2 + K3 + K4 + 10 := ⟨_, rfl⟩
  refine ⟨k + 1, ?_⟩
  have p1 : vv_Plain.f l = some (plainL l) := by unfold vv_Plain.f; rw [if_pos h0]
  have p2 : pannierref08_Plain.f l = some (plainL l) := by unfold pannierref08_Plain.f; rw [if_pos h0]
  unfold pannierlaw08_VvAsks.f
  simp only [Option.bind_some, List.nil_append, List.length_nil, Nat.zero_add, if_pos h0, vv_With.at1 y0 k, pannierref08_With.at1 y0 k (show 10 ≤ k by omega), pannierlaw08_lives.f, if_true, vv_May.f, e1 _ (show K1 ≤ k + 1 by omega), beq_self_eq_true, vv_Of.all, pannierref08_Of.all, p1, p2, e3 _ (show K3 ≤ k + 1 by omega), e4 _ (show K4 ≤ k + 1 by omega), e2 _ (show K2 ≤ k + 1 by omega), decide_true, vv_Has.tot, pannierref08_Has.tot]
theorem pannierlaw08_VvAsks.walked (w : World) (A0 : Option Addr) (c0 : Nat) (l0 : List Int) (hr0 : Kd.C (Kd.int .i64) w A0 l0.length l0) (hc0 : l0.length ≤ c0) (_ : ∀ x ∈ l0, (Lit.int .i64 x).wf = true) (y0 : l0.length * 8 ≤ 140737488351232)
    (o : Int) (_ : (Lit.int .i64 o).wf = true) (n : Int) (_ : (Lit.int .i64 n).wf = true) (d0 d1 : Int) (_ : (Lit.int .i64 d0).wf = true) (_ : (Lit.int .i64 d1).wf = true) :
    Calls Try.prog 7 #[.slice A0 l0.length c0, .int .i64 o, .int .i64 n, .agg #[.int .i64 d0, .int .i64 d1]] w fun e w' => e = .returned (.bool true) ∧ Below w.heap.size w w' := by
  obtain ⟨k, h⟩ := VvAsks_pure l0 o n d0 d1 y0
  exact pannierlaw08_VvAsks.calls k A0 c0 l0 o n d0 d1 true w hr0 hc0 h ⟨rfl⟩
end Go.Proofs.Ytnmjhagmobcdkaa.P
