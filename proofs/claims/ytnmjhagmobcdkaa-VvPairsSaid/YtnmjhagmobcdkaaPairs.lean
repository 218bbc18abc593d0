/- The law VvPairs: Merge, Meet, Below and Compare of any two lists are the reference's. -/
import Derived.Test.YtnmjhagmobcdkaaTot
import Derived.Test.YtnmjhagmobcdkaaP3
namespace Go.Proofs.Ytnmjhagmobcdkaa.P
open Go.RowKit Go.Proofs.YtnmjhagmobcdkaaW.PrintWords Go.Proofs.YtnmjhagmobcdkaaW.PrintLast Go.Proofs.YtnmjhagmobcdkaaW.PrintMore
theorem VvPairs_pure (l0 l1 : List Int) (y0 : l0.length * 8 ≤ 140737488351232) (y1 : l1.length * 8 ≤ 140737488351232) : ∃ k, pannierlaw08_VvPairs.f k l0 l1 = some true := by
  have h0 : l0.length < 17592186044416 := by omega
  have h1 : l1.length < 17592186044416 := by omega
  obtain ⟨K1, e1⟩ := pannierref08_Merge.ev h0 h1
  obtain ⟨K2, e2⟩ := pannierref08_Meet.ev h0 h1
  obtain ⟨K3, e3⟩ := vv_Below.ev h0 h1
  obtain ⟨K4, e4⟩ := pannierref08_Below.ev h0 h1
  obtain ⟨K5, e5⟩ := vv_Compare.ev h0 h1
  obtain ⟨K6, e6⟩ := pannierref08_Compare.ev h0 h1
  obtain ⟨K7, e7⟩ := pannierlaw08_Same.ev (b := l0) h0
  obtain ⟨K8, e8⟩ := pannierlaw08_Same.ev (b := l1) h1
  obtain ⟨K9, e9⟩ := pannierlaw08_Same.ev (b := plainL (zipL mx l0 l1)) (merge_length mx h0 h1)
  obtain ⟨KA, eA⟩ := pannierlaw08_Same.ev (b := plainL (zipL mn l0 l1)) (merge_length mn h0 h1)
  obtain ⟨k, hk⟩ : ∃ k, k = K1 + K2 + K3 + K4 + K5 + K6 + K7 + K8 + K9 + KA := ⟨_, rfl⟩
  refine ⟨k, ?_⟩
  unfold pannierlaw08_VvPairs.f
  simp only [Option.bind_some, List.nil_append, List.length_nil, Nat.zero_add, if_pos h0, if_pos h1, pannierlaw08_lives.f, if_true, vv_Merge.tot h0 h1, vv_Meet.tot h0 h1, e1 _ (show K1 ≤ k by omega), e2 _ (show K2 ≤ k by omega), e3 _ (show K3 ≤ k by omega), e4 _ (show K4 ≤ k by omega), e5 _ (show K5 ≤ k by omega), e6 _ (show K6 ≤ k by omega), e7 _ (show K7 ≤ k by omega), e8 _ (show K8 ≤ k by omega), e9 _ (show K9 ≤ k by omega), eA _ (show KA ≤ k by omega), decide_true, beq_self_eq_true]
theorem pannierlaw08_VvPairs.walked (w : World) (A0 : Option Addr) (c0 : Nat) (l0 : List Int) (hr0 : Kd.C (Kd.int .i64) w A0 l0.length l0) (hc0 : l0.length ≤ c0) (_ : ∀ x ∈ l0, (Lit.int .i64 x).wf = true) (y0 : l0.length * 8 ≤ 140737488351232)
    (A1 : Option Addr) (c1 : Nat) (l1 : List Int) (hr1 : Kd.C (Kd.int .i64) w A1 l1.length l1) (hc1 : l1.length ≤ c1) (_ : ∀ x ∈ l1, (Lit.int .i64 x).wf = true) (y1 : l1.length * 8 ≤ 140737488351232) :
    Calls Try.prog 3 #[.slice A0 l0.length c0, .slice A1 l1.length c1] w fun e w' => e = .returned (.bool true) ∧ Below w.heap.size w w' := by
  obtain ⟨k, h⟩ := VvPairs_pure l0 l1 y0 y1
  exact pannierlaw08_VvPairs.calls k A0 c0 l0 A1 c1 l1 true w hr0 hc0 hr1 hc1 h
end Go.Proofs.Ytnmjhagmobcdkaa.P
