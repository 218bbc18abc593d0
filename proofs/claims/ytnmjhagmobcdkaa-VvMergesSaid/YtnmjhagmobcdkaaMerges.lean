/- The law VvMerges: what Merge has, one of the two has; what Meet has, both. -/
import Derived.Test.YtnmjhagmobcdkaaLat
import Derived.Test.YtnmjhagmobcdkaaP5
namespace Go.Proofs.Ytnmjhagmobcdkaa.P
open Go.RowKit Go.Proofs.YtnmjhagmobcdkaaW.PrintWords Go.Proofs.YtnmjhagmobcdkaaW.PrintLast Go.Proofs.YtnmjhagmobcdkaaW.PrintMore
theorem VvMerges_pure (l0 l1 : List Int) (o s : Int) (y0 : l0.length * 8 ≤ 140737488351232) (y1 : l1.length * 8 ≤ 140737488351232) : ∃ k, pannierlaw08_VvMerges.f k l0 l1 o s = some true := by
  have h0 : l0.length < 17592186044416 := by omega
  have h1 : l1.length < 17592186044416 := by omega
  obtain ⟨K1, e1⟩ := pannierref08_May.ev h0
  obtain ⟨K2, e2⟩ := pannierref08_May.ev h1
  refine ⟨K1 + K2 + 1, ?_⟩
  have hm := has_merge l0 l1 o s
  have hn := has_meet l0 l1 o s
  unfold mergeL at hm
  unfold meetL at hn
  unfold pannierlaw08_VvMerges.f
  simp only [e1 (K1 + K2 + 1) (by omega), e2 (K1 + K2 + 1) (by omega), Option.bind_some, pannierlaw08_VvMerges.j0, pannierlaw08_lives.f, if_true, vv_Merge.tot h0 h1, vv_Meet.tot h0 h1, vv_Has.tot, hm, hn]
  cases mayB l0 <;> cases mayB l1 <;> cases hasB l0 o s <;> cases hasB l1 o s <;> rfl
theorem pannierlaw08_VvMerges.walked (w : World) (A0 : Option Addr) (c0 : Nat) (l0 : List Int) (hr0 : Kd.C (Kd.int .i64) w A0 l0.length l0) (hc0 : l0.length ≤ c0) (_ : ∀ x ∈ l0, (Lit.int .i64 x).wf = true) (y0 : l0.length * 8 ≤ 140737488351232)
    (A1 : Option Addr) (c1 : Nat) (l1 : List Int) (hr1 : Kd.C (Kd.int .i64) w A1 l1.length l1) (hc1 : l1.length ≤ c1) (_ : ∀ x ∈ l1, (Lit.int .i64 x).wf = true) (y1 : l1.length * 8 ≤ 140737488351232) (o s : Int) (_ : (Lit.int .i64 o).wf = true) (_ : (Lit.int .i64 s).wf = true) :
    Calls Try.prog 5 #[.slice A0 l0.length c0, .slice A1 l1.length c1, .agg #[.int .i64 o, .int .i64 s]] w fun e w' => e = .returned (.bool true) ∧ Below w.heap.size w w' := by
  obtain ⟨k, h⟩ := VvMerges_pure l0 l1 o s y0 y1
  exact pannierlaw08_VvMerges.calls k A0 c0 l0 A1 c1 l1 o s true w hr0 hc0 hr1 hc1 h
end Go.Proofs.Ytnmjhagmobcdkaa.P
