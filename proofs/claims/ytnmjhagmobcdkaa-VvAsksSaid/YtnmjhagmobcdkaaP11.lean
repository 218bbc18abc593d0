/- Contracts: a call of the Go function named below returns what the Lean function of that name says, in a world that keeps all that lay before; made by this session over the printer of the kit. -/
import Derived.Test.YtnmjhagmobcdkaaP0
import Derived.Test.YtnmjhagmobcdkaaP20
import Derived.Test.YtnmjhagmobcdkaaP34
namespace Go.Proofs.Ytnmjhagmobcdkaa.P
open Go.RowKit Go.Proofs.YtnmjhagmobcdkaaW.PrintWords Go.Proofs.YtnmjhagmobcdkaaW.PrintLast Go.Proofs.YtnmjhagmobcdkaaW.PrintMore
attribute [local go_sem] max2_int min2_int max_two min_two max_three min_three max_four min_four   -- for this text's walks alone
set_option linter.unusedVariables false
set_option linter.unusedSimpArgs false

/-! ### vv_Merge: function 11 (by hand) -/
def vv_Merge.f (l0 : List Int) (l1 : List Int) : Option (List Int) := if l0.length < 17592186044416 ∧ l1.length < 17592186044416 then some (plainL (zipL mx l0 l1)) else none
set_option maxHeartbeats 1000000 in
set_option maxRecDepth 100000 in
theorem vv_Merge.calls (A0 : Option Addr) (c0 : Nat) (l0 : List Int) (A1 : Option Addr) (c1 : Nat) (l1 : List Int) (r : List Int) (w : World) (hr0 : Kd.C (Kd.int .i64) w A0 l0.length l0) (hc0 : l0.length ≤ c0) (hr1 : Kd.C (Kd.int .i64) w A1 l1.length l1) (hc1 : l1.length ≤ c1) (h : vv_Merge.f l0 l1 = some r) :
    Calls Try.prog 11 #[.slice A0 l0.length c0, .slice A1 l1.length c1] w fun e w' => ∃ v0_ : Value, e = .returned (v0_) ∧ Kd.R (Kd.int .i64) 3 w' w.heap.size (fun _ => True) v0_ r ∧ Below w.heap.size w w' := by
  have HC := Aside0.mk (And.intro hc0 hc1)
  have HR := Aside0.mk (And.intro hr0 hr1)
  clear hr0 hc0 hr1 hc1
  have HL : Aside0 (l0.length < 17592186044416 ∧ l1.length < 17592186044416) := ⟨by
    unfold vv_Merge.f at h
    by_cases c : l0.length < 17592186044416 ∧ l1.length < 17592186044416
    · exact c
    · rw [if_neg c] at h; exact absurd h (by simp)⟩
  have HE : Aside0 (plainL (zipL mx l0 l1) = r) := ⟨by
    unfold vv_Merge.f at h
    rw [if_pos HL.out] at h
    exact Option.some.inj h⟩
  clear h
  go_enter Try.func11, Try.ntmps11
  go_wp2_with fail
  refine (vv_each.calls_Merge _ _ l0 _ _ l1 _ HR.out.1 HC.out.1 HR.out.2 HC.out.2 HL.out.1 HL.out.2).mono ?_
  rintro e w' ⟨v1, rfl, ho, hb⟩
  have HO := Aside0.mk ho
  have HB := Aside0.mk hb
  clear ho hb
  go_wp2
  go_ret
  exact ⟨_, rfl, by rw [← HE.out]; exact HO.out, HB.out⟩

end Go.Proofs.Ytnmjhagmobcdkaa.P
