/- Contracts: a call of the Go function named below returns what the Lean function of that name says, in a world that keeps all that lay before; made by this session over the printer of the kit. -/
import Derived.Test.YtnmjhagmobcdkaaP0
import Derived.Test.YtnmjhagmobcdkaaP25
namespace Go.Proofs.Ytnmjhagmobcdkaa.P
open Go.RowKit Go.Proofs.YtnmjhagmobcdkaaW.PrintWords Go.Proofs.YtnmjhagmobcdkaaW.PrintLast Go.Proofs.YtnmjhagmobcdkaaW.PrintMore
attribute [local go_sem] max2_int min2_int max_two min_two max_three min_three max_four min_four   -- for this text's walks alone
set_option linter.unusedVariables false
set_option linter.unusedSimpArgs false

/-! ### vv_Dots: function 26 (by hand) -/
set_option maxHeartbeats 1000000 in
set_option maxRecDepth 100000 in
theorem vv_Dots.calls (A1 : Option Addr) (c1 : Nat) (l1 : List Int) (w : World) (hr1 : Kd.C (Kd.int .i64) w A1 l1.length l1) (hc1 : l1.length ≤ c1) (hl1 : l1.length < 17592186044416) :
    Calls Try.prog 26 #[.slice A1 l1.length c1] w (BtwPost [] l1 w) := by
  have H := Aside0.mk (vv_Between.calls none 0 [] A1 c1 l1 w (Kd.C_nil _ _) (Nat.le_refl _) hr1 hc1 (by simp) hl1)
  clear hr1 hc1 hl1
  go_enter Try.func26, Try.ntmps26
  go_wp2_with fail
  refine H.out.mono ?_
  rintro e w1 ⟨bx, bz, A0, A1, c0, c1, rfl, h⟩
  have HH := Aside0.mk h
  clear h H
  go_wp2
  go_ret
  exact ⟨bx, bz, A0, A1, c0, c1, rfl, HH.out⟩

end Go.Proofs.Ytnmjhagmobcdkaa.P
