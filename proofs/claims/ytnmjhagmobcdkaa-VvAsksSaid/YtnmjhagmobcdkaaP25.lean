/- Contracts: a call of the Go function named below returns what the Lean function of that name says, in a world that keeps all that lay before; made by this session over the printer of the kit. -/
import Derived.Test.YtnmjhagmobcdkaaP0
import Derived.Test.YtnmjhagmobcdkaaP38
import Derived.WalkSpells
namespace Go.Proofs.Ytnmjhagmobcdkaa.P
open Go.RowKit Go.Proofs.YtnmjhagmobcdkaaW.PrintWords Go.Proofs.YtnmjhagmobcdkaaW.PrintLast Go.Proofs.YtnmjhagmobcdkaaW.PrintMore
attribute [local go_sem] max2_int min2_int max_two min_two max_three min_three max_four min_four   -- for this text's walks alone
set_option linter.unusedVariables false
set_option linter.unusedSimpArgs false

/-! ### vv_Between: function 25 (by hand) -/
-- import Derived.WalkSpells
/-- What 'Between' hands back: the iterator over boxes that hold copies of both vectors. -/
def BtwPost (l0 l1 : List Int) (w : World) (e : Ending) (w' : World) : Prop :=
  ∃ (bx bz : Nat) (A0 A1 : Option Addr) (c0 c1 : Nat), e = .returned (.func (.func 39) #[] #[.pointer (some ⟨bz, 0, none⟩), .pointer (some ⟨bx, 0, none⟩)]) ∧
    w'.cell? ⟨bx, 0, none⟩ = some (.slice A0 l0.length c0) ∧ w'.cell? ⟨bz, 0, none⟩ = some (.slice A1 l1.length c1) ∧
    Kd.C (Kd.int .i64) w' A0 l0.length l0 ∧ Kd.C (Kd.int .i64) w' A1 l1.length l1 ∧ Below w.heap.size w w'
set_option maxHeartbeats 1000000 in
set_option maxRecDepth 100000 in
theorem vv_Between.calls (A0 : Option Addr) (c0 : Nat) (l0 : List Int) (A1 : Option Addr) (c1 : Nat) (l1 : List Int) (w : World) (hr0 : Kd.C (Kd.int .i64) w A0 l0.length l0) (hc0 : l0.length ≤ c0) (hr1 : Kd.C (Kd.int .i64) w A1 l1.length l1) (hc1 : l1.length ≤ c1) (hl0 : l0.length < 17592186044416) (hl1 : l1.length < 17592186044416) :
    Calls Try.prog 25 #[.slice A0 l0.length c0, .slice A1 l1.length c1] w (BtwPost l0 l1 w) := by
  have H0 := Aside0.mk (slices_Clone_int_int.calls_n A0 c0 _ l0 w rfl hr0 hc0 hl0)
  have H1 := Aside0.mk (fun (w1 : World) (hb : Below w.heap.size w w1) => slices_Clone_int_int.calls_n A1 c1 _ l1 w1 rfl (Kd.C_below hr1 hb) hc1 hl1)
  clear hr0 hc0 hr1 hc1 hl0 hl1
  go_enter Try.func25, Try.ntmps25
  go_wp2_with fail
  refine H0.out.mono ?_
  rintro e w1 ⟨v1, rfl, ho1, hb1⟩
  have HO1 := Aside0.mk ho1
  have HB1 := Aside0.mk hb1
  clear ho1 hb1
  go_wp2_with fail
  refine (H1.out _ HB1.out).mono ?_
  rintro e w2 ⟨v2, rfl, ho2, hb2⟩
  have HO2 := Aside0.mk ho2
  have HO3 := Aside0.mk (Kd.R_below HO1.out hb2)
  have HB2 := Aside0.mk (below_step HB1.out hb2)
  clear ho2 hb2 HO1 HB1 H0 H1
  obtain ⟨A2, c2, e2⟩ := Kd.R_slice HO2.out
  subst e2
  obtain ⟨A3, c3, e3⟩ := Kd.R_slice HO3.out
  subst e3
  have R2 := Aside0.mk (Kd.R_reads' HO2.out).2.2
  have R3 := Aside0.mk (Kd.R_reads' HO3.out).2.2
  clear HO2 HO3
  go_wp2
  go_ret
  exact ⟨w2.heap.size, w2.heap.size + 1, A3, A2, c3, c2, rfl, by go_simp, by go_simp, Kd.C_alloc (Kd.C_alloc R3.out _) _, Kd.C_alloc (Kd.C_alloc R2.out _) _, below_alloc (below_alloc HB2.out _) _⟩

end Go.Proofs.Ytnmjhagmobcdkaa.P
