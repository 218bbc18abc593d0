/- Contracts: a call of the Go function named below returns what the Lean function of that name says, in a world that keeps all that lay before; made by this session over the printer of the kit. -/
import Derived.Test.YtnmjhagmobcdkaaP0
import Derived.Test.YtnmjhagmobcdkaaP11
import Derived.Test.YtnmjhagmobcdkaaP17
import Derived.Test.YtnmjhagmobcdkaaP21
import Derived.Test.YtnmjhagmobcdkaaP25
import Derived.Test.YtnmjhagmobcdkaaP26
import Derived.WalkSpells
namespace Go.Proofs.Ytnmjhagmobcdkaa.P
open Go.RowKit Go.Proofs.YtnmjhagmobcdkaaW.PrintWords Go.Proofs.YtnmjhagmobcdkaaW.PrintLast Go.Proofs.YtnmjhagmobcdkaaW.PrintMore
attribute [local go_sem] max2_int min2_int max_two min_two max_three min_three max_four min_four   -- for this text's walks alone
set_option linter.unusedVariables false
set_option linter.unusedSimpArgs false

/-! ### pannierlaw08_lives: function 9 (by hand) -/
-- import Derived.WalkSpells
-- info3
theorem C_lit (W : World) (e : Nat) (xs : List Int) (h : xs.length ≤ 100) : Kd.C (Kd.int .i64) (W.alloc (.cells (nums .i64 xs).toArray e)) (some ⟨W.heap.size, 0, none⟩) xs.length xs := by
  obtain ⟨A, c, he, hr⟩ := own_reads (own_lit W W.heap.size e .i64 xs (Nat.le_refl _) (by omega))
  have h2 := Kd.C_of_reads (d := (0 : Int)) (h1 := fun _ => rfl) hr
  injection he with h3
  rw [h3]
  exact h2
theorem neq_nilFunc (f : Fn) (a b : Array Value) (W : World) : (binOp .neq 38 (.func f a b) .nilFunc).run Try.prog W = .ok (.bool true) W := by
  have h : ∀ d : Nat, (Op.equalIn (d + 1) 38 (.func f a b) .nilFunc).run Try.prog W = .ok false W := fun d => by
    simp [Op.equalIn, run_underlying Try.underlying38]
  simp only [binOp]
  simp [Op.equal, Op.maxDepth, h 9999]
def pannierlaw08_lives.f : Option Bool := some true
set_option maxHeartbeats 4000000 in
set_option maxRecDepth 100000 in
theorem pannierlaw08_lives.calls (r : Bool) (w : World) (h : pannierlaw08_lives.f = some r) :
    Calls Try.prog 9 #[] w fun e w' => e = .returned (.bool r) ∧ Below w.heap.size w w' := by
  obtain rfl : true = r := by unfold pannierlaw08_lives.f at h; exact Option.some.inj h
  clear h
  have HB := Aside0.mk (Below.refl w.heap.size w)
  have hnf := neq_nilFunc
  go_enter Try.func9, Try.ntmps9
  go_wp2_with fail
  refine (vv_Merge.calls _ _ [1, 0, 2] _ _ [0, 3] [1, 3, 2] _ (Kd.C_alloc (C_lit _ 3 [1, 0, 2] (by decide)) _) (Nat.le_refl _) ?m1 (Nat.le_refl _) (by decide)).mono ?_
  case m1 => have h_ := C_lit (w.alloc (.cells #[.int .i64 1, .int .i64 0, .int .i64 2] 3)) 3 [0, 3] (by decide); rw [World.size_alloc] at h_; exact h_
  rintro e w1 ⟨v1, rfl, ho, hb⟩
  have HO := Aside0.mk ho
  have HB1 := Aside0.mk (below_step (below_alloc (below_alloc HB.out _) _) hb)
  clear ho hb
  obtain ⟨inner, hown⟩ := Kd.R_own HO.out
  obtain ⟨g, c, eA, _, _⟩ := hown.form (by decide)
  clear hown
  subst eA
  have HC := Aside0.mk (Kd.R_reads' HO.out).2.2
  have HL := Aside0.mk (Kd.R_reads' HO.out).2.1
  obtain ⟨ad, e0, hx0⟩ := Kd.at_int HC.out 0 (by decide) (by decide)
  obtain rfl := Option.some.inj e0
  obtain ⟨ad1, e1, hx1⟩ := Kd.at_int HC.out 1 (by decide) (by decide)
  obtain rfl := Option.some.inj e1
  obtain ⟨ad2, e2, hx2⟩ := Kd.at_int HC.out 2 (by decide) (by decide)
  obtain rfl := Option.some.inj e2
  clear e0 e1 e2
  have h0 : w1.cell? ⟨g, 0, none⟩ = some (.int .i64 1) := by have h_ := hx0; rw [add_plain] at h_; exact h_
  have h1 : w1.cell? ⟨g, 1, none⟩ = some (.int .i64 3) := by have h_ := hx1; rw [add_plain] at h_; exact h_
  have h2 : w1.cell? ⟨g, 2, none⟩ = some (.int .i64 2) := by have h_ := hx2; rw [add_plain] at h_; exact h_
  clear hx0 hx1 hx2 HO
  go_wp2_with fail
  refine (vv_Compare.calls 20 _ _ [1, 0, 2] _ _ [0, 3] 2 _ (Kd.C_alloc (C_lit _ 3 [1, 0, 2] (by decide)) _) (Nat.le_refl _) ?m2 (Nat.le_refl _) (by decide +kernel)).mono ?_
  case m2 => have h_ := C_lit (w1.alloc (.cells #[.int .i64 1, .int .i64 0, .int .i64 2] 3)) 3 [0, 3] (by decide); rw [World.size_alloc] at h_; exact h_
  rintro e w2 ⟨rfl, hb⟩
  have HB2 := Aside0.mk (below_step (below_alloc (below_alloc HB1.out _) _) hb)
  have HC2 := Aside0.mk (Kd.C_below (Kd.C_alloc (Kd.C_alloc HC.out _) _) hb)
  clear hb HB HB1 HC h0 h1 h2
  go_wp2_with fail
  refine (vv_Has.calls _ _ [1, 3, 2] 1 3 true _ HC2.out HL.out (by decide)).mono ?_
  rintro e w3 ⟨rfl, hb⟩
  have HB3 := Aside0.mk (below_step HB2.out hb)
  have HC3 := Aside0.mk (Kd.C_below HC2.out hb)
  clear hb HB2 HC2
  go_wp2_with fail
  refine (vv_Has.calls _ _ [1, 3, 2] 1 4 false _ HC3.out HL.out (by decide)).mono ?_
  rintro e w4 ⟨rfl, hb⟩
  have HB4 := Aside0.mk (below_step HB3.out hb)
  have HC4 := Aside0.mk (Kd.C_below HC3.out hb)
  clear hb HB3 HC3
  go_wp2_with fail
  refine (vv_Dots.calls _ _ [1, 3, 2] _ HC4.out HL.out (by decide)).mono ?_
  rintro e w5 ⟨bx, bz, A0, A1, c0, c1, rfl, -, -, -, -, hb⟩
  have HB5 := Aside0.mk (below_step HB4.out hb)
  have HC5 := Aside0.mk (Kd.C_below HC4.out hb)
  clear hb HB4 HC4

  go_wp2_with fail

  refine (vv_Between.calls _ _ [] _ _ [1, 3, 2] _ (Kd.C_nil _ _) (Nat.le_refl _) HC5.out HL.out (by decide) (by decide)).mono ?_
  rintro e w6 ⟨bx2, bz2, A2, A3, c2, c3, rfl, -, -, -, -, hb⟩
  have HB6 := Aside0.mk (below_step HB5.out hb)
  clear hb HB5 HC5
  go_wp2
  go_ret
  exact ⟨rfl, HB6.out⟩

end Go.Proofs.Ytnmjhagmobcdkaa.P
