/- Contracts: a call of the Go function named below returns what the Lean function of that name says, in a world that keeps all that lay before; made by this session over the printer of the kit. -/
import Derived.Test.YtnmjhagmobcdkaaP0
import Derived.Test.YtnmjhagmobcdkaaP40
import Derived.WalkSpells
namespace Go.Proofs.Ytnmjhagmobcdkaa.P
open Go.RowKit Go.Proofs.YtnmjhagmobcdkaaW.PrintWords Go.Proofs.YtnmjhagmobcdkaaW.PrintLast Go.Proofs.YtnmjhagmobcdkaaW.PrintMore
attribute [local go_sem] max2_int min2_int max_two min_two max_three min_three max_four min_four   -- for this text's walks alone
set_option linter.unusedVariables false
set_option linter.unusedSimpArgs false

/-! ### vv_May: function 29 (by hand) -/
-- import Derived.WalkSpells
def cntB (n : Int) : Bool := decide (0 ≤ n) && decide (n ≤ 2147483647)
def mayB (l : List Int) : Bool := decide (l.length ≤ 7) && l.all cntB
theorem vv_isCount.some (n : Int) : vv_isCount.f n = some (cntB n) := by
  unfold vv_isCount.f cntB
  by_cases h : n ≥ 0
  · rw [if_pos h, decide_eq_true (show 0 ≤ n from h)]; rfl
  · rw [if_neg h, decide_eq_false (show ¬ 0 ≤ n from h)]; rfl
set_option maxHeartbeats 400000 in
theorem vv_May_1.calls (n : Int) (w : World) : Calls Try.prog 42 #[.int .i64 n] w fun e w' => e = .returned (.bool (!cntB n)) ∧ Drawn0 w w' := by
  go_enter Try.func42, Try.ntmps42
  go_wp2_with fail
  refine (vv_isCount.calls n (cntB n) _ (vv_isCount.some n)).mono ?_
  rintro e w' ⟨rfl, ⟨nd, rfl⟩⟩
  go_wp2
  go_ret
  exact ⟨rfl, ⟨nd, rfl⟩⟩
def IdxPost (b : Bool) (w : World) (e : Ending) (w' : World) : Prop := ∃ r : Int, e = .returned (.int .i64 r) ∧ decide (0 ≤ r) = b ∧ Below w.heap.size w w'
theorem all_at {l : List Int} {j : Nat} (h : j < l.length) (hb : cntB (rd l j) = false) : l.all cntB = false := by
  rw [List.all_eq_false]
  refine ⟨rd l j, ?_, by rw [hb]; simp⟩
  unfold rd
  rw [List.getD_eq_getElem?_getD, Int.toNat_natCast, List.getElem?_eq_getElem h]
  exact List.getElem_mem h
theorem all_of {l : List Int} (h : ∀ j : Nat, j < l.length → cntB (rd l j) = true) : l.all cntB = true := by
  rw [List.all_eq_true]
  intro x hx
  obtain ⟨j, hj, rfl⟩ := List.getElem_of_mem hx
  have := h j hj
  unfold rd at this
  rw [List.getD_eq_getElem?_getD, Int.toNat_natCast, List.getElem?_eq_getElem hj] at this
  exact this
set_option maxHeartbeats 2000000 in
set_option maxRecDepth 100000 in
theorem slices_IndexFunc_int_int.calls_May (A0 : Option Addr) (c0 : Nat) (l0 : List Int) (w : World) (hr0 : Kd.C (Kd.int .i64) w A0 l0.length l0) (hl : l0.length ≤ 7) :
    Calls Try.prog 43 #[.slice A0 l0.length c0, .func (.func 42) #[] #[]] w (IdxPost (!l0.all cntB) w) := by
  have HR0 := Aside0.mk hr0
  have HL := Aside0.mk hl
  clear hr0 hl
  have HB := Aside0.mk (Below.refl w.heap.size w)
  go_enter Try.func43, Try.ntmps43
  go_wp2
  go_loopg [8] l0.length (fun kq v8 w' => ∃ x : Int, v8 = .int .i64 x ∧ Aside0 (∃ j : Nat, x = (j : Int) ∧ j + kq = l0.length ∧ ∀ i : Nat, i < j → cntB (rd l0 i) = true) ∧ Aside0 (Below w.heap.size w w'))
  case atStart => exact ⟨0, rfl, ⟨0, rfl, by omega, fun i hi => absurd hi (by omega)⟩, HB⟩
  case round =>
    obtain ⟨x, rfl, HJ, HB⟩ := hrel
    cases gk with
    | zero =>
      have c0b : decide (x < (l0.length : Int)) = false := decide_eq_false (by obtain ⟨j, e, hj, _⟩ := HJ.out; omega)
      have HA : Aside0 (l0.all cntB = true) := ⟨by
        obtain ⟨j, e, hj, ha⟩ := HJ.out
        exact all_of (fun i hi => ha i (by omega))⟩
      clear HJ
      go_wp2
      go_ret
      exact ⟨-1, rfl, by rw [HA.out]; rfl, HB.out⟩
    | succ m =>
      have c0b : decide (x < (l0.length : Int)) = true := decide_eq_true (by obtain ⟨j, e, hj, _⟩ := HJ.out; omega)
      have hx1 : IntKind.i64.wrap (x + 1) = x + 1 := by rw [i64_w]; unfold wrap64; obtain ⟨j, e, hj, _⟩ := HJ.out; have := HL.out; omega
      have c1 : 0 ≤ x := by obtain ⟨j, e, hj, _⟩ := HJ.out; omega
      have c2 : x < (l0.length : Int) := by obtain ⟨j, e, hj, _⟩ := HJ.out; omega
      obtain ⟨ad, rfl, hcell⟩ := Kd.at_int HR0.out x c1 c2
      replace hcell := (HB.out.cell (World.block_lt_of_cell? w _ hcell)).trans hcell
      replace c1 := eq_true c1
      replace c2 := eq_true c2
      go_wp2_with fail
      refine (vv_May_1.calls _ _).mono ?_
      rintro e w' ⟨rfl, ⟨nd, rfl⟩⟩
      by_cases hb : cntB (rd l0 x) = true
      · have HP : Aside0 (cntB (rd l0 x) = true) := ⟨hb⟩
        go_wp2
        go_roundg m
        case measure => omega
        case rel => exact ⟨x + 1, rfl, ⟨by
          obtain ⟨j, e, hj, ha⟩ := HJ.out
          refine ⟨j + 1, by omega, by omega, fun i hi => ?_⟩
          rcases Nat.lt_or_ge i j with h | h
          · exact ha i h
          · obtain rfl : i = j := by omega
            rw [← e]; exact HP.out⟩, ⟨pw_below_drewN HB.out _⟩⟩
      · have hb : cntB (rd l0 x) = false := by simpa using hb
        have HP : Aside0 (l0.all cntB = false) := ⟨by
          obtain ⟨j, e, hj, ha⟩ := HJ.out
          exact all_at (j := j) (by omega) (by rw [← e]; exact hb)⟩
        have HX : Aside0 (0 ≤ x) := ⟨of_eq_true c1⟩
        go_wp2
        go_ret
        exact ⟨x, rfl, by rw [HP.out, decide_eq_true HX.out]; rfl, pw_below_drewN HB.out _⟩
set_option maxHeartbeats 1000000 in
theorem slices_ContainsFunc_int_int.calls_May (A0 : Option Addr) (c0 : Nat) (l0 : List Int) (w : World) (hr0 : Kd.C (Kd.int .i64) w A0 l0.length l0) (hl : l0.length ≤ 7) :
    Calls Try.prog 41 #[.slice A0 l0.length c0, .func (.func 42) #[] #[]] w fun e w' => e = .returned (.bool (!l0.all cntB)) ∧ Below w.heap.size w w' := by
  have HC := Aside0.mk (slices_IndexFunc_int_int.calls_May A0 c0 l0 w hr0 hl)
  clear hr0 hl
  go_enter Try.func41, Try.ntmps41
  go_wp2_with fail
  refine HC.out.mono ?_
  rintro e w' ⟨r, rfl, hr, hb⟩
  have HR := Aside0.mk hr
  have HB := Aside0.mk hb
  clear hr hb
  go_wp2
  go_ret
  exact ⟨by rw [← HR.out]; rfl, HB.out⟩
def vv_May.f (l0 : List Int) : Option Bool := some (mayB l0)
set_option maxHeartbeats 1000000 in
set_option maxRecDepth 100000 in
theorem vv_May.calls (A0 : Option Addr) (c0 : Nat) (l0 : List Int) (r : Bool) (w : World) (hr0 : Kd.C (Kd.int .i64) w A0 l0.length l0) (hc0 : l0.length ≤ c0) (h : vv_May.f l0 = some r) :
    Calls Try.prog 29 #[.slice A0 l0.length c0] w fun e w' => e = .returned (.bool r) ∧ Below w.heap.size w w' := by
  have HR0 := Aside0.mk hr0
  have HE : Aside0 (mayB l0 = r) := ⟨by unfold vv_May.f at h; exact Option.some.inj h⟩
  clear hr0 hc0 h
  by_cases hl : l0.length ≤ 7
  · have HL := Aside0.mk hl
    have HF : Aside0 (r = l0.all cntB) := ⟨by rw [← HE.out, mayB, decide_eq_true hl]; rfl⟩
    have c0b : decide ((l0.length : Int) ≤ 7) = true := decide_eq_true (by omega)
    have c1b : decide (l0.length ≤ 7) = true := decide_eq_true (by omega)
    clear hl
    go_enter Try.func29, Try.ntmps29
    go_wp2_with fail
    refine (slices_ContainsFunc_int_int.calls_May _ _ l0 _ HR0.out HL.out).mono ?_
    rintro e w' ⟨rfl, hb⟩
    have HB := Aside0.mk hb
    clear hb
    go_wp2
    go_ret
    exact ⟨by rw [HF.out]; simp, HB.out⟩
  · have HF : Aside0 (r = false) := ⟨by rw [← HE.out, mayB, decide_eq_false hl]; rfl⟩
    have c0b : decide ((l0.length : Int) ≤ 7) = false := decide_eq_false (by omega)
    have c1b : decide (l0.length ≤ 7) = false := decide_eq_false (by omega)
    clear hl
    go_enter Try.func29, Try.ntmps29
    go_wp2
    go_ret
    exact ⟨by rw [HF.out]; rfl, Below.refl _ _⟩

end Go.Proofs.Ytnmjhagmobcdkaa.P
