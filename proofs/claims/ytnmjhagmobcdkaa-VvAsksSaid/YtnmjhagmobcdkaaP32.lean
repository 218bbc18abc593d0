/- Contracts: a call of the Go function named below returns what the Lean function of that name says, in a world that keeps all that lay before; made by this session over the printer of the kit. -/
import Derived.Test.YtnmjhagmobcdkaaP0
import Derived.Test.YtnmjhagmobcdkaaP20
import Derived.WalkSpells
namespace Go.Proofs.Ytnmjhagmobcdkaa.P
open Go.RowKit Go.Proofs.YtnmjhagmobcdkaaW.PrintWords Go.Proofs.YtnmjhagmobcdkaaW.PrintLast Go.Proofs.YtnmjhagmobcdkaaW.PrintMore
attribute [local go_sem] max2_int min2_int max_two min_two max_three min_three max_four min_four   -- for this text's walks alone
set_option linter.unusedVariables false
set_option linter.unusedSimpArgs false

/-! ### pannierref08_Plain: function 32 (by hand) -/
-- import Derived.WalkSpells
-- info3
def pannierref08_Plain.f (l0 : List Int) : Option (List Int) := if l0.length < 17592186044416 then some (plainL l0) else none
set_option maxHeartbeats 2000000 in
set_option maxRecDepth 100000 in
theorem pannierref08_Plain.calls (A0 : Option Addr) (c0 : Nat) (l0 : List Int) (r : List Int) (w : World) (hr0 : Kd.C (Kd.int .i64) w A0 l0.length l0) (hc0 : l0.length ≤ c0) (h : pannierref08_Plain.f l0 = some r) :
    Calls Try.prog 32 #[.slice A0 l0.length c0] w fun e w' => ∃ v0_ : Value, e = .returned (v0_) ∧ Kd.R (Kd.int .i64) 3 w' w.heap.size (fun _ => True) v0_ r ∧ Below w.heap.size w w' := by
  have HR0 := Aside0.mk hr0
  have HC0 := Aside0.mk hc0
  clear hr0 hc0
  have HB := Aside0.mk (Below.refl w.heap.size w)
  have LM : Aside0 (l0.length < 17592186044416) := ⟨by
    unfold pannierref08_Plain.f at h
    by_cases c : l0.length < 17592186044416
    · exact c
    · rw [if_neg c] at h; exact absurd h (by simp)⟩
  have HE : Aside0 (plainL l0 = r) := ⟨by
    unfold pannierref08_Plain.f at h
    rw [if_pos LM.out] at h
    exact Option.some.inj h⟩
  clear h
  go_enter Try.func32, Try.ntmps32
  go_wp2
  go_loopg [3] l0.length (fun kq v3 w' => ∃ x : Int, v3 = .int .i64 x ∧ Aside0 (x = (kq : Int)) ∧ Aside0 (kq ≤ l0.length) ∧ Aside0 (plainN l0 kq = plainN l0 l0.length) ∧ Aside0 (w' = w))
  case atStart => exact ⟨_, rfl, ⟨rfl⟩, ⟨Nat.le_refl _⟩, ⟨rfl⟩, ⟨rfl⟩⟩
  case round =>
    obtain ⟨x, rfl, HX, HK, HP, HW⟩ := hrel
    obtain rfl := HW.out
    clear HW
    cases gk with
    | zero =>
      obtain rfl : x = 0 := by have := HX.out; omega
      have hc : ((0 : Int) ≤ (c0 : Int)) = True := eq_true (by omega)
      have HF : Aside0 (r = []) := ⟨by rw [← HE.out, plainL, ← HP.out]; rfl⟩
      go_wp2_with (first
        | ((with_reducible refine gate_dst (N := 18) rfl ?_); refine Kd.R_lit (Kd.int .i64) _ 3 ?hg (N := 18) ?hd (xs := ([] : List Int)) (inner := []) (ok := fun _ => True) (okp := fun _ => True) ?hr ?hp (fun _ hk => hk) trivial (Below.refl _ _) (Nat.le_refl _) (by simp) ?_; (case hd => rfl); (case hg => rfl); (case hr => first | (go_simp; done) | (go_simp; rfl)); (case hp => exact (Reps.none _ _)); intro v1 w1 ho1 hb hg_ hnew_; clear hg_ hnew_; have HO1 := Aside0.mk ho1; have HB1 := Aside0.mk hb; clear HB hb ho1)
        | ((with_reducible refine gate_builtin (b := .append) (xs := #[.tmp 18, .tmp 21]) rfl ?_); at_builtin; refine Kd.R_append_rows (Kd.int .i64) (w0 := wr) wr.heap.size rfl (.tmp 18) (.tmp 21) 22 3 (.int .i64 0) 8 rfl Try.underlying22 info3 rfl (by decide) (by omega) v1 ([] : List Int) ([]) _ _ _ (fun _ => True) (fun _ => False) rfl rfl ?aO ?aR (fun _ _ h => h) (fun _ h => h.elim) ?aF ?aB ?aS ?aL ?_; (case aR => exact ⟨rfl, by simp, fun h => absurd h (by simp)⟩); (case aB => exact HB1.out); (case aF => exact (fun _ _ => trivial)); (case aO => exact HO1.out); (case aS => exact HB1.out.size); (case aL => simp); intro v2 w2 ho hb hg hat; have HO2 := Aside0.mk ho; have HB2 := Aside0.mk hb; clear HB1 HO1 ho hb hg hat))
      go_ret
      exact ⟨_, rfl, by rw [HF.out]; exact HO2.out, HB2.out⟩
    | succ m =>
      have c0b : decide (0 < x) = true := decide_eq_true (by have := HX.out; omega)
      obtain ⟨j, hj⟩ : ∃ j_ : Int, (wrap64 (x - 1)) = j_ := ⟨_, rfl⟩
      have hjw : (IntKind.i64.wrap (x - 1)) = j := (i64_w _).trans hj
      have HJ : Aside0 (j = (m : Int)) := ⟨by rw [← hj]; have := HX.out; have := HK.out; have := LM.out; unfold wrap64; omega⟩
      have c1 : 0 ≤ j := by have := HJ.out; omega
      have c2 : j < (l0.length : Int) := by have := HJ.out; have := HK.out; omega
      obtain ⟨ad, rfl, hcell⟩ := Kd.at_int HR0.out j c1 c2
      have c1b : decide (0 ≤ j) = true := decide_eq_true c1
      have c2b : decide (j < (l0.length : Int)) = true := decide_eq_true c2
      replace c1 := eq_true c1
      replace c2 := eq_true c2
      by_cases hz : rd l0 j = 0
      · have z1 : (rd l0 j == 0) = true := beq_iff_eq.mpr hz
        have HP2 : Aside0 (plainN l0 m = plainN l0 l0.length) := ⟨(plainN_zero (HJ.out ▸ hz)).symm.trans HP.out⟩
        clear hz
        go_wp2
        go_roundg m
        case measure => omega
        case rel => exact ⟨j, rfl, HJ, ⟨by have := HK.out; omega⟩, HP2, ⟨rfl⟩⟩
      · have z1 : (rd l0 j == 0) = false := beq_eq_false_iff_ne.mpr hz
        have HF : Aside0 (r = l0.take x.toNat) := ⟨by rw [← HE.out, plainL, ← HP.out, plainN_some (HJ.out ▸ hz), HX.out, Int.toNat_natCast]⟩
        clear hz
        have hxm : (0 ≤ x) = True := eq_true (by have := HX.out; omega)
        have hxc : (x ≤ (c0 : Int)) = True := eq_true (by have := HX.out; have := HK.out; have := HC0.out; omega)
        have hxx : (x ≤ max x 0) = True := eq_true (by omega)
        have hlen : (l0.take x.toNat).length = x.toNat := by rw [List.length_take]; have := HX.out; have := HK.out; omega
        have HLEN := Aside0.mk hlen
        clear hlen
        go_wp2_with (first
          | ((with_reducible refine gate_dst (N := 18) rfl ?_); refine Kd.R_lit (Kd.int .i64) _ 3 ?hg (N := 18) ?hd (xs := ([] : List Int)) (inner := []) (ok := fun _ => True) (okp := fun _ => True) ?hr ?hp (fun _ hk => hk) trivial (Below.refl _ _) (Nat.le_refl _) (by simp) ?_; (case hd => rfl); (case hg => rfl); (case hr => first | (go_simp; done) | (go_simp; rfl)); (case hp => exact (Reps.none _ _)); intro v1 w1 ho1 hb hg_ hnew_; clear hg_ hnew_; have HO1 := Aside0.mk ho1; have HB1 := Aside0.mk hb; clear HB hb ho1)
          | ((with_reducible refine gate_builtin (b := .append) (xs := #[.tmp 18, .tmp 21]) rfl ?_); at_builtin; refine Kd.R_append_rows (Kd.int .i64) (w0 := wr) wr.heap.size rfl (.tmp 18) (.tmp 21) 22 3 (.int .i64 0) 8 rfl Try.underlying22 info3 rfl (by decide) (by omega) v1 ([] : List Int) (l0.take x.toNat) _ _ _ (fun _ => True) (fun _ => False) rfl rfl ?aO ?aR (fun _ _ h => h) (fun _ h => h.elim) ?aF ?aB ?aS ?aL ?_; (case aR => have h_ := Kd.C_take (Kd.C_below HR0.out HB1.out) (show x.toNat ≤ l0.length by have := HX.out; have := HK.out; omega); rw [HLEN.out] at h_; exact h_); (case aB => exact HB1.out); (case aF => exact (fun _ _ => trivial)); (case aO => exact HO1.out); (case aS => exact HB1.out.size); (case aL => have := HX.out; have := HK.out; have := LM.out; simp; omega); intro v2 w2 ho hb hg hat; have HO2 := Aside0.mk ho; have HB2 := Aside0.mk hb; clear HB1 HO1 ho hb hg hat))
        go_ret
        exact ⟨_, rfl, by rw [HF.out]; exact HO2.out, HB2.out⟩

end Go.Proofs.Ytnmjhagmobcdkaa.P
