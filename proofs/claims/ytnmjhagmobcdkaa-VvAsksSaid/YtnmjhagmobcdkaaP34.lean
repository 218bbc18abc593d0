/- Contracts: a call of the Go function named below returns what the Lean function of that name says, in a world that keeps all that lay before; made by this session over the printer of the kit. -/
import Derived.Test.YtnmjhagmobcdkaaP0
import Derived.Test.YtnmjhagmobcdkaaP20
import Derived.Test.YtnmjhagmobcdkaaP30
import Derived.WalkSpells
namespace Go.Proofs.Ytnmjhagmobcdkaa.P
open Go.RowKit Go.Proofs.YtnmjhagmobcdkaaW.PrintWords Go.Proofs.YtnmjhagmobcdkaaW.PrintLast Go.Proofs.YtnmjhagmobcdkaaW.PrintMore
attribute [local go_sem] max2_int min2_int max_two min_two max_three min_three max_four min_four   -- for this text's walks alone
set_option linter.unusedVariables false
set_option linter.unusedSimpArgs false

/-! ### vv_each: function 34 (by hand) -/
-- import Derived.WalkSpells
-- info3
def upto (op : Int → Int → Int) (a b : List Int) (n : Nat) : List Int := (List.range n).map fun (i : Nat) => op (rd a (i : Int)) (rd b (i : Int))
def zipL (op : Int → Int → Int) (a b : List Int) : List Int := upto op a b (max a.length b.length)
theorem upto_succ (op : Int → Int → Int) (a b : List Int) (n : Nat) : upto op a b (n + 1) = upto op a b n ++ [op (rd a n) (rd b n)] := by simp [upto, List.range_succ]
theorem upto_length (op : Int → Int → Int) (a b : List Int) (n : Nat) : (upto op a b n).length = n := by simp [upto]
theorem zipL_length (op : Int → Int → Int) (a b : List Int) : (zipL op a b).length = max a.length b.length := upto_length _ _ _ _
theorem vv_Of.nat (l : List Int) (i : Int) (h : 0 ≤ i) : vv_Of.f l i = some (rd l i) := by
  unfold vv_Of.f
  rw [if_neg (by omega)]
  by_cases c : i ≥ (l.length : Int)
  · rw [if_pos c]; unfold rd; rw [List.getD_eq_getElem?_getD, List.getElem?_eq_none (by omega)]; rfl
  · rw [if_neg c, if_pos h, if_pos (by omega)]
set_option maxHeartbeats 400000 in
theorem vv_Merge_1.calls (x y : Int) (w : World) : Calls Try.prog 35 #[.int .i64 x, .int .i64 y] w fun e w' => e = .returned (.int .i64 (mx x y)) ∧ w = w' := by
  by_cases h : x < y
  · have h1 : (x < y) = True := eq_true h
    go_enter Try.func35, Try.ntmps35
    go_wp2
    go_ret
    exact ⟨by simp [mx, h], rfl⟩
  · have h1 : (x < y) = False := eq_false h
    go_enter Try.func35, Try.ntmps35
    go_wp2
    go_ret
    exact ⟨by rw [mx, if_neg (by omega)]; rfl, rfl⟩
set_option maxHeartbeats 4000000 in
set_option maxRecDepth 100000 in
theorem vv_each.calls_Merge (A0 : Option Addr) (c0 : Nat) (l0 : List Int) (A1 : Option Addr) (c1 : Nat) (l1 : List Int) (w : World) (hr0 : Kd.C (Kd.int .i64) w A0 l0.length l0) (hc0 : l0.length ≤ c0) (hr1 : Kd.C (Kd.int .i64) w A1 l1.length l1) (hc1 : l1.length ≤ c1) (hl0 : l0.length < 17592186044416) (hl1 : l1.length < 17592186044416) :
    Calls Try.prog 34 #[.slice A0 l0.length c0, .slice A1 l1.length c1, .func (.func 35) #[] #[]] w fun e w' => ∃ v0_ : Value, e = .returned (v0_) ∧ Kd.R (Kd.int .i64) 3 w' w.heap.size (fun _ => True) v0_ (plainL (zipL mx l0 l1)) ∧ Below w.heap.size w w' := by
  have HR0 := Aside0.mk hr0
  have HC0 := Aside0.mk hc0
  clear hr0 hc0
  have HR1 := Aside0.mk hr1
  have HC1 := Aside0.mk hc1
  clear hr1 hc1
  have HL0 := Aside0.mk hl0
  have HL1 := Aside0.mk hl1
  clear hl0 hl1
  have HB := Aside0.mk (Below.refl w.heap.size w)
  obtain ⟨n, hn⟩ : ∃ j_ : Int, (mx (l0.length : Int) (l1.length : Int)) = j_ := ⟨_, rfl⟩
  have hn_ : (if l0.length < l1.length then (l1.length : Int) else (l0.length : Int)) = n := by rw [← hn]; unfold mx; split <;> (rename_i h; first | rw [if_pos (by omega)] | rw [if_neg (by omega)])
  have HN : Aside0 (n = ((max l0.length l1.length : Nat) : Int)) := ⟨by rw [← hn]; unfold mx; split <;> omega⟩
  have HNM : Aside0 (max l0.length l1.length < 17592186044416) := ⟨by have := HL0.out; have := HL1.out; omega⟩
  clear hn
  go_enter Try.func34, Try.ntmps34
  go_wp2
  go_loopg [7, 14] (max l0.length l1.length) (fun kq v7 v14 w' => ∃ x : Int, v14 = .int .i64 x ∧ Aside0 (∃ j : Nat, x = (j : Int) ∧ j + kq = max l0.length l1.length ∧ Kd.R (Kd.int .i64) 3 w' w.heap.size (fun _ => True) v7 (upto mx l0 l1 j)) ∧ Aside0 (Below w.heap.size w w'))
  case atStart => exact ⟨0, rfl, ⟨0, rfl, by omega, Kd.R_nil _ _ _ _ _⟩, HB⟩
  case round =>
    obtain ⟨x, rfl, HJ, HB⟩ := hrel
    cases gk with
    | zero =>
      have c0b : decide (x < n) = false := decide_eq_false (by obtain ⟨j, e, hj, _⟩ := HJ.out; have := HN.out; omega)
      have HR : Aside0 (Kd.R (Kd.int .i64) 3 wr w.heap.size (fun _ => True) u7 (zipL mx l0 l1)) := ⟨by
        obtain ⟨j, e, hj, ho⟩ := HJ.out
        obtain rfl : j = max l0.length l1.length := by omega
        exact ho⟩
      clear HJ
      obtain ⟨A, c, eA⟩ := Kd.R_slice HR.out
      subst eA
      go_wp2_with fail
      refine (vv_Plain.calls _ _ _ (plainL (zipL mx l0 l1)) _ (Kd.R_reads' HR.out).2.2 (Kd.R_reads' HR.out).2.1 (by unfold vv_Plain.f; rw [if_pos (by rw [zipL_length]; exact HNM.out)])).mono ?_
      rintro e w' ⟨v1, rfl, ho, hb⟩
      have HO := Aside0.mk (Kd.R_lower ho HB.out.size)
      have HB2 := Aside0.mk (below_step HB.out hb)
      clear ho hb
      go_wp2
      go_ret
      exact ⟨_, rfl, HO.out, HB2.out⟩
    | succ m =>
      have c0b : decide (x < n) = true := decide_eq_true (by obtain ⟨j, e, hj, _⟩ := HJ.out; have := HN.out; omega)
      have HX : Aside0 (0 ≤ x) := ⟨by obtain ⟨j, e, hj, _⟩ := HJ.out; omega⟩
      have hx1 : IntKind.i64.wrap (x + 1) = x + 1 := by rw [i64_w]; unfold wrap64; obtain ⟨j, e, hj, _⟩ := HJ.out; have := HNM.out; omega
      obtain ⟨j, ej, hj, ho⟩ := HJ.out
      have EJ := Aside0.mk ej
      have EK := Aside0.mk hj
      have HO := Aside0.mk ho
      clear HJ ej hj ho
      go_wp2_with fail
      refine (vv_Of.calls _ _ l0 x (rd l0 x) _ (Kd.C_below HR0.out HB.out) HC0.out (vv_Of.nat _ _ HX.out)).mono ?_
      rintro e w' ⟨rfl, ⟨nd, rfl⟩⟩
      go_wp2_with fail
      refine (vv_Of.calls _ _ l1 x (rd l1 x) _ (Kd.C_drewN (Kd.C_below HR1.out HB.out) _) HC1.out (vv_Of.nat _ _ HX.out)).mono ?_
      rintro e w' ⟨rfl, ⟨nd2, rfl⟩⟩
      go_wp2_with fail
      refine (vv_Merge_1.calls _ _ _).mono ?_
      rintro e w' ⟨rfl, rfl⟩
      go_wp2_with ((with_reducible refine gate_builtin (b := .append) (xs := #[.tmp 17, .tmp 26]) rfl ?_); at_builtin; refine Kd.R_append (Kd.int .i64) (w0 := w) w.heap.size rfl (.tmp 17) (.tmp 26) 22 3 (.int .i64 0) 8 rfl Try.underlying22 info3 rfl (by decide) (by omega) u7 (upto mx l0 l1 j) (mx (rd l0 x) (rd l1 x)) [.int .i64 (mx (rd l0 x) (rd l1 x))] (fun _ => True) (fun _ => False) rfl rfl ?aP (fun _ hk => hk.elim) ?aF ?aO ?aB ?aS ?aL ?_; (case aP => exact rfl); (case aB => exact pw_below_drewN HB.out _); (case aF => exact (fun _ _ => trivial)); (case aO => exact Kd.R_drewN HO.out _); (case aS => exact HB.out.size); (case aL => rw [upto_length]; have := EK.out; have := HNM.out; omega); intro v141 w10 ho hb hg hat; have HO2 := Aside0.mk ho; have HB2 := Aside0.mk hb; clear ho hb hg hat HO HB)
      go_roundg m
      case measure => omega
      case rel => exact ⟨x + 1, rfl, ⟨j + 1, by have := EJ.out; omega, by have := EK.out; omega, by rw [upto_succ, ← EJ.out]; exact HO2.out⟩, HB2⟩
set_option maxHeartbeats 400000 in
theorem vv_Meet_1.calls (x y : Int) (w : World) : Calls Try.prog 37 #[.int .i64 x, .int .i64 y] w fun e w' => e = .returned (.int .i64 (mn x y)) ∧ w = w' := by
  by_cases h : y < x
  · have h1 : (y < x) = True := eq_true h
    go_enter Try.func37, Try.ntmps37
    go_wp2
    go_ret
    exact ⟨by simp [mn, h], rfl⟩
  · have h1 : (y < x) = False := eq_false h
    go_enter Try.func37, Try.ntmps37
    go_wp2
    go_ret
    exact ⟨by rw [mn, if_neg (by omega)]; rfl, rfl⟩
set_option maxHeartbeats 4000000 in
set_option maxRecDepth 100000 in
theorem vv_each.calls_Meet (A0 : Option Addr) (c0 : Nat) (l0 : List Int) (A1 : Option Addr) (c1 : Nat) (l1 : List Int) (w : World) (hr0 : Kd.C (Kd.int .i64) w A0 l0.length l0) (hc0 : l0.length ≤ c0) (hr1 : Kd.C (Kd.int .i64) w A1 l1.length l1) (hc1 : l1.length ≤ c1) (hl0 : l0.length < 17592186044416) (hl1 : l1.length < 17592186044416) :
    Calls Try.prog 34 #[.slice A0 l0.length c0, .slice A1 l1.length c1, .func (.func 37) #[] #[]] w fun e w' => ∃ v0_ : Value, e = .returned (v0_) ∧ Kd.R (Kd.int .i64) 3 w' w.heap.size (fun _ => True) v0_ (plainL (zipL mn l0 l1)) ∧ Below w.heap.size w w' := by
  have HR0 := Aside0.mk hr0
  have HC0 := Aside0.mk hc0
  clear hr0 hc0
  have HR1 := Aside0.mk hr1
  have HC1 := Aside0.mk hc1
  clear hr1 hc1
  have HL0 := Aside0.mk hl0
  have HL1 := Aside0.mk hl1
  clear hl0 hl1
  have HB := Aside0.mk (Below.refl w.heap.size w)
  obtain ⟨n, hn⟩ : ∃ j_ : Int, (mx (l0.length : Int) (l1.length : Int)) = j_ := ⟨_, rfl⟩
  have hn_ : (if l0.length < l1.length then (l1.length : Int) else (l0.length : Int)) = n := by rw [← hn]; unfold mx; split <;> (rename_i h; first | rw [if_pos (by omega)] | rw [if_neg (by omega)])
  have HN : Aside0 (n = ((max l0.length l1.length : Nat) : Int)) := ⟨by rw [← hn]; unfold mx; split <;> omega⟩
  have HNM : Aside0 (max l0.length l1.length < 17592186044416) := ⟨by have := HL0.out; have := HL1.out; omega⟩
  clear hn
  go_enter Try.func34, Try.ntmps34
  go_wp2
  go_loopg [7, 14] (max l0.length l1.length) (fun kq v7 v14 w' => ∃ x : Int, v14 = .int .i64 x ∧ Aside0 (∃ j : Nat, x = (j : Int) ∧ j + kq = max l0.length l1.length ∧ Kd.R (Kd.int .i64) 3 w' w.heap.size (fun _ => True) v7 (upto mn l0 l1 j)) ∧ Aside0 (Below w.heap.size w w'))
  case atStart => exact ⟨0, rfl, ⟨0, rfl, by omega, Kd.R_nil _ _ _ _ _⟩, HB⟩
  case round =>
    obtain ⟨x, rfl, HJ, HB⟩ := hrel
    cases gk with
    | zero =>
      have c0b : decide (x < n) = false := decide_eq_false (by obtain ⟨j, e, hj, _⟩ := HJ.out; have := HN.out; omega)
      have HR : Aside0 (Kd.R (Kd.int .i64) 3 wr w.heap.size (fun _ => True) u7 (zipL mn l0 l1)) := ⟨by
        obtain ⟨j, e, hj, ho⟩ := HJ.out
        obtain rfl : j = max l0.length l1.length := by omega
        exact ho⟩
      clear HJ
      obtain ⟨A, c, eA⟩ := Kd.R_slice HR.out
      subst eA
      go_wp2_with fail
      refine (vv_Plain.calls _ _ _ (plainL (zipL mn l0 l1)) _ (Kd.R_reads' HR.out).2.2 (Kd.R_reads' HR.out).2.1 (by unfold vv_Plain.f; rw [if_pos (by rw [zipL_length]; exact HNM.out)])).mono ?_
      rintro e w' ⟨v1, rfl, ho, hb⟩
      have HO := Aside0.mk (Kd.R_lower ho HB.out.size)
      have HB2 := Aside0.mk (below_step HB.out hb)
      clear ho hb
      go_wp2
      go_ret
      exact ⟨_, rfl, HO.out, HB2.out⟩
    | succ m =>
      have c0b : decide (x < n) = true := decide_eq_true (by obtain ⟨j, e, hj, _⟩ := HJ.out; have := HN.out; omega)
      have HX : Aside0 (0 ≤ x) := ⟨by obtain ⟨j, e, hj, _⟩ := HJ.out; omega⟩
      have hx1 : IntKind.i64.wrap (x + 1) = x + 1 := by rw [i64_w]; unfold wrap64; obtain ⟨j, e, hj, _⟩ := HJ.out; have := HNM.out; omega
      obtain ⟨j, ej, hj, ho⟩ := HJ.out
      have EJ := Aside0.mk ej
      have EK := Aside0.mk hj
      have HO := Aside0.mk ho
      clear HJ ej hj ho
      go_wp2_with fail
      refine (vv_Of.calls _ _ l0 x (rd l0 x) _ (Kd.C_below HR0.out HB.out) HC0.out (vv_Of.nat _ _ HX.out)).mono ?_
      rintro e w' ⟨rfl, ⟨nd, rfl⟩⟩
      go_wp2_with fail
      refine (vv_Of.calls _ _ l1 x (rd l1 x) _ (Kd.C_drewN (Kd.C_below HR1.out HB.out) _) HC1.out (vv_Of.nat _ _ HX.out)).mono ?_
      rintro e w' ⟨rfl, ⟨nd2, rfl⟩⟩
      go_wp2_with fail
      refine (vv_Meet_1.calls _ _ _).mono ?_
      rintro e w' ⟨rfl, rfl⟩
      go_wp2_with ((with_reducible refine gate_builtin (b := .append) (xs := #[.tmp 17, .tmp 26]) rfl ?_); at_builtin; refine Kd.R_append (Kd.int .i64) (w0 := w) w.heap.size rfl (.tmp 17) (.tmp 26) 22 3 (.int .i64 0) 8 rfl Try.underlying22 info3 rfl (by decide) (by omega) u7 (upto mn l0 l1 j) (mn (rd l0 x) (rd l1 x)) [.int .i64 (mn (rd l0 x) (rd l1 x))] (fun _ => True) (fun _ => False) rfl rfl ?aP (fun _ hk => hk.elim) ?aF ?aO ?aB ?aS ?aL ?_; (case aP => exact rfl); (case aB => exact pw_below_drewN HB.out _); (case aF => exact (fun _ _ => trivial)); (case aO => exact Kd.R_drewN HO.out _); (case aS => exact HB.out.size); (case aL => rw [upto_length]; have := EK.out; have := HNM.out; omega); intro v141 w10 ho hb hg hat; have HO2 := Aside0.mk ho; have HB2 := Aside0.mk hb; clear ho hb hg hat HO HB)
      go_roundg m
      case measure => omega
      case rel => exact ⟨x + 1, rfl, ⟨j + 1, by have := EJ.out; omega, by have := EK.out; omega, by rw [upto_succ, ← EJ.out]; exact HO2.out⟩, HB2⟩

end Go.Proofs.Ytnmjhagmobcdkaa.P
