/- Plain facts behind VvDots: what the reference's Between and Count answer. -/
import Derived.Test.YtnmjhagmobcdkaaGl
import Derived.Test.YtnmjhagmobcdkaaPm
namespace Go.Proofs.Ytnmjhagmobcdkaa.P
open Go.RowKit Go.Proofs.YtnmjhagmobcdkaaW.PrintWords Go.Proofs.YtnmjhagmobcdkaaW.PrintLast Go.Proofs.YtnmjhagmobcdkaaW.PrintMore
set_option linter.unusedVariables false
set_option linter.unusedSectionVars false
def toS (d : Int × Int) : S31 := ⟨d.1, d.2⟩
section
variable {a b : List Int} {m : Nat} (hm : m < 8796093022208) (hb : b.length < 17592186044416) (hw : ∀ x ∈ b, x ≤ 9223372036854775807)
include hm hb hw
theorem btw_inner {o : Nat} (ho : o < b.length) (hnext : ∃ k, pannierref08_Between.l0 k a b (m : Int) (((dotsN a b (o + 1)).take m).map toS) ((o + 1 : Nat) : Int) = some (((dots a b).take m).map toS)) :
    ∀ e k : Nat, k + e = cntO a b o → ∃ f, pannierref08_Between.l1 f a b (m : Int) (((dotsP a b o k).take m).map toS) (o : Int) (mx (rd a o) 0 + (k : Int)) = some (((dots a b).take m).map toS) := by
  obtain ⟨f0, hf0⟩ := hnext
  have e2 : wrap64 ((o : Int) + 1) = ((o + 1 : Nat) : Int) := by unfold wrap64; omega
  have hB : 0 ≤ mx (rd a o) 0 := by unfold mx; split <;> omega
  have hE : rd b o ≤ 9223372036854775807 := by
    rw [rd_in ho]; exact hw _ (List.getElem_mem _)
  intro e
  induction e with
  | zero =>
    intro k hk
    refine ⟨f0 + 1, ?_⟩
    simp only [pannierref08_Between.l1]
    have : ¬ mx (rd a o) 0 + (k : Int) < rd b o := by unfold cntO at hk; omega
    rw [if_pos (by omega), if_pos (by omega), if_neg this, e2, show k = cntO a b o by omega, dotsP_all]
    exact hf0
  | succ e ih =>
    intro k hk
    have hlt : mx (rd a o) 0 + (k : Int) < rd b o := by unfold cntO at hk; omega
    by_cases q : (dotsP a b o k).length < m
    · obtain ⟨f, hf⟩ := ih (k + 1) (by omega)
      refine ⟨f + 1, ?_⟩
      have e1 : wrap64 (mx (rd a o) 0 + (k : Int) + 1) = mx (rd a o) 0 + (k : Int) + 1 := by unfold wrap64; omega
      have el : (((dotsP a b o k).take m).map toS).length = (dotsP a b o k).length := by rw [List.length_map, List.length_take]; omega
      have ea : ((dotsP a b o k).take m).map toS ++ [(⟨(o : Int), mx (rd a o) 0 + (k : Int) + 1⟩ : S31)] = ((dotsP a b o (k + 1)).take m).map toS := by
        rw [dotsP_succ, List.take_of_length_le (by omega), List.take_of_length_le (by rw [List.length_append, List.length_singleton]; omega), List.map_append]
        rfl
      simp only [pannierref08_Between.l1]
      rw [if_pos (by omega), if_pos (by omega), if_pos hlt, el, if_pos (by omega), if_pos (by omega), e1, ea]
      rw [show mx (rd a o) 0 + ((k + 1 : Nat) : Int) = mx (rd a o) 0 + (k : Int) + 1 by omega] at hf
      exact hf
    · refine ⟨f0 + 1, ?_⟩
      have el : (((dotsP a b o k).take m).map toS).length = m := by rw [List.length_map, List.length_take]; omega
      have et : (dotsP a b o k).take m = (dotsN a b (o + 1)).take m := by
        have hp : dotsP a b o k <+: dotsN a b (o + 1) := by
          rw [dotsN_succ]
          unfold dotsP dotsO
          obtain ⟨d, hd⟩ : ∃ d, cntO a b o = k + d := ⟨cntO a b o - k, by omega⟩
          rw [hd, List.range_add, List.map_append, ← List.append_assoc]
          exact List.prefix_append _ _
        obtain ⟨t, ht⟩ := hp
        rw [← ht, List.take_append_of_le_length (by omega)]
      simp only [pannierref08_Between.l1]
      rw [if_pos (by omega), if_pos (by omega), if_pos hlt, el, if_neg (by omega), e2, et]
      exact hf0
theorem btw_outer : ∀ d o : Nat, o + d = b.length → ∃ k, pannierref08_Between.l0 k a b (m : Int) (((dotsN a b o).take m).map toS) (o : Int) = some (((dots a b).take m).map toS) := by
  intro d
  induction d with
  | zero =>
    intro o ho
    refine ⟨1, ?_⟩
    simp only [pannierref08_Between.l0]
    rw [if_neg (by omega), show o = b.length by omega]
    rfl
  | succ d ih =>
    intro o ho
    obtain ⟨f, hf⟩ := btw_inner hm hb hw (show o < b.length by omega) (ih (o + 1) (by omega)) (cntO a b o) 0 (by omega)
    refine ⟨f + 2, ?_⟩
    rw [dotsP_zero, show mx (rd a o) 0 + ((0 : Nat) : Int) = mx (rd a o) 0 by simp] at hf
    simp only [pannierref08_Between.l0]
    rw [if_pos (by omega), pannierref08_Of.nat _ _ (by omega)]
    simp only [Option.bind_some]
    by_cases q : rd a o < 0
    · rw [if_pos q]
      simp only [pannierref08_Between.j1]
      rw [show mx (rd a o) 0 = 0 by unfold mx; split <;> omega] at hf
      exact hf
    · rw [if_neg q]
      simp only [pannierref08_Between.j1]
      rw [show mx (rd a o) 0 = rd a o by unfold mx; split <;> omega] at hf
      exact hf
theorem pannierref08_Between.tot : ∃ k, pannierref08_Between.f k a b (m : Int) = some (((dots a b).take m).map toS) := by
  obtain ⟨k, hk⟩ := btw_outer (a := a) hm hb hw b.length 0 (by omega)
  exact ⟨k, by unfold pannierref08_Between.f; simpa [dotsN] using hk⟩
end
theorem pannierref08_Count.loop {l : List Int} (h : mayB l = true) (d : Nat) : ∀ (k j : Nat), j + d = l.length → d < k → pannierref08_Count.l0 k l (cnt l j) (j : Int) = some (cnt l l.length) := by
  have h7 := (mayB_iff.1 h).2
  induction d with
  | zero =>
    intro k j hj hk
    obtain ⟨k, rfl⟩ := succ_of hk
    simp only [pannierref08_Count.l0]
    rw [if_neg (by omega), show j = l.length by omega]
  | succ d ih =>
    intro k j hj hk
    obtain ⟨k, rfl⟩ := succ_of hk
    simp only [pannierref08_Count.l0]
    have hb := cnt_bound h (j + 1)
    have hr := rd_count h j
    have e0 : cnt l (j + 1) = cnt l j + rd l j := by show cnt l j + mx (rd l j) 0 = _; rw [mx_pos hr.1]
    have e2 : wrap64 ((j : Int) + 1) = ((j + 1 : Nat) : Int) := by unfold wrap64; omega
    have hi := ih k (j + 1) (by omega) (by omega)
    rw [if_pos (by omega), if_pos (by omega), e2]
    by_cases q : rd l j > 0
    · have e1 : wrap64 (cnt l j + rd l j) = cnt l (j + 1) := by rw [e0] at hb ⊢; unfold wrap64; omega
      rw [if_pos q, e1]
      exact hi
    · rw [if_neg q, show cnt l j = cnt l (j + 1) by omega]
      exact hi
theorem pannierref08_Count.tot {l : List Int} (h : mayB l = true) : pannierref08_Count.f (l.length + 1) l = some (cnt l l.length) := pannierref08_Count.loop h l.length (l.length + 1) 0 (by omega) (by omega)
/-- Every dot that a vector has, it has. -/
theorem dots_has {b : List Int} {d : Int × Int} (h : d ∈ dots [] b) : hasB b d.1 d.2 = true := by
  unfold dots dotsN at h
  rw [List.mem_flatMap] at h
  obtain ⟨o, ho, hd⟩ := h
  unfold dotsO at hd
  rw [List.mem_map] at hd
  obtain ⟨k, hk, rfl⟩ := hd
  rw [List.mem_range] at hk
  unfold cntO at hk
  have h0 : mx (rd ([] : List Int) o) 0 = 0 := by rw [rd_out (by simp)]; rfl
  rw [h0] at hk ⊢
  unfold hasB ofZ
  rw [if_pos (by omega), decide_eq_true (show (0 : Int) < 0 + (k : Int) + 1 by omega), decide_eq_true (show 0 + (k : Int) + 1 ≤ rd b o by omega)]
  rfl
end Go.Proofs.Ytnmjhagmobcdkaa.P
