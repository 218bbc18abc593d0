/- Plain facts on vectors: what Plain, Merge and Meet read as at each place; vectors without noughts at their end are told by their places alone. -/
import Derived.Test.YtnmjhagmobcdkaaTot
namespace Go.Proofs.Ytnmjhagmobcdkaa.P
open Go.RowKit Go.Proofs.YtnmjhagmobcdkaaW.PrintWords Go.Proofs.YtnmjhagmobcdkaaW.PrintLast Go.Proofs.YtnmjhagmobcdkaaW.PrintMore
theorem plainN_above (l : List Int) : ∀ n, (∀ j : Nat, plainN l n ≤ j → j < n → rd l (j : Int) = 0) ∧ (plainN l n = 0 ∨ ¬ rd l ((plainN l n - 1 : Nat) : Int) = 0)
  | 0 => ⟨fun j _ h => absurd h (by omega), .inl rfl⟩
  | n + 1 => by
    obtain ⟨h1, h2⟩ := plainN_above l n
    by_cases h : rd l (n : Int) = 0
    · rw [plainN_zero h]
      refine ⟨fun j hj hn => ?_, h2⟩
      rcases Nat.lt_or_ge j n with hlt | hge
      · exact h1 j hj hlt
      · obtain rfl : j = n := by omega
        exact h
    · rw [plainN_some h]
      exact ⟨fun j hj hn => by omega, .inr (by rw [Nat.add_sub_cancel]; exact h)⟩
theorem rd_plain (l : List Int) (j : Nat) : rd (plainL l) (j : Int) = rd l (j : Int) := by
  obtain ⟨h1, _⟩ := plainN_above l l.length
  have hle := plainN_le l l.length
  unfold plainL
  rcases Nat.lt_or_ge j (plainN l l.length) with h | h
  · rw [rd_in (by rw [List.length_take]; omega), rd_in (by omega), List.getElem_take]
  · rw [rd_out (by rw [List.length_take]; omega)]
    rcases Nat.lt_or_ge j l.length with h3 | h3
    · exact (h1 j h h3).symm
    · rw [rd_out h3]
theorem plain_len (l : List Int) : (plainL l).length = plainN l l.length := by
  have hle := plainN_le l l.length
  unfold plainL
  rw [List.length_take]
  omega
theorem plain_last (l : List Int) : (plainL l).length = 0 ∨ ¬ rd l (((plainL l).length - 1 : Nat) : Int) = 0 := by
  rw [plain_len]
  exact (plainN_above l l.length).2
theorem plain_ext {x y : List Int} (h : ∀ j : Nat, rd x (j : Int) = rd y (j : Int)) : plainL x = plainL y := by
  have key : ∀ {x y : List Int}, (∀ j : Nat, rd x (j : Int) = rd y (j : Int)) → (plainL y).length ≤ (plainL x).length := by
    intro x y h
    rcases plain_last y with h0 | h0
    · omega
    · rcases Nat.lt_or_ge (plainL x).length (plainL y).length with hlt | hge
      · exact absurd (by rw [← h, ← rd_plain x, rd_out (by omega)]) h0
      · exact hge
  have hl : (plainL x).length = (plainL y).length := Nat.le_antisymm (key (fun j => (h j).symm)) (key h)
  exact list_ext_rd hl (fun j _ => by rw [rd_plain, rd_plain, h])
theorem rd_zip {op : Int → Int → Int} (h0 : op 0 0 = 0) (a b : List Int) (j : Nat) : rd (zipL op a b) (j : Int) = op (rd a (j : Int)) (rd b (j : Int)) := by
  rcases Nat.lt_or_ge j (max a.length b.length) with h | h
  · rw [rd_in (by rw [zipL_length]; exact h)]
    simp [zipL, upto]
  · rw [rd_out (by rw [zipL_length]; exact h), rd_out (by omega), rd_out (by omega), h0]
theorem mx0 : mx 0 0 = 0 := rfl
theorem mn0 : mn 0 0 = 0 := rfl
def mergeL (a b : List Int) : List Int := plainL (zipL mx a b)
def meetL (a b : List Int) : List Int := plainL (zipL mn a b)
theorem rd_merge (a b : List Int) (j : Nat) : rd (mergeL a b) (j : Int) = mx (rd a (j : Int)) (rd b (j : Int)) := by rw [mergeL, rd_plain, rd_zip mx0]
theorem rd_meet (a b : List Int) (j : Nat) : rd (meetL a b) (j : Int) = mn (rd a (j : Int)) (rd b (j : Int)) := by rw [meetL, rd_plain, rd_zip mn0]
theorem plain_plain (l : List Int) : plainL (plainL l) = plainL l := plain_ext (fun j => rd_plain l j)
theorem merge_plain (a b : List Int) : plainL (mergeL a b) = mergeL a b := plain_plain _
theorem meet_plain (a b : List Int) : plainL (meetL a b) = meetL a b := plain_plain _
theorem ofZ_plain (l : List Int) (o : Int) : ofZ (plainL l) o = ofZ l o := by
  unfold ofZ
  by_cases h : 0 ≤ o
  · rw [if_pos h, if_pos h]
    obtain ⟨j, rfl⟩ := Int.eq_ofNat_of_zero_le h
    exact rd_plain l j
  · rw [if_neg h, if_neg h]
theorem ofZ_merge (a b : List Int) (o : Int) : ofZ (mergeL a b) o = mx (ofZ a o) (ofZ b o) := by
  unfold ofZ
  by_cases h : 0 ≤ o
  · rw [if_pos h, if_pos h, if_pos h]
    obtain ⟨j, rfl⟩ := Int.eq_ofNat_of_zero_le h
    exact rd_merge a b j
  · rw [if_neg h, if_neg h, if_neg h]; rfl
theorem ofZ_meet (a b : List Int) (o : Int) : ofZ (meetL a b) o = mn (ofZ a o) (ofZ b o) := by
  unfold ofZ
  by_cases h : 0 ≤ o
  · rw [if_pos h, if_pos h, if_pos h]
    obtain ⟨j, rfl⟩ := Int.eq_ofNat_of_zero_le h
    exact rd_meet a b j
  · rw [if_neg h, if_neg h, if_neg h]; rfl
theorem has_merge (a b : List Int) (o s : Int) : hasB (mergeL a b) o s = (hasB a o s || hasB b o s) := by
  unfold hasB
  rw [ofZ_merge, Bool.eq_iff_iff]
  simp only [Bool.and_eq_true, Bool.or_eq_true, decide_eq_true_iff]
  unfold mx
  split <;> omega
theorem has_meet (a b : List Int) (o s : Int) : hasB (meetL a b) o s = (hasB a o s && hasB b o s) := by
  unfold hasB
  rw [ofZ_meet, Bool.eq_iff_iff]
  simp only [Bool.and_eq_true, decide_eq_true_iff]
  unfold mn
  split <;> omega
end Go.Proofs.Ytnmjhagmobcdkaa.P
