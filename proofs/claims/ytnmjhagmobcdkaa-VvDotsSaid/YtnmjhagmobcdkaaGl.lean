/- Plain facts behind VvGrows: a vector with one more of an origin; how many dots there are. -/
import Derived.Test.YtnmjhagmobcdkaaIt
import Derived.Test.YtnmjhagmobcdkaaAsks
import Derived.Test.YtnmjhagmobcdkaaPm
namespace Go.Proofs.Ytnmjhagmobcdkaa.P
open Go.RowKit Go.Proofs.YtnmjhagmobcdkaaW.PrintWords Go.Proofs.YtnmjhagmobcdkaaW.PrintLast Go.Proofs.YtnmjhagmobcdkaaW.PrintMore
set_option linter.unusedVariables false
set_option linter.unusedSectionVars false
theorem cntB_iff {n : Int} : cntB n = true ↔ 0 ≤ n ∧ n ≤ 2147483647 := by simp [cntB]
theorem rd_count {v : List Int} (h : mayB v = true) (j : Nat) : 0 ≤ rd v j ∧ rd v j ≤ 2147483647 := by
  by_cases q : j < v.length
  · exact cntB_iff.mp ((mayB_iff.1 h).1 j q)
  · rw [rd_out (by omega)]; omega
theorem rd_pad (v : List Int) (o : Int) (j : Nat) : rd (padL v o) j = rd v j := by
  unfold padL rd
  rw [Int.toNat_natCast, List.getD_eq_getElem?_getD, List.getD_eq_getElem?_getD]
  by_cases q : j < v.length
  · rw [List.getElem?_append_left q]
  · rw [List.getElem?_append_right (by omega), List.getElem?_replicate, List.getElem?_eq_none (show v.length ≤ j by omega)]
    split <;> rfl
theorem rd_set' {l : List Int} {i : Nat} (hi : i < l.length) (x : Int) (k : Nat) : rd (l.set i x) k = if k = i then x else rd l k := by
  unfold rd
  rw [Int.toNat_natCast, List.getD_eq_getElem?_getD, List.getElem?_set]
  by_cases h : i = k
  · subst h
    simp [hi]
  · rw [if_neg h, if_neg (fun e => h e.symm), List.getD_eq_getElem?_getD]
def withL (v : List Int) (o n : Int) : List Int := plainL ((padL v o).set o.toNat n)
theorem rd_with (v : List Int) {o : Int} (n : Int) (h0 : 0 ≤ o) (j : Nat) : rd (withL v o n) j = if j = o.toNat then n else rd v j := by
  unfold withL
  rw [rd_plain, rd_set' (by rw [padL_length v o h0]; omega), rd_pad]
theorem withZ_ok {v : List Int} {o n : Int} (h : 0 ≤ o ∧ o ≤ 6 ∧ 0 ≤ n ∧ n ≤ 2147483647) : withZ v o n = (withL v o n, 0) := if_pos h
theorem with_length {v : List Int} {o n : Int} (h0 : 0 ≤ o) (h6 : o ≤ 6) (hl : v.length ≤ 7) : (withL v o n).length ≤ 7 := by
  have := plainL_length ((padL v o).set o.toNat n)
  rw [List.length_set, padL_length v o h0] at this
  unfold withL
  omega
/-- The sum of the numbers above nought of the first m places. -/
def cnt (l : List Int) : Nat → Int
  | 0 => 0
  | m + 1 => cnt l m + mx (rd l m) 0
theorem mx_pos {x : Int} (h : 0 ≤ x) : mx x 0 = x := by unfold mx; split <;> omega
theorem cnt_bound {l : List Int} (h : mayB l = true) : ∀ m, 0 ≤ cnt l m ∧ cnt l m ≤ 2147483647 * (m : Int)
  | 0 => by simp [cnt]
  | m + 1 => by
    have := cnt_bound h m
    have h2 := rd_count h m
    unfold cnt
    rw [mx_pos h2.1]
    omega
theorem cnt_all {l : List Int} (d : Nat) : cnt l (l.length + d) = cnt l l.length := by
  induction d with
  | zero => rfl
  | succ d ih =>
    show cnt l (l.length + d) + mx (rd l ((l.length + d : Nat) : Int)) 0 = _
    rw [rd_out (by omega), ih]
    unfold mx; split <;> omega
theorem cnt_seven {l : List Int} (h : l.length ≤ 7) : cnt l l.length = cnt l 7 := by
  obtain ⟨d, hd⟩ : ∃ d, 7 = l.length + d := ⟨7 - l.length, by omega⟩
  rw [hd, cnt_all]
theorem vv_Count.loop {l : List Int} (h : mayB l = true) (d : Nat) : ∀ (k j : Nat), j + d = l.length → d < k → vv_Count.l0 k (cnt l j) l (l.length : Int) (j : Int) = some (cnt l l.length) := by
  have h7 := (mayB_iff.1 h).2
  induction d with
  | zero =>
    intro k j hj hk
    obtain ⟨k, rfl⟩ := succ_of hk
    simp only [vv_Count.l0]
    rw [if_neg (by omega), show j = l.length by omega]
  | succ d ih =>
    intro k j hj hk
    obtain ⟨k, rfl⟩ := succ_of hk
    simp only [vv_Count.l0]
    have hb := cnt_bound h (j + 1)
    have e1 : wrap64 (cnt l j + mx (rd l j) 0) = cnt l (j + 1) := by
      show wrap64 (cnt l (j + 1)) = _
      unfold wrap64; omega
    have e2 : wrap64 ((j : Int) + 1) = ((j + 1 : Nat) : Int) := by unfold wrap64; omega
    rw [if_pos (by omega), if_pos (by omega), if_pos (by omega), e1, e2]
    exact ih k (j + 1) (by omega) (by omega)
theorem vv_Count.tot {l : List Int} (h : mayB l = true) : vv_Count.f (l.length + 1) l = some (cnt l l.length) := vv_Count.loop h l.length (l.length + 1) 0 (by omega) (by omega)
/-! One more of an origin. -/
section
variable {v : List Int} {o : Int} (hm : mayB v = true) (h0 : 0 ≤ o) (h6 : o ≤ 6) (hn : rd v o < 2147483647)
include hm h0 h6 hn
theorem up_rd (j : Nat) : rd (withL v o (rd v o + 1)) j = rd v j + if j = o.toNat then 1 else 0 := by
  rw [rd_with v _ h0]
  split
  · rename_i e
    rw [e, Int.toNat_of_nonneg h0]
  · omega
theorem up_may : mayB (withL v o (rd v o + 1)) = true := by
  refine mayB_iff.2 ⟨fun j hj => ?_, with_length h0 h6 (mayB_iff.1 hm).2⟩
  rw [up_rd hm h0 h6 hn]
  have := rd_count hm j
  rw [cntB_iff]
  split
  · rename_i e
    have e2 : (j : Int) = o := by omega
    rw [e2] at this ⊢
    omega
  · omega
theorem up_below : belowB v (withL v o (rd v o + 1)) = true := belowB_iff.2 (fun j => by rw [up_rd hm h0 h6 hn]; split <;> omega)
theorem up_above : belowB (withL v o (rd v o + 1)) v = false := by
  rw [Bool.eq_false_iff]
  intro h
  have := belowB_iff.1 h o.toNat
  rw [up_rd hm h0 h6 hn, if_pos rfl] at this
  omega
theorem up_cmp : cmpZ v (withL v o (rd v o + 1)) = -1 := by unfold cmpZ; rw [if_pos (up_below hm h0 h6 hn), if_neg (by rw [up_above hm h0 h6 hn]; simp)]
theorem up_cnt_to : ∀ m : Nat, cnt (withL v o (rd v o + 1)) m = cnt v m + if o.toNat < m then 1 else 0
  | 0 => by simp [cnt]
  | m + 1 => by
    have := up_cnt_to m
    have h2 := rd_count hm m
    unfold cnt
    rw [up_rd hm h0 h6 hn, this, mx_pos h2.1, mx_pos (by split <;> omega)]
    by_cases q : m = o.toNat
    · rw [if_pos q, if_neg (by omega), if_pos (by omega)]; omega
    · rw [if_neg q]
      by_cases q2 : o.toNat < m
      · rw [if_pos q2, if_pos (by omega)]; omega
      · rw [if_neg q2, if_neg (by omega)]; omega
theorem up_cnt : cnt (withL v o (rd v o + 1)) (withL v o (rd v o + 1)).length = cnt v v.length + 1 := by
  rw [cnt_seven (with_length h0 h6 (mayB_iff.1 hm).2), cnt_seven (mayB_iff.1 hm).2, up_cnt_to hm h0 h6 hn 7, if_pos (by omega)]
theorem up_dotsO (j : Nat) : dotsO v (withL v o (rd v o + 1)) j = if j = o.toNat then [(o, rd v o + 1)] else [] := by
  have h2 := rd_count hm j
  unfold dotsO cntO
  rw [up_rd hm h0 h6 hn, mx_pos h2.1]
  by_cases q : j = o.toNat
  · have e2 : (j : Int) = o := by omega
    rw [if_pos q, if_pos q, e2, show (rd v o + 1 - rd v o).toNat = 1 by omega]
    simp
  · rw [if_neg q, if_neg q, show (rd v j + 0 - rd v j).toNat = 0 by omega]
    rfl
theorem up_dotsN : ∀ m : Nat, dotsN v (withL v o (rd v o + 1)) m = if o.toNat < m then [(o, rd v o + 1)] else []
  | 0 => by simp [dotsN]
  | m + 1 => by
    rw [dotsN_succ, up_dotsN m, up_dotsO hm h0 h6 hn]
    by_cases q : m = o.toNat
    · rw [if_pos q, if_neg (by omega), if_pos (by omega)]; rfl
    · rw [if_neg q]
      by_cases q2 : o.toNat < m
      · rw [if_pos q2, if_pos (by omega)]; rfl
      · rw [if_neg q2, if_neg (by omega)]; rfl
theorem up_dots : dots v (withL v o (rd v o + 1)) = [(o, rd v o + 1)] := by
  have : o.toNat < (withL v o (rd v o + 1)).length := by
    by_cases q : o.toNat < (withL v o (rd v o + 1)).length
    · exact q
    · have h2 := rd_out (l := withL v o (rd v o + 1)) (n := o.toNat) (by omega)
      rw [up_rd hm h0 h6 hn, if_pos rfl] at h2
      have := (rd_count hm o.toNat).1
      omega
  unfold dots
  rw [up_dotsN hm h0 h6 hn, if_pos this]
theorem up_back : plainL v = withL (withL v o (rd v o + 1)) o (rd v o) := by
  conv => rhs; unfold withL
  refine plain_ext (fun j => ?_)
  rw [rd_set' (by rw [padL_length _ o h0]; omega), rd_pad]
  show _ = if _ then _ else rd (withL v o (rd v o + 1)) j
  rw [up_rd hm h0 h6 hn]
  by_cases q : j = o.toNat
  · rw [if_pos q, q, Int.toNat_of_nonneg h0]
  · rw [if_neg q, if_neg q, Int.add_zero]
end
end Go.Proofs.Ytnmjhagmobcdkaa.P
