/- Contracts of layer 8's functions in plain words: each call returns what the word on lists says. -/
import Derived.Test.YtnmjhagmobcdkaaLat
namespace Go.Proofs.Ytnmjhagmobcdkaa.P
open Go.RowKit Go.Proofs.YtnmjhagmobcdkaaW.PrintWords Go.Proofs.YtnmjhagmobcdkaaW.PrintLast Go.Proofs.YtnmjhagmobcdkaaW.PrintMore
/-- A slice is handed back that reads as the list. -/
def GivesL (l : List Int) (w : World) (e : Ending) (w' : World) : Prop := ∃ (A : Option Addr) (c : Nat), e = .returned (.slice A l.length c) ∧ l.length ≤ c ∧ Kd.C (Kd.int .i64) w' A l.length l ∧ Below w.heap.size w w'
theorem GivesL.of {l : List Int} {w : World} {e : Ending} {w' : World} (h : ∃ v0_ : Value, e = .returned (v0_) ∧ Kd.R (Kd.int .i64) 3 w' w.heap.size (fun _ => True) v0_ l ∧ Below w.heap.size w w') : GivesL l w e w' := by
  obtain ⟨v, rfl, ho, hb⟩ := h
  obtain ⟨A, c, rfl⟩ := Kd.R_slice ho
  obtain ⟨_, h2, h3⟩ := Kd.R_reads' ho
  exact ⟨A, c, rfl, h2, h3, hb⟩
section
variable (A0 : Option Addr) (c0 : Nat) (l0 : List Int) (A1 : Option Addr) (c1 : Nat) (l1 : List Int) (w : World)
theorem vv_Merge.tc (hr0 : Kd.C (Kd.int .i64) w A0 l0.length l0) (hc0 : l0.length ≤ c0) (hr1 : Kd.C (Kd.int .i64) w A1 l1.length l1) (hc1 : l1.length ≤ c1) (h0 : l0.length < 17592186044416) (h1 : l1.length < 17592186044416) :
    Calls Try.prog 11 #[.slice A0 l0.length c0, .slice A1 l1.length c1] w (GivesL (mergeL l0 l1) w) := (vv_Merge.calls A0 c0 l0 A1 c1 l1 _ w hr0 hc0 hr1 hc1 (vv_Merge.tot h0 h1)).mono fun _ _ => GivesL.of
theorem vv_Meet.tc (hr0 : Kd.C (Kd.int .i64) w A0 l0.length l0) (hc0 : l0.length ≤ c0) (hr1 : Kd.C (Kd.int .i64) w A1 l1.length l1) (hc1 : l1.length ≤ c1) (h0 : l0.length < 17592186044416) (h1 : l1.length < 17592186044416) :
    Calls Try.prog 13 #[.slice A0 l0.length c0, .slice A1 l1.length c1] w (GivesL (meetL l0 l1) w) := (vv_Meet.calls A0 c0 l0 A1 c1 l1 _ w hr0 hc0 hr1 hc1 (vv_Meet.tot h0 h1)).mono fun _ _ => GivesL.of
theorem vv_Plain.tc (hr0 : Kd.C (Kd.int .i64) w A0 l0.length l0) (hc0 : l0.length ≤ c0) (h0 : l0.length < 17592186044416) :
    Calls Try.prog 20 #[.slice A0 l0.length c0] w (GivesL (plainL l0) w) := (vv_Plain.calls A0 c0 l0 _ w hr0 hc0 (by unfold vv_Plain.f; rw [if_pos h0])).mono fun _ _ => GivesL.of
theorem vv_Below.tc {r : Bool} (hr0 : Kd.C (Kd.int .i64) w A0 l0.length l0) (hc0 : l0.length ≤ c0) (hr1 : Kd.C (Kd.int .i64) w A1 l1.length l1) (hc1 : l1.length ≤ c1) (h0 : l0.length < 17592186044416) (h1 : l1.length < 17592186044416) (hr : belowB l0 l1 = r) :
    Calls Try.prog 15 #[.slice A0 l0.length c0, .slice A1 l1.length c1] w fun e w' => e = .returned (.bool r) ∧ Below w.heap.size w w' := by
  subst hr
  obtain ⟨k, h⟩ := vv_Below.tot h0 h1
  exact vv_Below.calls k A0 c0 l0 A1 c1 l1 _ w hr0 hc0 hr1 hc1 h
theorem pannierlaw08_Same.tc {r : Bool} (hr0 : Kd.C (Kd.int .i64) w A0 l0.length l0) (hc0 : l0.length ≤ c0) (hr1 : Kd.C (Kd.int .i64) w A1 l1.length l1) (hc1 : l1.length ≤ c1) (h0 : l0.length < 17592186044416) (hr : decide (l0 = l1) = r) :
    Calls Try.prog 10 #[.slice A0 l0.length c0, .slice A1 l1.length c1] w fun e w' => e = .returned (.bool r) ∧ Below w.heap.size w w' := by
  subst hr
  obtain ⟨k, h⟩ := pannierlaw08_Same.tot (b := l1) h0
  exact (pannierlaw08_Same.calls k A0 c0 l0 A1 c1 l1 _ w hr0 hc0 hr1 hc1 h).mono fun _ _ ⟨he, hd⟩ => ⟨he, hd.below⟩
theorem pannierref08_May.tc {r : Bool} (hr0 : Kd.C (Kd.int .i64) w A0 l0.length l0) (hc0 : l0.length ≤ c0) (h0 : l0.length < 17592186044416) (hr : mayB l0 = r) :
    Calls Try.prog 19 #[.slice A0 l0.length c0] w fun e w' => e = .returned (.bool r) ∧ Below w.heap.size w w' := by
  subst hr
  obtain ⟨k, h⟩ := pannierref08_May.tot h0
  exact (pannierref08_May.calls k A0 c0 l0 _ w hr0 hc0 h).mono fun _ _ ⟨he, hd⟩ => ⟨he, hd.below⟩
end
theorem mayB_len {l : List Int} (h : mayB l = true) : l.length < 17592186044416 := by have := (mayB_iff.1 h).2; omega
theorem len_merge {a b : List Int} (ha : a.length < 17592186044416) (hb : b.length < 17592186044416) : (mergeL a b).length < 17592186044416 := merge_length mx ha hb
theorem len_meet {a b : List Int} (ha : a.length < 17592186044416) (hb : b.length < 17592186044416) : (meetL a b).length < 17592186044416 := merge_length mn ha hb
theorem len_plain {a : List Int} (ha : a.length < 17592186044416) : (plainL a).length < 17592186044416 := by have := plainL_length a; omega
/-! What Merge and Meet do together. -/
theorem mx_comm (x y : Int) : mx x y = mx y x := by unfold mx; split <;> split <;> omega
theorem mn_comm (x y : Int) : mn x y = mn y x := by unfold mn; split <;> split <;> omega
theorem mx_assoc (x y z : Int) : mx (mx x y) z = mx x (mx y z) := by unfold mx; (repeat' split) <;> omega
theorem mn_assoc (x y z : Int) : mn (mn x y) z = mn x (mn y z) := by unfold mn; (repeat' split) <;> omega
theorem merge_comm (a b : List Int) : mergeL a b = mergeL b a := by
  rw [← merge_plain a b, ← merge_plain b a]
  exact plain_ext (fun j => by rw [rd_merge, rd_merge, mx_comm])
theorem meet_comm (a b : List Int) : meetL a b = meetL b a := by
  rw [← meet_plain a b, ← meet_plain b a]
  exact plain_ext (fun j => by rw [rd_meet, rd_meet, mn_comm])
theorem merge_self (a : List Int) : mergeL a a = plainL a := by
  rw [← merge_plain a a]
  exact plain_ext (fun j => by rw [rd_merge]; unfold mx; split <;> rfl)
theorem meet_self (a : List Int) : meetL a a = plainL a := by
  rw [← meet_plain a a]
  exact plain_ext (fun j => by rw [rd_meet]; unfold mn; split <;> rfl)
theorem merge_assoc (a b c : List Int) : mergeL (mergeL a b) c = mergeL a (mergeL b c) := by
  rw [← merge_plain (mergeL a b) c, ← merge_plain a (mergeL b c)]
  exact plain_ext (fun j => by rw [rd_merge, rd_merge, rd_merge, rd_merge, mx_assoc])
theorem meet_assoc (a b c : List Int) : meetL (meetL a b) c = meetL a (meetL b c) := by
  rw [← meet_plain (meetL a b) c, ← meet_plain a (meetL b c)]
  exact plain_ext (fun j => by rw [rd_meet, rd_meet, rd_meet, rd_meet, mn_assoc])
theorem meet_merge (a b : List Int) : meetL a (mergeL a b) = plainL a := by
  rw [← meet_plain a (mergeL a b)]
  exact plain_ext (fun j => by rw [rd_meet, rd_merge]; unfold mn mx; split <;> split <;> omega)
theorem merge_meet (a b : List Int) : mergeL a (meetL a b) = plainL a := by
  rw [← merge_plain a (meetL a b)]
  exact plain_ext (fun j => by rw [rd_merge, rd_meet]; unfold mn mx; split <;> split <;> omega)
theorem below_merge (a b : List Int) : belowB a (mergeL a b) = true := belowB_iff.2 (fun j => by rw [rd_merge]; unfold mx; split <;> omega)
theorem below_merge' (a b : List Int) : belowB b (mergeL a b) = true := by rw [merge_comm]; exact below_merge b a
theorem meet_below (a b : List Int) : belowB (meetL a b) a = true := belowB_iff.2 (fun j => by rw [rd_meet]; unfold mn; split <;> omega)
theorem meet_below' (a b : List Int) : belowB (meetL a b) b = true := by rw [meet_comm]; exact meet_below b a
theorem merge_least {a b c : List Int} (h1 : belowB a c = true) (h2 : belowB b c = true) : belowB (mergeL a b) c = true :=
  belowB_iff.2 (fun j => by have := belowB_iff.1 h1 j; have := belowB_iff.1 h2 j; rw [rd_merge]; unfold mx; split <;> omega)
theorem meet_greatest {a b c : List Int} (h1 : belowB c a = true) (h2 : belowB c b = true) : belowB c (meetL a b) = true :=
  belowB_iff.2 (fun j => by have := belowB_iff.1 h1 j; have := belowB_iff.1 h2 j; rw [rd_meet]; unfold mn; split <;> omega)
theorem below_is_merge (a b : List Int) : decide (mergeL a b = plainL b) = belowB a b := by
  rw [Bool.eq_iff_iff, decide_eq_true_iff, belowB_iff]
  constructor
  · intro h j
    have h2 : rd (mergeL a b) (j : Int) = rd (plainL b) (j : Int) := by rw [h]
    rw [rd_merge, rd_plain] at h2
    unfold mx at h2
    split at h2 <;> omega
  · intro h
    rw [← merge_plain a b]
    exact plain_ext (fun j => by have := h j; rw [rd_merge]; unfold mx; split <;> omega)
theorem below_is_meet (a b : List Int) : decide (meetL a b = plainL a) = belowB a b := by
  rw [Bool.eq_iff_iff, decide_eq_true_iff, belowB_iff]
  constructor
  · intro h j
    have h2 : rd (meetL a b) (j : Int) = rd (plainL a) (j : Int) := by rw [h]
    rw [rd_meet, rd_plain] at h2
    unfold mn at h2
    split at h2 <;> omega
  · intro h
    rw [← meet_plain a b]
    exact plain_ext (fun j => by have := h j; rw [rd_meet]; unfold mn; split <;> omega)
end Go.Proofs.Ytnmjhagmobcdkaa.P
