/- Clocks and the reference's ticks so far: what they have to do with each other. -/
import Derived.Test.YtfmcpceilkkhfaaRc
namespace Go.Proofs.Ytfmcpceilkkhfaa.P
open Go.RowKit Go.Proofs.YtfmcpceilkkhfaaW.PrintWords Go.Proofs.YtfmcpceilkkhfaaW.PrintLast Go.Proofs.YtfmcpceilkkhfaaW.PrintMore
set_option linter.unusedVariables false
set_option linter.unusedSimpArgs false
/-- Ticks as they may be: their lists, and no sum too great at any time. -/
structure RInv (n : Int) (L : List S44) : Prop where
  each : ∀ x ∈ L, (x.f1.length : Int) = n
  pt : ∀ j, j ≤ L.length → 0 ≤ sumT (L.take j) ∧ sumT (L.take j) ≤ MaxC
  po : ∀ i : Int, 0 ≤ i → i < n → ∀ j, j ≤ L.length → 0 ≤ sumOn i (L.take j) ∧ sumOn i (L.take j) ≤ MaxC
def RArg (n time : Int) (on : List Int) : Prop := tkB time = true ∧ (on.length : Int) = n ∧ on.all tkB = true
def RRoom (L : List S44) (time : Int) (on : List Int) : Prop := sumT L + time ≤ MaxC ∧ ∀ i : Nat, i < on.length → sumOn i L + rd on i ≤ MaxC
theorem RInv.whole {n : Int} {L : List S44} (h : RInv n L) : 0 ≤ sumT L ∧ sumT L ≤ MaxC := by
  have := h.pt L.length (Nat.le_refl _)
  rwa [List.take_length] at this
theorem RInv.wholeOn {n : Int} {L : List S44} (h : RInv n L) (i : Int) (h0 : 0 ≤ i) (h1 : i < n) : 0 ≤ sumOn i L ∧ sumOn i L ≤ MaxC := by
  have := h.po i h0 h1 L.length (Nat.le_refl _)
  rwa [List.take_length] at this
theorem RInv.nil (n : Int) : RInv n [] := ⟨fun x h => by simp at h, fun j h => by simp [sumT, MaxC], fun i h0 h1 j h => by simp [sumOn, MaxC]⟩
theorem RInv.app {n time : Int} {L : List S44} {on : List Int} (h : RInv n L) (ha : RArg n time on) (hr : RRoom L time on) : RInv n (L ++ [⟨time, on⟩]) := by
  obtain ⟨a1, a2, a3⟩ := ha
  have t1 := tkB_iff.mp a1
  refine ⟨fun x hx => ?_, fun j hj => ?_, fun i h0 h1 j hj => ?_⟩
  · rw [List.mem_append, List.mem_singleton] at hx
    rcases hx with hx | rfl
    · exact h.each x hx
    · exact a2
  · rw [List.length_append, List.length_singleton] at hj
    by_cases q : j ≤ L.length
    · rw [List.take_append_of_le_length q]; exact h.pt j q
    · rw [List.take_of_length_le (by rw [List.length_append, List.length_singleton]; omega), sumT_app]
      have := h.whole
      exact ⟨by simp only; omega, hr.1⟩
  · rw [List.length_append, List.length_singleton] at hj
    by_cases q : j ≤ L.length
    · rw [List.take_append_of_le_length q]; exact h.po i h0 h1 j q
    · rw [List.take_of_length_le (by rw [List.length_append, List.length_singleton]; omega), sumOn_app]
      have := h.wholeOn i h0 h1
      obtain ⟨k, rfl⟩ := Int.eq_ofNat_of_zero_le h0
      have t2 := tkB_iff.mp (rd_all a3 k (by omega))
      exact ⟨by simp only; omega, hr.2 k (by omega)⟩
/-- The clocks' time, clocks and drift are those of the ticks. -/
structure TInv (n t : Int) (now : List Int) (dr : Int) (L : List S44) : Prop where
  inv : RInv n L
  ok : ClkOk t now dr
  len : (now.length : Int) = n
  time : t = sumT L
  on : ∀ i : Nat, i < now.length → rd now i = sumOn i L
  drift : ∀ d, drB d = true → decide (dr ≤ d) = L.all (fun x => keepsB x.f0 x.f1 d)
theorem rd_rep (m i : Nat) : rd (List.replicate m 0) i = 0 := by
  unfold rd
  rw [Int.toNat_natCast, List.getD_eq_getElem?_getD, List.getElem?_replicate]
  split <;> rfl
theorem TInv.new (n : Int) (h1 : 1 ≤ n) (h2 : n ≤ 7) : TInv n 0 (List.replicate n.toNat 0) 0 [] := by
  refine ⟨RInv.nil n, clkOk0 n.toNat (by omega) (by omega), by rw [List.length_replicate]; omega, by simp [sumT], fun i hi => by rw [rd_rep]; simp [sumOn], fun d hd => ?_⟩
  rw [decide_eq_true (drB_iff.mp hd).1]
  rfl
theorem TInv.arg {n t dr time : Int} {now on : List Int} {L : List S44} (h : TInv n t now dr L) : ArgOk now time on ↔ RArg n time on := by
  have := h.len
  constructor
  · exact fun q => ⟨q.1, by have := q.2.1; omega, q.2.2⟩
  · exact fun q => ⟨q.1, by have := q.2.1; omega, q.2.2⟩
theorem TInv.room {n t dr time : Int} {now on : List Int} {L : List S44} (h : TInv n t now dr L) (ha : ArgOk now time on) : RoomOk t now time on ↔ RRoom L time on := by
  have e := ha.2.1
  constructor
  · exact fun q => ⟨by have := h.time; have := q.1; omega, fun i hi => by rw [← h.on i (by omega)]; exact q.2 i (by omega)⟩
  · exact fun q => ⟨by have := h.time; have := q.1; omega, fun i hi => by rw [h.on i hi]; exact q.2 i (by omega)⟩
theorem TInv.tick {n t dr time r : Int} {now on : List Int} {L : List S44} (h : TInv n t now dr L) (ha : ArgOk now time on) (hr : RoomOk t now time on) (hl : IsLeast time on r) : TInv n (t + time) (addL now on) (if dr < r then r else dr) (L ++ [⟨time, on⟩]) := by
  refine ⟨h.inv.app (h.arg.mp ha) ((h.room ha).mp hr), h.ok.tick ha hr hl, by rw [addL_length _ _ ha.2.1]; exact h.len, by rw [sumT_app, h.time], fun i hi => ?_, fun d hd => ?_⟩
  · rw [addL_length _ _ ha.2.1] at hi
    rw [rd_addL ha.2.1 i hi, sumOn_app, h.on i hi]
  · rw [List.all_append, ← h.drift d hd, List.all_cons, List.all_nil, Bool.and_true, hl.2.2 d hd, ← Bool.decide_and, decide_eq_decide]
    split <;> omega
theorem TInv.now {n t dr : Int} {now : List Int} {L : List S44} (h : TInv n t now dr L) (k : Int) : nowAt now k = rnow n L k := by
  unfold nowAt rnow
  rw [h.len]
  by_cases q : 0 ≤ k ∧ k < n
  · rw [if_pos q, if_pos q]
    obtain ⟨i, rfl⟩ := Int.eq_ofNat_of_zero_le q.1
    exact h.on i (by have := h.len; omega)
  · rw [if_neg q, if_neg q]
theorem TInv.keeps {n t dr : Int} {now : List Int} {L : List S44} (h : TInv n t now dr L) (d : Int) : (drB d && decide (dr ≤ d)) = (L.all (fun x => keepsB x.f0 x.f1 d) && drB d) := by
  by_cases hd : drB d = true
  · rw [hd, h.drift d hd, Bool.true_and, Bool.and_true]
  · have hd : drB d = false := by simpa using hd
    rw [hd, Bool.false_and, Bool.and_false]
end Go.Proofs.Ytfmcpceilkkhfaa.P
