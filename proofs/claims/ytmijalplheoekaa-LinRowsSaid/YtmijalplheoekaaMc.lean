/- LinRows in plain words: both ways together. -/
import Derived.Test.YtmijalplheoekaaMb
namespace Go.Proofs.Ytmijalplheoekaa.P
set_option linter.unusedVariables false
set_option linter.unusedSectionVars false
variable {α : Type} [DecidableEq α]
theorem key_lt {M a b s t : Int} (h : a ≤ b) (hst : s < t) (hM : 0 ≤ M) : a * M + s < b * M + t := by
  have := Int.mul_le_mul_of_nonneg_right h hM
  omega
theorem key_time {M a b s t : Int} (hM : 0 ≤ M) (hs : 0 ≤ s) (ht : t < M) (h : a * M + s ≤ b * M + t) : a ≤ b := by
  by_cases q : a ≤ b
  · exact q
  · have h1 := Int.mul_le_mul_of_nonneg_right (show b + 1 ≤ a by omega) hM
    rw [Int.add_mul, Int.one_mul] at h1
    omega
theorem Okay.plan {g : Nat → Sn α} {l : List (Sn α)} {T : List α} (hg : ∀ k, (h : k < l.length) → l[k] = g k) (hn : T.Nodup) (h : Okay l T) : Nonempty (Plan g l.length T) := by
  have hgm : ∀ k, k < l.length → g k ∈ l := fun k hk => by rw [← hg k hk]; exact List.getElem_mem hk
  have hr : ∀ k, k < l.length → _ := fun k hk => rightB_iff.1 (h.right (g k) (hgm k hk))
  have hrow := (rowB_iff (Int.le_refl _)).1 h.row
  have hid : ∀ k, k < l.length → (g k).en ≠ 0 → ((g k).id = 0 → (g k).ck = false) ∧ ((g k).id ≠ 0 → (g k).id = num (g k).tok T) := fun k hk hen => by
    have := h.ids (g k) (hgm k hk)
    unfold wrongB at this
    rw [if_neg hen] at this
    constructor
    · intro z; rw [if_pos z] at this; exact this
    · intro z
      rw [if_neg z] at this
      by_cases q : (g k).id = num (g k).tok T
      · exact q
      · rw [decide_eq_false q] at this; exact absurd this (by simp)
  -- who makes each order
  have hc : ∀ j : {j : Nat // 1 ≤ j ∧ j ≤ T.length}, ∃ s, s < l.length ∧ (g s).ck = true ∧ num (g s).tok T = (j.1 : Int) ∧ (g s).bg ≤ pT l T j.1 := fun ⟨j, j1, j2⟩ => by
    obtain ⟨k, rfl⟩ : ∃ k, j = k + 1 := ⟨j - 1, by omega⟩
    have hk : k < T.length := by omega
    have h1 := (hrow k hk).1
    have h2 : bgn l T[k] MT ≤ first l T[k] := Int.le_max_right _ _
    rcases bgn_le.1 (Int.le_refl (bgn l T[k] MT)) with q | ⟨s, hs, e1, e2, e3⟩
    · omega
    · obtain ⟨i, hi, rfl⟩ := List.getElem_of_mem hs
      rw [hg i hi] at e1 e2 e3
      have h3 := pT_first (l := l) hk
      exact ⟨i, hi, e2, by rw [e1, num_get hn hk]; rfl, by show (g i).bg ≤ pT l T (k + 1); omega⟩
  obtain ⟨c0, hc0⟩ := Classical.axiomOfChoice hc
  obtain ⟨c, ec⟩ : ∃ c : Nat → Nat, c = fun j => if q : 1 ≤ j ∧ j ≤ T.length then c0 ⟨j, q⟩ else 0 := ⟨_, rfl⟩
  have hcj : ∀ j : Nat, 1 ≤ j → j ≤ T.length → c j < l.length ∧ (g (c j)).ck = true ∧ num (g (c j)).tok T = (j : Int) ∧ (g (c j)).bg ≤ pT l T j := fun j j1 j2 => by
    rw [ec]
    dsimp only
    rw [dif_pos ⟨j1, j2⟩]
    exact hc0 ⟨j, j1, j2⟩
  clear hc hc0 ec
  obtain ⟨isC, eC⟩ : ∃ isC : Nat → Prop, ∀ i, isC i ↔ ∃ j : Nat, 1 ≤ j ∧ j ≤ T.length ∧ c j = i := ⟨fun i => ∃ j : Nat, 1 ≤ j ∧ j ≤ T.length ∧ c j = i, fun i => Iff.rfl⟩
  have hcC : ∀ j : Nat, 1 ≤ j → j ≤ T.length → isC (c j) := fun j j1 j2 => (eC _).2 ⟨j, j1, j2, rfl⟩
  have hCnum : ∀ i, isC i → 1 ≤ num (g i).tok T ∧ num (g i).tok T ≤ T.length ∧ (g i).ck = true ∧ (g i).bg ≤ pT l T (num (g i).tok T).toNat ∧ c (num (g i).tok T).toNat = i := fun i hi => by
    obtain ⟨j, j1, j2, rfl⟩ := (eC i).1 hi
    have := hcj j j1 j2
    rw [this.2.2.1, Int.toNat_natCast]
    exact ⟨by omega, by omega, this.2.1, this.2.2.2, rfl⟩
  have hdec : ∀ i, Decidable (isC i) := fun i => Classical.propDecidable _
  have hN0 := fun i => num_nonneg (g i).tok T
  have hN1 := fun i => num_le_length (g i).tok T
  -- an order's time lies ahead of the ends of those that were told it
  have hpe : ∀ i, i < l.length → (g i).en ≠ 0 → (g i).id ≠ 0 → pT l T (num (g i).tok T).toNat ≤ (g i).en := fun i hi hen hz => by
    have e := (hid i hi hen).2 hz
    have hri := hr i hi
    have hri2 := hri.2.2.2.2 hen
    obtain ⟨k, hk, e1, e2⟩ := num_pos_get (t := (g i).tok) (T := T) (by omega)
    refine pT_le (by omega) (by have := hN1 i; omega) (fun j hj hlt => ?_)
    have h1 := (hrow k hk).2.2 j (by omega)
    have h2 := (le_lst.1 (Int.le_refl (last l T[k] (1 + (k : Int))))).2 (g i) (hgm i hi) e1.symm hen (by omega)
    exact Int.le_trans h1 h2
  refine ⟨{
    c := c
    pl := fun i => (g i).en ≠ 0 ∨ isC i
    time := fun i => if isC i then pT l T (num (g i).tok T).toNat else if (g i).id = 0 then (g i).bg else max (g i).bg (pT l T (num (g i).tok T).toNat)
    key := fun i => (if isC i then pT l T (num (g i).tok T).toNat else if (g i).id = 0 then (g i).bg else max (g i).bg (pT l T (num (g i).tok T).toNat)) * ((T.length : Int) + 2) + (if isC i then num (g i).tok T else if (g i).id = 0 then 0 else (T.length : Int) + 1)
    keyTime := fun i k hle => ?_
    bg := fun i hi hp => ?_
    en := fun i hi hen => ?_
    all := fun i hi hen => .inl hen
    cl := fun j j1 j2 => ⟨(hcj j j1 j2).1, .inr (hcC j j1 j2), (hcj j j1 j2).2.1, (hcj j j1 j2).2.2.1⟩
    ordered := fun i j i1 hij j2 => ?_
    others := fun i hi hp hno => ?_
    zeros := fun i hi hen hz => ⟨(hid i hi hen).1 hz, fun j j1 j2 e => ?_⟩
    tolds := fun i hi hen hz => ⟨(hid i hi hen).2 hz, fun j j1 j2 e hne => ?_⟩ }⟩
  · have h1 := hN0 i
    have h2 := hN1 k
    refine key_time (M := (T.length : Int) + 2) (by omega) ?_ ?_ hle
    · split
      · exact h1
      · split <;> omega
    · split
      · omega
      · split <;> omega
  · skip
    by_cases q : isC i
    · rw [if_pos q]; exact (hCnum i q).2.2.2.1
    · rw [if_neg q]
      by_cases z : (g i).id = 0
      · rw [if_pos z]; exact Int.le_refl _
      · rw [if_neg z]; exact Int.le_max_left _ _
  · skip
    have hri := ((hr i hi).2.2.2.2 hen).1
    by_cases q : isC i
    · rw [if_pos q]
      refine hpe i hi hen (fun z => ?_)
      have := (hid i hi hen).1 z
      rw [(hCnum i q).2.2.1] at this
      exact absurd this (by simp)
    · rw [if_neg q]
      by_cases z : (g i).id = 0
      · rw [if_pos z]; exact hri
      · rw [if_neg z]; exact Int.max_le.2 ⟨hri, hpe i hi hen z⟩
  · skip
    have h1 := hcj i i1 (by omega)
    have h2 := hcj j (by omega) j2
    rw [if_pos (hcC i i1 (by omega)), if_pos (hcC j (by omega) j2), if_pos (hcC i i1 (by omega)), if_pos (hcC j (by omega) j2), h1.2.2.1, h2.2.2.1, Int.toNat_natCast, Int.toNat_natCast]
    exact key_lt (pT_mono (by omega)) (by omega) (by omega)
  · rcases hp with q | q
    · exact q
    · obtain ⟨j, j1, j2, e⟩ := (eC i).1 q
      exact absurd e (hno j j1 j2)
  · skip
    have hck := (hid i hi hen).1 hz
    have q : ¬ isC i := fun q => by
      rw [(hCnum i q).2.2.1] at hck
      exact absurd hck (by simp)
    have h2 := hcj j j1 j2
    rw [if_neg q, if_pos hz, if_neg q, if_pos hz, if_pos (hcC j j1 j2), if_pos (hcC j j1 j2), h2.2.2.1, Int.toNat_natCast]
    refine key_lt ?_ (by omega) (by omega)
    obtain ⟨k, hk, e1, e2⟩ := num_pos_get (t := (g i).tok) (T := T) (by omega)
    obtain rfl : j = k + 1 := by omega
    have h3 := (fst_le.1 (Int.le_refl (fst l T[k] 0))).2 (g i) (hgm i hi) e1.symm hck hen hz
    have h4 : fst l T[k] 0 ≤ first l T[k] := Int.le_max_left _ _
    have h5 := pT_first (l := l) hk
    omega
  · skip
    have q : ¬ isC i := fun q => by
      have := (hCnum i q).2.2.2.2
      rw [e, Int.toNat_natCast] at this
      exact hne this
    have h2 := hcj j j1 j2
    rw [if_neg q, if_neg hz, if_neg q, if_neg hz, if_pos (hcC j j1 j2), if_pos (hcC j j1 j2), h2.2.2.1, e, Int.toNat_natCast]
    exact key_lt (Int.le_max_right _ _) (by omega) (by omega)
/-- LinRows: there is a row by bounds just where one is found by trying all. -/
theorem row_iff {g : Nat → Sn α} {l : List (Sn α)} {T : List α} (hg : ∀ k, (h : k < l.length) → l[k] = g k) (hr : ∀ s ∈ l, rightB s = true) (hn : T.Nodup) : Row g l.length T (fun _ => false) 0 ↔ Okay l T := by
  refine ⟨fun h => h.okay hg hr hn, fun h => ?_⟩
  obtain ⟨P⟩ := h.plan hg hn
  exact At.row P _ (fun _ => false) 0 ⟨Nat.zero_le _, fun i h => absurd h (by simp), fun i k h => absurd h (by simp), fun j j1 j2 => ⟨fun h => absurd h (by simp), fun h => by omega⟩⟩ (Nat.le_refl _)
end Go.Proofs.Ytmijalplheoekaa.P
