/- LinRows in plain words: there is a row by bounds just where one is found by trying all. -/
import Derived.Test.YtmijalplheoekaaLq
namespace Go.Proofs.Ytmijalplheoekaa.P
set_option linter.unusedVariables false
set_option linter.unusedSectionVars false
variable {α : Type} [DecidableEq α]
theorem num_le_length (t : α) : ∀ T : List α, num t T ≤ T.length
  | [] => by simp [num]
  | x :: xs => by
    have := num_le_length t xs
    unfold num
    rw [List.length_cons]
    split
    · omega
    · split <;> omega
theorem num_get : ∀ {T : List α} (hn : T.Nodup) {k : Nat} (h : k < T.length), num T[k] T = (k : Int) + 1
  | x :: xs, hn, 0, h => by
    show (if x = x then (1 : Int) else _) = _
    rw [if_pos rfl]; rfl
  | x :: xs, hn, k + 1, h => by
    rw [List.nodup_cons] at hn
    have hk : k < xs.length := by simpa using h
    have ih := num_get hn.2 hk
    show (if x = xs[k] then (1 : Int) else (if num xs[k] xs = 0 then 0 else num xs[k] xs + 1)) = _
    rw [if_neg (fun e => hn.1 (by rw [e]; exact List.getElem_mem hk)), ih, if_neg (by omega)]
    omega
theorem num_pos_get : ∀ {T : List α} {t : α}, num t T ≠ 0 → ∃ k, ∃ h : k < T.length, T[k] = t ∧ num t T = (k : Int) + 1
  | [], t, h => absurd rfl h
  | x :: xs, t, h => by
    unfold num at h ⊢
    by_cases e : x = t
    · rw [if_pos e]
      exact ⟨0, by simp, e, rfl⟩
    · rw [if_neg e] at h ⊢
      by_cases z : num t xs = 0
      · rw [if_pos z] at h; exact absurd rfl h
      · rw [if_neg z]
        obtain ⟨k, hk, e1, e2⟩ := num_pos_get z
        exact ⟨k + 1, by simpa using hk, by simpa using e1, by rw [e2]; omega⟩
/-! ### rows -/
def upd (hv : Nat → Bool) (i : Nat) : Nat → Bool := fun k => if k = i then true else hv k
def MayP (g : Nat → Sn α) (n : Nat) (hv : Nat → Bool) (i : Nat) : Prop := (∀ k, k < n → k ≠ i → hv k = false → (g k).en ≠ 0 → (g i).bg ≤ (g k).en) ∧ hv i = false
def Makes (T : List α) (s : Sn α) (m : Int) : Prop := s.ck = true ∧ (num s.tok T = 0 ∨ m < num s.tok T)
/-- Sight i stands next, behind those of hv and m orders; then there are now orders. -/
structure StepP (g : Nat → Sn α) (n : Nat) (T : List α) (hv : Nat → Bool) (m : Int) (i : Nat) (now : Int) : Prop where
  lt : i < n
  may : MayP g n hv i
  makes : Makes T (g i) m → num (g i).tok T = m + 1 ∧ now = num (g i).tok T
  not : ¬ Makes T (g i) m → now = m
  told : (g i).en ≠ 0 → (g i).id = if now < num (g i).tok T then 0 else num (g i).tok T
inductive Row (g : Nat → Sn α) (n : Nat) (T : List α) : (Nat → Bool) → Int → Prop
  | done {hv : Nat → Bool} {m : Int} : m = T.length → (∀ i, i < n → hv i = true ∨ (g i).en = 0) → Row g n T hv m
  | step {hv : Nat → Bool} {m : Int} (i : Nat) (now : Int) : StepP g n T hv m i now → Row g n T (upd hv i) now → Row g n T hv m
/-- What a row says of the sights that have not stood yet. -/
structure Fut (g : Nat → Sn α) (n : Nat) (T : List α) (hv : Nat → Bool) (m : Int) : Prop where
  ids : ∀ a, a < n → hv a = false → (g a).en ≠ 0 → ((g a).id = 0 → (g a).ck = false ∧ (num (g a).tok T = 0 ∨ m < num (g a).tok T)) ∧ ((g a).id ≠ 0 → (g a).id = num (g a).tok T)
  cr : ∀ j : Int, m < j → j ≤ T.length → ∃ s, s < n ∧ hv s = false ∧ (g s).ck = true ∧ num (g s).tok T = j ∧ ∀ b, b < n → hv b = false → (g b).en ≠ 0 → j ≤ (g b).id → (g s).bg ≤ (g b).en
  st : ∀ j : Int, m < j → ∀ a, a < n → hv a = false → (g a).en ≠ 0 → (g a).id = 0 → num (g a).tok T = j → ∀ b, b < n → hv b = false → (g b).en ≠ 0 → j ≤ (g b).id → (g a).bg ≤ (g b).en
theorem upd_self (hv : Nat → Bool) (i : Nat) : upd hv i i = true := if_pos rfl
theorem upd_ne {hv : Nat → Bool} {i k : Nat} (h : k ≠ i) : upd hv i k = hv k := if_neg h
theorem upd_false {hv : Nat → Bool} {i k : Nat} (h : upd hv i k = false) : k ≠ i ∧ hv k = false := by
  unfold upd at h
  by_cases e : k = i
  · rw [if_pos e] at h; exact absurd h (by simp)
  · rw [if_neg e] at h; exact ⟨e, h⟩
theorem Row.fut {g : Nat → Sn α} {n : Nat} {T : List α} (hr : ∀ k, k < n → rightB (g k) = true) {hv : Nat → Bool} {m : Int} (h : Row g n T hv m) : 0 ≤ m → Fut g n T hv m := by
  induction h with
  | done e hall =>
    intro hm
    refine ⟨fun a ha hf hen => ?_, fun j h1 h2 => absurd h1 (by omega), fun j h1 a ha hf hen => ?_⟩
    · rcases hall a ha with q | q
      · rw [hf] at q; exact absurd q (by simp)
      · exact absurd q hen
    · rcases hall a ha with q | q
      · rw [hf] at q; exact absurd q (by simp)
      · exact absurd q hen
  | @step hv m i now hs hrow ih =>
    intro hm
    have hN := num_nonneg (g i).tok T
    have hNl := num_le_length (g i).tok T
    have hnow : m ≤ now ∧ now ≤ m + 1 := by
      by_cases k : Makes T (g i) m
      · have := hs.makes k; omega
      · have := hs.not k; omega
    have F := ih (by omega)
    -- what i itself was told
    have hid : (g i).en ≠ 0 → ((g i).id = 0 → (g i).ck = false ∧ (num (g i).tok T = 0 ∨ m < num (g i).tok T)) ∧ ((g i).id ≠ 0 → (g i).id = num (g i).tok T ∧ num (g i).tok T ≤ now) := by
      intro hen
      have ht := hs.told hen
      by_cases k : Makes T (g i) m
      · have q := hs.makes k
        rw [if_neg (by omega)] at ht
        exact ⟨fun e => by omega, fun _ => ⟨ht, by omega⟩⟩
      · have q := hs.not k
        by_cases c : now < num (g i).tok T
        · rw [if_pos c] at ht
          refine ⟨fun _ => ⟨?_, .inr (by omega)⟩, fun e => absurd ht e⟩
          cases hc : (g i).ck with
          | false => rfl
          | true => exact absurd ⟨hc, .inr (by omega)⟩ k
        · rw [if_neg c] at ht
          refine ⟨fun e => ⟨?_, .inl (by omega)⟩, fun _ => ⟨ht, by omega⟩⟩
          cases hc : (g i).ck with
          | false => rfl
          | true => exact absurd ⟨hc, .inl (by omega)⟩ k
    refine ⟨fun a ha hf hen => ?_, fun j h1 h2 => ?_, fun j h1 a ha hf hen hia hna b hb hfb henb hib => ?_⟩
    · by_cases e : a = i
      · subst e
        have q := hid hen
        exact ⟨q.1, fun k => (q.2 k).1⟩
      · have q := F.ids a ha (by rw [upd_ne e]; exact hf) hen
        refine ⟨fun k => ⟨(q.1 k).1, ?_⟩, q.2⟩
        rcases (q.1 k).2 with q | q
        · exact .inl q
        · exact .inr (by omega)
    · by_cases c : now < j
      · obtain ⟨s, s1, s2, s3, s4, s5⟩ := F.cr j c h2
        refine ⟨s, s1, (upd_false s2).2, s3, s4, fun b hb hfb henb hib => ?_⟩
        by_cases e : b = i
        · subst e
          have := ((hid henb).2 (by omega)).2
          have := ((hid henb).2 (by omega)).1
          omega
        · exact s5 b hb (by rw [upd_ne e]; exact hfb) henb hib
      · have k : Makes T (g i) m := by
          by_cases k : Makes T (g i) m
          · exact k
          · have := hs.not k; omega
        have q := hs.makes k
        refine ⟨i, hs.lt, hs.may.2, k.1, by omega, fun b hb hfb henb hib => ?_⟩
        by_cases e : b = i
        · subst e
          have := (rightB_iff.1 (hr _ hb)).2.2.2.2 henb
          exact this.1
        · exact hs.may.1 b hb e hfb henb
    · by_cases ea : a = i
      · subst ea
        by_cases eb : b = a
        · subst eb; omega
        · exact hs.may.1 b hb eb hfb henb
      · have hfa : upd hv i a = false := by rw [upd_ne ea]; exact hf
        by_cases c : now < j
        · by_cases eb : b = i
          · subst eb
            have := ((hid henb).2 (by omega)).2
            have := ((hid henb).2 (by omega)).1
            omega
          · exact F.st j c a ha hfa hen hia hna b hb (by rw [upd_ne eb]; exact hfb) henb hib
        · have := ((F.ids a ha hfa hen).1 hia).2
          omega
/-- A row's bounds. -/
theorem Row.okay {g : Nat → Sn α} {l : List (Sn α)} {T : List α} (hg : ∀ k, (h : k < l.length) → l[k] = g k) (hr : ∀ s ∈ l, rightB s = true) (hn : T.Nodup) (h : Row g l.length T (fun _ => false) 0) : Okay l T := by
  have hrg : ∀ k, k < l.length → rightB (g k) = true := fun k hk => by rw [← hg k hk]; exact hr _ (List.getElem_mem hk)
  have F := Row.fut hrg h (Int.le_refl _)
  refine ⟨hr, twice_nodup hn, fun s hs => ?_, (rowB_iff (Int.le_refl _)).2 fun k hk => ?_⟩
  · obtain ⟨i, hi, rfl⟩ := List.getElem_of_mem hs
    rw [hg i hi]
    unfold wrongB
    by_cases e : (g i).en = 0
    · rw [if_pos e]
    · rw [if_neg e]
      have q := F.ids i hi rfl e
      by_cases z : (g i).id = 0
      · rw [if_pos z]; exact (q.1 z).1
      · rw [if_neg z, decide_eq_true (q.2 z)]; rfl
  · have hfirst : ∀ j, (hj : j < T.length) → first l T[j] < MT := fun j hj => by
      obtain ⟨s, s1, s2, s3, s4, s5⟩ := F.cr ((j : Int) + 1) (by omega) (by omega)
      have hs := rightB_iff.1 (hrg s s1)
      have htok : (g s).tok = T[j] := by
        obtain ⟨k', hk', e1, e2⟩ := num_pos_get (t := (g s).tok) (T := T) (by omega)
        have : k' = j := by omega
        subst this
        exact e1.symm
      have h1 : bgn l T[j] MT ≤ (g s).bg := bgn_le.2 (.inr ⟨g s, by rw [← hg s s1]; exact List.getElem_mem s1, htok, s3, Int.le_refl _⟩)
      have h2 : fst l T[j] 0 ≤ MT - 1 := fst_le.2 ⟨by decide, fun s hs _ _ _ _ => by have := (rightB_iff.1 (hr s hs)).2.1; omega⟩
      unfold first
      omega
    have hle : ∀ j, (hj : j ≤ k) → first l (T[j]'(by omega)) ≤ last l T[k] (1 + (k : Int)) := fun j hj => by
      have hjl : j < T.length := by omega
      refine le_lst.2 ⟨by have := hfirst j hjl; omega, fun b hb e1 e2 e3 => ?_⟩
      obtain ⟨i, hi, rfl⟩ := List.getElem_of_mem hb
      rw [hg i hi] at e1 e2 e3 ⊢
      obtain ⟨s, s1, s2, s3, s4, s5⟩ := F.cr ((j : Int) + 1) (by omega) (by omega)
      have htok : (g s).tok = T[j] := by
        obtain ⟨k', hk', e1, e2⟩ := num_pos_get (t := (g s).tok) (T := T) (by omega)
        have : k' = j := by omega
        subst this
        exact e1.symm
      have h1 : bgn l T[j] MT ≤ (g i).en := bgn_le.2 (.inr ⟨g s, by rw [← hg s s1]; exact List.getElem_mem s1, htok, s3, s5 i hi rfl e2 (by omega)⟩)
      have hri := rightB_iff.1 (hrg i hi)
      have h2 : fst l T[j] 0 ≤ (g i).en := fst_le.2 ⟨by have := (hri.2.2.2.2 e2).1; omega, fun a ha a1 a2 a3 a4 => by
        obtain ⟨i2, hi2, rfl⟩ := List.getElem_of_mem ha
        rw [hg i2 hi2] at a1 a2 a3 a4 ⊢
        exact F.st ((j : Int) + 1) (by omega) i2 hi2 rfl a3 a4 (by rw [a1]; exact num_get hn hjl) i hi rfl e2 (by omega)⟩
      unfold first
      omega
    refine ⟨hfirst k hk, le_lst.2 ⟨by decide, fun b hb e1 e2 e3 => ?_⟩, hle⟩
    have := rightB_iff.1 (hr b hb)
    have := (this.2.2.2.2 e2).1
    omega
end Go.Proofs.Ytmijalplheoekaa.P
