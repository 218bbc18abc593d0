/- LinSerial in plain words: calls that are done one behind the other have a row. -/
import Derived.Test.YtmijalplheoekaaLp
namespace Go.Proofs.Ytmijalplheoekaa.P
set_option linter.unusedVariables false
set_option linter.unusedSectionVars false
variable {α : Type} [DecidableEq α]
theorem num_nonneg (t : α) : ∀ T : List α, 0 ≤ num t T
  | [] => by simp [num]
  | x :: xs => by have := num_nonneg t xs; unfold num; split; omega; split <;> omega
theorem num_zero {t : α} : ∀ {T : List α}, num t T = 0 ↔ t ∉ T
  | [] => by simp [num]
  | x :: xs => by
    have ih := num_zero (t := t) (T := xs)
    have h0 := num_nonneg t xs
    unfold num
    by_cases h : x = t
    · rw [if_pos h]; exact ⟨fun q => by omega, fun q => absurd (h ▸ List.mem_cons_self ..) q⟩
    · rw [if_neg h]
      by_cases k : num t xs = 0
      · rw [if_pos k]
        exact ⟨fun _ q => (List.mem_cons.1 q).elim (fun e => h e.symm) (ih.1 k), fun _ => rfl⟩
      · rw [if_neg k]
        exact ⟨fun q => by omega, fun q => absurd (ih.2 (fun m => q (List.mem_cons_of_mem _ m))) k⟩
theorem num_app_old {x t : α} : ∀ {T : List α}, num x T ≠ 0 → num x (T ++ [t]) = num x T
  | [], h => absurd rfl h
  | y :: ys, h => by
    have ih := num_app_old (x := x) (t := t) (T := ys)
    show (if y = x then 1 else (if num x (ys ++ [t]) = 0 then 0 else num x (ys ++ [t]) + 1)) = (if y = x then 1 else (if num x ys = 0 then 0 else num x ys + 1))
    by_cases k : y = x
    · rw [if_pos k, if_pos k]
    · rw [if_neg k, if_neg k]
      by_cases z : num x ys = 0
      · exact absurd (show num x (y :: ys) = 0 by unfold num; rw [if_neg k, if_pos z]) h
      · rw [ih z]
theorem num_app_new {t : α} : ∀ {T : List α}, t ∉ T → num t (T ++ [t]) = T.length + 1
  | [], _ => by simp [num]
  | y :: ys, h => by
    have ih := num_app_new (t := t) (T := ys) (fun q => h (List.mem_cons_of_mem _ q))
    show (if y = t then 1 else (if num t (ys ++ [t]) = 0 then 0 else num t (ys ++ [t]) + 1)) = _
    have hy : ¬ y = t := fun e => h (by rw [e]; exact List.mem_cons_self ..)
    rw [if_neg hy, ih, if_neg (by omega), List.length_cons]
    omega
theorem countP_once {T : List α} (h : T.Nodup) (t : α) : T.countP (fun u => decide (u = t)) ≤ 1 := by
  induction T with
  | nil => simp
  | cons x xs ih =>
    rw [List.nodup_cons] at h
    rw [List.countP_cons]
    by_cases k : x = t
    · have : xs.countP (fun u => decide (u = t)) = 0 := by
        rw [List.countP_eq_zero]
        intro y hy
        simp only [decide_eq_true_eq]
        exact fun e => h.1 (by rw [k, ← e]; exact hy)
      rw [this]; simp [k]
    · have := ih h.2
      simp [k]
      exact this
theorem twice_nodup {T : List α} (h : T.Nodup) : twiceB T = false := by
  unfold twiceB
  rw [List.any_eq_false]
  intro t ht
  have := countP_once h t
  simp only [decide_eq_true_eq]
  omega
/-- What LinSerial makes of calls. -/
def serial : List (Bool × α) → Nat → List α → List (Sn α) → List α × List (Sn α)
  | [], _, T, S => (T, S)
  | p :: r, i, T, S => if num p.2 T = 0 ∧ p.1 = true then serial r (i + 1) (T ++ [p.2]) (S ++ [⟨p.1, p.2, 2 * (i : Int) + 1, 2 * (i : Int) + 2, (T.length : Int) + 1⟩])
    else serial r (i + 1) T (S ++ [⟨p.1, p.2, 2 * (i : Int) + 1, 2 * (i : Int) + 2, num p.2 T⟩])
structure SInv (i : Nat) (T : List α) (S : List (Sn α)) : Prop where
  nod : T.Nodup
  each : ∀ s ∈ S, ∃ j : Nat, j < i ∧ s.bg = 2 * (j : Int) + 1 ∧ s.en = 2 * (j : Int) + 2 ∧ 0 ≤ s.id
  ids : ∀ s ∈ S, (s.id = 0 → s.ck = false) ∧ (s.id ≠ 0 → s.id = num s.tok T)
  cr : ∃ c : Nat → Nat, (∀ j k, j < k → k < T.length → c j < c k) ∧ ∀ j, (h : j < T.length) → c j < i ∧ (∃ s ∈ S, s.tok = T[j] ∧ s.ck = true ∧ s.bg = 2 * (c j : Int) + 1) ∧ (∀ s ∈ S, s.tok = T[j] → s.id = 0 → s.bg ≤ 2 * (c j : Int) + 1) ∧ (∀ s ∈ S, s.tok = T[j] → s.id ≠ 0 → 2 * (c j : Int) + 2 ≤ s.en)
theorem SInv.nil : SInv 0 ([] : List α) [] := ⟨List.nodup_nil, fun s h => by simp at h, fun s h => by simp at h, fun _ => 0, fun j k _ h => by simp at h, fun j h => by simp at h⟩
theorem SInv.more {i : Nat} {T : List α} {S : List (Sn α)} (h : SInv i T S) (c : Bool) (t : α) (hc : num t T = 0 → c = false) : SInv (i + 1) T (S ++ [⟨c, t, 2 * (i : Int) + 1, 2 * (i : Int) + 2, num t T⟩]) := by
  have hm : ∀ s ∈ S ++ [(⟨c, t, 2 * (i : Int) + 1, 2 * (i : Int) + 2, num t T⟩ : Sn α)], s ∈ S ∨ s = ⟨c, t, 2 * (i : Int) + 1, 2 * (i : Int) + 2, num t T⟩ := fun s hs => by simpa using hs
  obtain ⟨f, f1, f2⟩ := h.cr
  refine ⟨h.nod, fun s hs => ?_, fun s hs => ?_, f, f1, fun j hj => ?_⟩
  · rcases hm s hs with q | rfl
    · obtain ⟨j, q1, q2⟩ := h.each s q; exact ⟨j, by omega, q2⟩
    · exact ⟨i, by omega, rfl, rfl, num_nonneg _ _⟩
  · rcases hm s hs with q | rfl
    · exact h.ids s q
    · exact ⟨hc, fun _ => rfl⟩
  · obtain ⟨g1, ⟨s0, g2, g3⟩, g4, g5⟩ := f2 j hj
    refine ⟨by omega, ⟨s0, List.mem_append_left _ g2, g3⟩, fun s hs e1 e2 => ?_, fun s hs e1 e2 => ?_⟩
    · rcases hm s hs with q | rfl
      · exact g4 s q e1 e2
      · exact absurd (show T[j] ∈ T from List.getElem_mem hj) (num_zero.1 (show num T[j] T = 0 by rw [← e1]; exact e2))
    · rcases hm s hs with q | rfl
      · exact g5 s q e1 e2
      · show 2 * (f j : Int) + 2 ≤ 2 * (i : Int) + 2
        omega
theorem SInv.add {i : Nat} {T : List α} {S : List (Sn α)} (h : SInv i T S) (t : α) (ht : num t T = 0) : SInv (i + 1) (T ++ [t]) (S ++ [⟨true, t, 2 * (i : Int) + 1, 2 * (i : Int) + 2, (T.length : Int) + 1⟩]) := by
  have hm : ∀ s ∈ S ++ [(⟨true, t, 2 * (i : Int) + 1, 2 * (i : Int) + 2, (T.length : Int) + 1⟩ : Sn α)], s ∈ S ∨ s = ⟨true, t, 2 * (i : Int) + 1, 2 * (i : Int) + 2, (T.length : Int) + 1⟩ := fun s hs => by simpa using hs
  have hnt := num_zero.1 ht
  obtain ⟨f, f1, f2⟩ := h.cr
  refine ⟨?_, fun s hs => ?_, fun s hs => ?_, fun j => if j = T.length then i else f j, fun j k hjk hk => ?_, fun j hj => ?_⟩
  · rw [List.nodup_append]
    refine ⟨h.nod, by simp, fun a ha b hb => ?_⟩
    rw [List.mem_singleton] at hb
    exact fun e => hnt (by rw [← hb, ← e]; exact ha)
  · rcases hm s hs with q | rfl
    · obtain ⟨j, q1, q2⟩ := h.each s q; exact ⟨j, by omega, q2⟩
    · exact ⟨i, by omega, rfl, rfl, by show (0 : Int) ≤ (T.length : Int) + 1; omega⟩
  · rcases hm s hs with q | rfl
    · refine ⟨(h.ids s q).1, fun e => ?_⟩
      have := (h.ids s q).2 e
      rw [num_app_old (by rw [← this]; exact e)]
      exact this
    · exact ⟨fun e => by have e : (T.length : Int) + 1 = 0 := e; omega, fun _ => by show (T.length : Int) + 1 = _; rw [num_app_new hnt]⟩
  · rw [List.length_append, List.length_singleton] at hk
    dsimp only
    by_cases e : k = T.length
    · rw [if_pos e, if_neg (by omega)]
      exact (f2 j (by omega)).1
    · rw [if_neg e, if_neg (by omega)]
      exact f1 j k hjk (by omega)
  · rw [List.length_append, List.length_singleton] at hj
    dsimp only
    by_cases e : j = T.length
    · subst e
      rw [if_pos rfl, List.getElem_append_right (Nat.le_refl _)]
      simp only [Nat.sub_self, List.getElem_cons_zero]
      refine ⟨by omega, ⟨_, List.mem_append_right _ (List.mem_singleton_self _), rfl, rfl, rfl⟩, fun s hs e1 e2 => ?_, fun s hs e1 e2 => ?_⟩
      · rcases hm s hs with q | rfl
        · obtain ⟨j, q1, q2, _⟩ := h.each s q; omega
        · exact Int.le_refl _
      · rcases hm s hs with q | rfl
        · have := (h.ids s q).2 e2
          rw [e1, ht] at this
          exact absurd this e2
        · exact Int.le_refl _
    · rw [if_neg e, List.getElem_append_left (by omega)]
      obtain ⟨g1, ⟨s0, g2, g3⟩, g4, g5⟩ := f2 j (by omega)
      have hne : t ≠ T[j]'(by omega) := fun q => hnt (by rw [q]; exact List.getElem_mem _)
      refine ⟨by omega, ⟨s0, List.mem_append_left _ g2, g3⟩, fun s hs e1 e2 => ?_, fun s hs e1 e2 => ?_⟩
      · rcases hm s hs with q | rfl
        · exact g4 s q e1 e2
        · exact absurd e1 hne
      · rcases hm s hs with q | rfl
        · exact g5 s q e1 e2
        · exact absurd e1 hne
theorem SInv.okay {i : Nat} {T : List α} {S : List (Sn α)} (h : SInv i T S) (hi : i ≤ 1000) : Okay S T := by
  obtain ⟨f, f1, f2⟩ := h.cr
  refine ⟨fun s hs => ?_, twice_nodup h.nod, fun s hs => ?_, (rowB_iff (Int.le_refl _)).2 fun k hk => ?_⟩
  · obtain ⟨j, q1, q2, q3, q4⟩ := h.each s hs
    exact rightB_iff.2 ⟨by omega, by unfold MT; omega, by unfold MT; omega, fun e => by omega, fun _ => ⟨by omega, q4⟩⟩
  · obtain ⟨j, q1, q2, q3, q4⟩ := h.each s hs
    unfold wrongB
    rw [if_neg (by omega)]
    by_cases e : s.id = 0
    · rw [if_pos e]; exact (h.ids s hs).1 e
    · rw [if_neg e, decide_eq_true ((h.ids s hs).2 e)]; rfl
  · have hfst : ∀ j, (hj : j < T.length) → first S T[j] ≤ 2 * (f j : Int) + 1 := fun j hj => by
      obtain ⟨g1, ⟨s0, g2, g3, g4, g5⟩, g6, g7⟩ := f2 j hj
      have h1 : fst S T[j] 0 ≤ 2 * (f j : Int) + 1 := fst_le.2 ⟨by omega, fun s hs e1 e2 e3 e4 => g6 s hs e1 e4⟩
      have h2 : bgn S T[j] MT ≤ 2 * (f j : Int) + 1 := bgn_le.2 (.inr ⟨s0, g2, g3, g4, by omega⟩)
      unfold first; omega
    have hlst : 2 * (f k : Int) + 2 ≤ last S T[k] (1 + (k : Int)) := by
      obtain ⟨g1, _, _, g7⟩ := f2 k hk
      exact le_lst.2 ⟨by unfold MT; omega, fun s hs e1 e2 e3 => g7 s hs e1 (by omega)⟩
    have hk1 := (f2 k hk).1
    refine ⟨by have := hfst k hk; unfold MT; omega, by omega, fun j hj => ?_⟩
    have h3 := hfst j (by omega)
    rcases Nat.lt_or_ge j k with q | q
    · have := f1 j k q hk; omega
    · obtain rfl : j = k := by omega
      omega
theorem serial_inv : ∀ (r : List (Bool × α)) (i : Nat) (T : List α) (S : List (Sn α)), SInv i T S → SInv (i + r.length) (serial r i T S).1 (serial r i T S).2
  | [], i, T, S, h => h
  | p :: r, i, T, S, h => by
    rw [show i + (p :: r).length = i + 1 + r.length by simp; omega]
    unfold serial
    by_cases q : num p.2 T = 0 ∧ p.1 = true
    · rw [if_pos q]
      have := h.add p.2 q.1
      rw [← q.2] at this
      exact serial_inv r (i + 1) _ _ this
    · rw [if_neg q]
      exact serial_inv r (i + 1) _ _ (h.more p.1 p.2 (fun e => by
        cases hp : p.1 with
        | false => rfl
        | true => exact absurd ⟨e, hp⟩ q))
/-- LinSerial. -/
theorem serial_okay (r : List (Bool × α)) (h : r.length ≤ 300) : Okay (serial r 0 [] []).2 (serial r 0 [] []).1 := (serial_inv r 0 [] [] SInv.nil).okay (by omega)
end Go.Proofs.Ytmijalplheoekaa.P
