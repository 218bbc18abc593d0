/- What the reference's Right, may and number answer, in plain words. -/
import Derived.Test.YtmijalplheoekaaMc
import Derived.Test.YtmijalplheoekaaLg
import Derived.Test.YtmijalplheoekaaP8
import Derived.Test.YtmijalplheoekaaP18
import Derived.Test.YtmijalplheoekaaP19
namespace Go.Proofs.Ytmijalplheoekaa.P
open Go.RowKit Go.Maps Go.WideMaps Go.Proofs.YtmijalplheoekaaW.PrintWords Go.Proofs.YtmijalplheoekaaW.PrintLast Go.Proofs.YtmijalplheoekaaW.PrintMore
set_option linter.unusedVariables false
set_option linter.unusedSimpArgs false
theorem w64_nat {j : Nat} (h : j < 4611686018427387904) : wrap64 ((j : Int) + 1) = ((j + 1 : Nat) : Int) := by unfold wrap64; omega
/-- Sight number k. -/
def gS (l : List S31) (k : Nat) : Sn (List UInt8) := toSn (rd_T31 l (k : Int))
def gB (hv : List Bool) (k : Nat) : Bool := rdOf false hv (k : Int)
theorem gS_get (l : List S31) : ∀ k, (h : k < (l.map toSn).length) → (l.map toSn)[k] = gS l k := fun k h => by
  rw [List.length_map] at h
  rw [List.getElem_map]
  unfold gS rd_T31
  rw [Int.toNat_natCast, List.getD_eq_getElem?_getD, List.getElem?_eq_getElem h]
  rfl
theorem may_l0 (l : List S31) (hv : List Bool) (hl : hv.length = l.length) (hs : l.length < 4611686018427387904) (i : Nat) (hi : i < l.length) : ∀ (d j : Nat), j + d = l.length →
    ∃ b, pannierref25_may.l0 (d + 1) l hv (i : Int) (j : Int) = some b ∧ (b = true ↔ (∀ k, j ≤ k → k < l.length → k ≠ i → gB hv k = false → (gS l k).en ≠ 0 → (gS l i).bg ≤ (gS l k).en) ∧ gB hv i = false)
  | 0, j, hj => by
    refine ⟨!gB hv i, ?_, ?_⟩
    · simp only [pannierref25_may.l0]
      rw [if_neg (by omega), if_pos (by omega), if_pos (by omega)]
      rfl
    · rw [Bool.not_eq_true']
      exact ⟨fun h => ⟨fun k h1 h2 => absurd h2 (by omega), h⟩, fun h => h.2⟩
  | d + 1, j, hj => by
    obtain ⟨b, e, hb⟩ := may_l0 l hv hl hs i hi d (j + 1) (by omega)
    have hw := w64_nat (j := j) (by omega)
    rw [pannierref25_may.l0]
    rw [if_pos (by omega), hw]
    by_cases c1 : (j : Int) = (i : Int)
    · rw [if_pos c1]
      refine ⟨b, e, hb.trans ⟨fun h => ⟨fun k h1 h2 h3 => ?_, h.2⟩, fun h => ⟨fun k h1 => h.1 k (by omega), h.2⟩⟩⟩
      exact h.1 k (by omega) h2 h3
    · rw [if_neg c1, if_pos (by omega), if_pos (by omega)]
      by_cases c2 : rdOf false hv (j : Int) = true
      · rw [if_pos c2]
        refine ⟨b, e, hb.trans ⟨fun h => ⟨fun k h1 h2 h3 h4 => ?_, h.2⟩, fun h => ⟨fun k h1 => h.1 k (by omega), h.2⟩⟩⟩
        by_cases q : k = j
        · subst q
          unfold gB at h4
          rw [c2] at h4
          exact absurd h4 (by simp)
        · exact h.1 k (by omega) h2 h3 h4
      · rw [if_neg c2]
        by_cases c3 : (rd_T31 l (j : Int)).f3 = 0
        · rw [if_pos c3]
          refine ⟨b, e, hb.trans ⟨fun h => ⟨fun k h1 h2 h3 h4 h5 => ?_, h.2⟩, fun h => ⟨fun k h1 => h.1 k (by omega), h.2⟩⟩⟩
          by_cases q : k = j
          · subst q
            exact absurd c3 h5
          · exact h.1 k (by omega) h2 h3 h4 h5
        · rw [if_neg c3, if_pos (by omega), if_pos (by omega)]
          by_cases c4 : (rd_T31 l (j : Int)).f3 < (rd_T31 l (i : Int)).f2
          · rw [if_pos c4]
            refine ⟨false, rfl, ⟨fun h => absurd h (by simp), fun h => ?_⟩⟩
            have := h.1 j (Nat.le_refl _) (by omega) (by omega) (by unfold gB; simpa using c2) c3
            have h6 : (rd_T31 l (i : Int)).f2 ≤ (rd_T31 l (j : Int)).f3 := this
            omega
          · rw [if_neg c4]
            refine ⟨b, e, hb.trans ⟨fun h => ⟨fun k h1 h2 h3 h4 h5 => ?_, h.2⟩, fun h => ⟨fun k h1 => h.1 k (by omega), h.2⟩⟩⟩
            by_cases q : k = j
            · subst q
              show (rd_T31 l (i : Int)).f2 ≤ (rd_T31 l (k : Int)).f3
              omega
            · exact h.1 k (by omega) h2 h3 h4 h5
theorem may_f (l : List S31) (hv : List Bool) (hl : hv.length = l.length) (hs : l.length < 4611686018427387904) (i : Nat) (hi : i < l.length) : ∃ k b, pannierref25_may.f k l hv (i : Int) = some b ∧ (b = true ↔ MayP (gS l) l.length (gB hv) i) := by
  obtain ⟨b, e, hb⟩ := may_l0 l hv hl hs i hi l.length 0 (by omega)
  refine ⟨l.length + 1, b, e, hb.trans ⟨fun h => ⟨fun k h1 => h.1 k (Nat.zero_le _) h1, h.2⟩, fun h => ⟨fun k _ h1 => h.1 k h1, h.2⟩⟩⟩
theorem number_l0 (t : ByteArray) (T : List ByteArray) (hs : T.length < 4611686018427387904) : ∀ (d j : Nat), j + d = T.length → pannierref25_number.l0 (d + 1) t T (j : Int) = some (numAt T t.toList j)
  | 0, j, hj => by
    obtain rfl : j = T.length := by omega
    rw [pannierref25_number.l0, if_neg (by omega), numAt_end]
  | d + 1, j, hj => by
    have ih := number_l0 t T hs d (j + 1) (by omega)
    have hw := w64_nat (j := j) (by omega)
    have hjl : j < T.length := by omega
    rw [pannierref25_number.l0, if_pos (by omega), if_pos (by omega), hw, numAt_step hjl, rdOf_get hjl]
    by_cases c : T[j].toList = t.toList
    · rw [if_pos c, if_pos c]; rfl
    · rw [if_neg c, if_neg c, ih]
theorem number_f (t : ByteArray) (T : List ByteArray) (hs : T.length < 4611686018427387904) : ∃ k, pannierref25_number.f k t T = some (num t.toList (toks T)) :=
  ⟨T.length + 1, by
    have := number_l0 t T hs T.length 0 (by omega)
    rw [numAt_zero] at this
    exact this⟩
/-! ### Right -/
def Apart (T : List ByteArray) (a : Nat) : Prop := ∀ b, b < a → (rdOf ByteArray.empty T (b : Int)).toList ≠ (rdOf ByteArray.empty T (a : Int)).toList
theorem right_l2 (T : List ByteArray) (hs : T.length < 4611686018427387904) (i : Nat) (hi : i < T.length) (K : Nat) (r : Bool) (hK : pannierref25_Right.l1 K T ((i + 1 : Nat) : Int) = some r) : ∀ (d j : Nat), j + d = i →
    ∃ b, pannierref25_Right.l2 (K + d + 1) T (i : Int) (j : Int) = some b ∧ (b = true ↔ (∀ k, j ≤ k → k < i → (rdOf ByteArray.empty T (k : Int)).toList ≠ (rdOf ByteArray.empty T (i : Int)).toList) ∧ r = true)
  | 0, j, hj => by
    refine ⟨r, ?_, ⟨fun h => ⟨fun k h1 h2 => absurd h2 (by omega), h⟩, fun h => h.2⟩⟩
    rw [show K + 0 + 1 = K + 1 from rfl, pannierref25_Right.l2, if_neg (by omega), w64_nat (j := i) (by omega)]
    exact hK
  | d + 1, j, hj => by
    obtain ⟨b, e, hb⟩ := right_l2 T hs i hi K r hK d (j + 1) (by omega)
    rw [show K + (d + 1) + 1 = (K + d + 1) + 1 from rfl, pannierref25_Right.l2, if_pos (by omega), if_pos (by omega), if_pos (by omega), if_pos (by omega), if_pos (by omega), w64_nat (j := j) (by omega)]
    by_cases c : (rdOf ByteArray.empty T (j : Int)).toList = (rdOf ByteArray.empty T (i : Int)).toList
    · rw [if_pos c]
      exact ⟨false, rfl, ⟨fun h => absurd h (by simp), fun h => absurd c (h.1 j (Nat.le_refl _) (by omega))⟩⟩
    · rw [if_neg c]
      refine ⟨b, e, hb.trans ⟨fun h => ⟨fun k h1 h2 => ?_, h.2⟩, fun h => ⟨fun k h1 => h.1 k (by omega), h.2⟩⟩⟩
      by_cases q : k = j
      · subst q; exact c
      · exact h.1 k (by omega) h2
theorem right_l1 (T : List ByteArray) (hs : T.length < 4611686018427387904) : ∀ (d i : Nat), i + d = T.length → ∃ K b, pannierref25_Right.l1 K T (i : Int) = some b ∧ (b = true ↔ ∀ a, i ≤ a → a < T.length → Apart T a)
  | 0, i, hi => ⟨1, true, by rw [pannierref25_Right.l1, if_neg (by omega)], ⟨fun _ a h1 h2 => absurd h2 (by omega), fun _ => rfl⟩⟩
  | d + 1, i, hi => by
    obtain ⟨K, r, e, hr⟩ := right_l1 T hs d (i + 1) (by omega)
    obtain ⟨b, e2, hb⟩ := right_l2 T hs i (by omega) K r e i 0 (by omega)
    refine ⟨K + i + 1 + 1, b, ?_, hb.trans ⟨fun h a h1 h2 => ?_, fun h => ⟨fun k _ h2 => h i (Nat.le_refl _) (by omega) k h2, hr.2 (fun a h1 h2 => h a (by omega) h2)⟩⟩⟩
    · rw [pannierref25_Right.l1, if_pos (by omega)]
      exact e2
    · by_cases q : a = i
      · subst q
        exact fun b hb => h.1 b (Nat.zero_le _) hb
      · exact hr.1 h.2 a (by omega) h2
theorem right_l0 (l : List S31) (T : List ByteArray) (hs : l.length < 4611686018427387904) (K : Nat) (r : Bool) (hK : pannierref25_Right.l1 K T 0 = some r) : ∀ (d j : Nat), j + d = l.length →
    ∃ b, pannierref25_Right.l0 (K + d + 1) l T (j : Int) = some b ∧ (b = true ↔ (∀ k, j ≤ k → k < l.length → rightB (gS l k) = true) ∧ r = true)
  | 0, j, hj => by
    refine ⟨r, ?_, ⟨fun h => ⟨fun k h1 h2 => absurd h2 (by omega), h⟩, fun h => h.2⟩⟩
    rw [show K + 0 + 1 = K + 1 from rfl, pannierref25_Right.l0, if_neg (by omega)]
    exact hK
  | d + 1, j, hj => by
    obtain ⟨b, e, hb⟩ := right_l0 l T hs K r hK d (j + 1) (by omega)
    have hno : rightB (gS l j) = false → ((∀ k, j ≤ k → k < l.length → rightB (gS l k) = true) ∧ r = true) → False := fun h1 h2 => by
      have := h2.1 j (Nat.le_refl _) (by omega)
      rw [h1] at this
      exact absurd this (by simp)
    have hyes : rightB (gS l j) = true → (b = true ↔ (∀ k, j ≤ k → k < l.length → rightB (gS l k) = true) ∧ r = true) := fun h1 => hb.trans ⟨fun h => ⟨fun k h2 h3 => by
      by_cases q : k = j
      · subst q; exact h1
      · exact h.1 k (by omega) h3, h.2⟩, fun h => ⟨fun k h2 => h.1 k (by omega), h.2⟩⟩
    have hg1 : (gS l j).bg = (rd_T31 l (j : Int)).f2 := rfl
    have hg2 : (gS l j).en = (rd_T31 l (j : Int)).f3 := rfl
    have hg3 : (gS l j).id = (rd_T31 l (j : Int)).f4 := rfl
    have hiff := rightB_iff (s := gS l j)
    rw [hg1, hg2, hg3] at hiff
    have hF : ¬ (1 ≤ (rd_T31 l (j : Int)).f2 ∧ (rd_T31 l (j : Int)).f2 < MT ∧ (rd_T31 l (j : Int)).f3 < MT ∧ ((rd_T31 l (j : Int)).f3 = 0 → (rd_T31 l (j : Int)).f4 = 0) ∧ ((rd_T31 l (j : Int)).f3 ≠ 0 → (rd_T31 l (j : Int)).f2 ≤ (rd_T31 l (j : Int)).f3 ∧ 0 ≤ (rd_T31 l (j : Int)).f4)) → ∃ b', some false = some b' ∧ (b' = true ↔ (∀ k, j ≤ k → k < l.length → rightB (gS l k) = true) ∧ r = true) := fun h => by
      refine ⟨false, rfl, ⟨fun q => absurd q (by simp), fun q => ?_⟩⟩
      refine (hno ?_ q).elim
      cases hx : rightB (gS l j) with
      | false => rfl
      | true => exact absurd (hiff.1 hx) h
    rw [show K + (d + 1) + 1 = (K + d + 1) + 1 from rfl, pannierref25_Right.l0, if_pos (by omega), if_pos (by omega), w64_nat (j := j) (by omega)]
    by_cases c1 : (rd_T31 l (j : Int)).f2 < 1
    · rw [if_pos c1]; exact hF (fun h => by omega)
    · rw [if_neg c1]
      by_cases c2 : (rd_T31 l (j : Int)).f2 ≥ 4611686018427387904
      · rw [if_pos c2]; exact hF (fun h => by unfold MT at h; omega)
      · rw [if_neg c2]
        by_cases c3 : (rd_T31 l (j : Int)).f3 ≥ 4611686018427387904
        · rw [if_pos c3]; exact hF (fun h => by unfold MT at h; omega)
        · rw [if_neg c3]
          by_cases c4 : (rd_T31 l (j : Int)).f3 = 0
          · rw [if_pos c4]
            by_cases c5 : (rd_T31 l (j : Int)).f4 < 0
            · rw [if_pos c5]; exact hF (fun h => by have := h.2.2.2.1 c4; omega)
            · rw [if_neg c5]
              by_cases c6 : (rd_T31 l (j : Int)).f4 = 0
              · rw [if_pos c6]
                exact ⟨b, e, hyes (hiff.2 ⟨by omega, by unfold MT; omega, by unfold MT; omega, fun _ => c6, fun h => absurd c4 h⟩)⟩
              · rw [if_neg c6]; exact hF (fun h => c6 (h.2.2.2.1 c4))
          · rw [if_neg c4]
            by_cases c5 : (rd_T31 l (j : Int)).f3 < (rd_T31 l (j : Int)).f2
            · rw [if_pos c5]; exact hF (fun h => by have := (h.2.2.2.2 c4).1; omega)
            · rw [if_neg c5]
              by_cases c6 : (rd_T31 l (j : Int)).f4 < 0
              · rw [if_pos c6]; exact hF (fun h => by have := (h.2.2.2.2 c4).2; omega)
              · rw [if_neg c6]
                exact ⟨b, e, hyes (hiff.2 ⟨by omega, by unfold MT; omega, by unfold MT; omega, fun h => absurd h c4, fun _ => ⟨by omega, by omega⟩⟩)⟩
theorem apart_nodup (T : List ByteArray) : (∀ a, 0 ≤ a → a < T.length → Apart T a) ↔ (toks T).Nodup := by
  rw [List.nodup_iff_pairwise_ne, List.pairwise_iff_getElem]
  have hl : (toks T).length = T.length := by unfold toks; rw [List.length_map]
  have hget : ∀ k, (h : k < (toks T).length) → (toks T)[k] = (rdOf ByteArray.empty T (k : Int)).toList := fun k h => by
    rw [rdOf_get (by omega)]
    simp [toks]
  constructor
  · intro h i j hi hj hij
    rw [hget i hi, hget j hj]
    exact h j (Nat.zero_le _) (by omega) i hij
  · intro h a _ ha b hb
    have := h b a (by omega) (by omega) hb
    rw [hget b (by omega), hget a (by omega)] at this
    exact this
theorem nodup_twice {α : Type} [DecidableEq α] {T : List α} : T.Nodup ↔ twiceB T = false := by
  refine ⟨twice_nodup, fun h => ?_⟩
  rw [List.nodup_iff_count]
  intro a
  by_cases hm : a ∈ T
  · unfold twiceB at h
    rw [List.any_eq_false] at h
    have := h a hm
    have e : List.count a T = T.countP (fun u => decide (u = a)) := by
      unfold List.count
      congr 1
    rw [e]
    simpa using this
  · rw [List.count_eq_zero.2 hm]; omega
theorem right_f (l : List S31) (T : List ByteArray) (hs : l.length < 4611686018427387904) (ht : T.length < 4611686018427387904) : ∃ k b, pannierref25_Right.f k l T = some b ∧ (b = true ↔ (∀ s ∈ l.map toSn, rightB s = true) ∧ (toks T).Nodup) := by
  obtain ⟨K, r, e, hr⟩ := right_l1 T ht T.length 0 (by omega)
  obtain ⟨b, e2, hb⟩ := right_l0 l T hs K r e l.length 0 (by omega)
  refine ⟨K + l.length + 1, b, e2, hb.trans ?_⟩
  rw [hr, apart_nodup]
  refine and_congr_left fun _ => ⟨fun h s hm => ?_, fun h k _ hk => ?_⟩
  · obtain ⟨k, hk, rfl⟩ := List.getElem_of_mem hm
    rw [gS_get l k hk]
    exact h k (Nat.zero_le _) (by simpa using hk)
  · rw [← gS_get l k (by simpa using hk)]
    exact h _ (List.getElem_mem _)
end Go.Proofs.Ytmijalplheoekaa.P
