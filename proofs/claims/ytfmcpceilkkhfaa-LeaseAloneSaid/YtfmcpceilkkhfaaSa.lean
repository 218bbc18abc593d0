/- LeaseAlone in plain words: while the leader's lease counts, no majority lets another ballot through. -/
import Derived.Test.YtfmcpceilkkhfaaLu
import Derived.Test.YtfmcpceilkkhfaaTk
namespace Go.Proofs.Ytfmcpceilkkhfaa.P
open Go.RowKit Go.Proofs.YtfmcpceilkkhfaaW.PrintWords Go.Proofs.YtfmcpceilkkhfaaW.PrintLast Go.Proofs.YtfmcpceilkkhfaaW.PrintMore
set_option linter.unusedVariables false
set_option linter.unusedSimpArgs false
def upd {α : Type} (f : Nat → α) (k : Nat) (v : α) : Nat → α := fun j => if j = k then v else f j
theorem upd_eq {α : Type} (f : Nat → α) (k : Nat) (v : α) : upd f k v k = v := if_pos rfl
theorem upd_ne {α : Type} (f : Nat → α) {k j : Nat} (v : α) (h : j ≠ k) : upd f k v j = f j := if_neg h
/-- A moment of the leader's clock and one of node k's, not later than the former, and how far both have gone since. -/
def Near (d : Int) (now : List Int) (k : Nat) (A mm : Int) : Prop := mm ≤ rd now (k : Int) ∧ A ≤ rd now 0 ∧ (1000 - d) * (rd now (k : Int) - mm) ≤ (1000 + d) * (rd now 0 - A)
theorem Near.tick {d time : Int} {now on : List Int} {k : Nat} {A mm : Int} (h : Near d now k A mm) (ha : ArgOk now time on) (hk : keepsB time on d = true) (h0 : 0 < now.length) (hl : k < now.length) : Near d (addL now on) k A mm := by
  obtain ⟨h1, h2, h3⟩ := h
  simp only [keepsB, Bool.and_eq_true, List.all_eq_true] at hk
  obtain ⟨hd, ht, hf⟩ := hk
  have hd' : 0 ≤ d ∧ d ≤ 999 := by simpa [drB] using hd
  have f0 := hf (rd on ((0 : Nat) : Int)) (by
    have hm : (0 : Nat) < on.length := by have := ha.2.1; omega
    unfold rd
    rw [Int.toNat_natCast, List.getD_eq_getElem?_getD, List.getElem?_eq_getElem hm]
    exact List.getElem_mem hm)
  have fk := hf (rd on (k : Int)) (by
    have hm : k < on.length := by have := ha.2.1; omega
    unfold rd
    rw [Int.toNat_natCast, List.getD_eq_getElem?_getD, List.getElem?_eq_getElem hm]
    exact List.getElem_mem hm)
  simp only [fitB, Bool.and_eq_true, decide_eq_true_eq] at f0 fk
  have t0 := (tkB_iff.mp f0.1).1
  have tk := (tkB_iff.mp fk.1).1
  have e0 := rd_addL ha.2.1 0 (by omega)
  have ek := rd_addL ha.2.1 k (by omega)
  rw [show ((0 : Nat) : Int) = 0 from rfl] at e0 f0 t0
  have a1 : (1000 - d) * (1000 * rd on (k : Int)) ≤ (1000 - d) * ((1000 + d) * time) := Int.mul_le_mul_of_nonneg_left fk.2.2 (by omega)
  have a2 : (1000 + d) * ((1000 - d) * time) ≤ (1000 + d) * (1000 * rd on 0) := Int.mul_le_mul_of_nonneg_left f0.2.1 (by omega)
  have a3 : (1000 - d) * ((1000 + d) * time) = (1000 + d) * ((1000 - d) * time) := by rw [← Int.mul_assoc, ← Int.mul_assoc, Int.mul_comm (1000 - d)]
  have a4 : (1000 - d) * (1000 * rd on (k : Int)) = 1000 * ((1000 - d) * rd on (k : Int)) := by rw [← Int.mul_assoc, Int.mul_comm (1000 - d) 1000, Int.mul_assoc]
  have a5 : (1000 + d) * (1000 * rd on 0) = 1000 * ((1000 + d) * rd on 0) := by rw [← Int.mul_assoc, Int.mul_comm (1000 + d) 1000, Int.mul_assoc]
  have a6 : (1000 - d) * rd on (k : Int) ≤ (1000 + d) * rd on 0 := by omega
  unfold Near
  rw [e0, ek]
  refine ⟨by omega, by omega, ?_⟩
  rw [show rd now (k : Int) + rd on (k : Int) - mm = (rd now (k : Int) - mm) + rd on (k : Int) by omega, show rd now 0 + rd on 0 - A = (rd now 0 - A) + rd on 0 by omega, Int.mul_add, Int.mul_add]
  omega
/-- What holds at each move. -/
structure GA (m : Nat) (ls d tr : Int) (now asked : List Int) (lt : Nat → Bool) (bl un : Nat → Int) (ws : List (Int × Int)) : Prop where
  ways : ∀ x ∈ ws, (0 ≤ x.1 ∧ x.1 < (m : Int)) ∧ (0 ≤ x.2 ∧ x.2 ≤ MaxC) ∧ ∃ mm, Near d now x.1.toNat x.2 mm
  bal : ∀ k, k < m → bl k ≠ 6
  gr : ∀ k, k < m → rd asked (k : Int) = -1 ∨ ((0 ≤ rd asked (k : Int) ∧ rd asked (k : Int) ≤ MaxC) ∧ ∃ mm, Near d now k (rd asked (k : Int)) mm ∧ mm + ls ≤ un k ∧ (lt k = true → tr ≤ rd now 0 - rd asked (k : Int)))
  len : asked.length = m ∧ now.length = m
variable {m : Nat} {ls d tr time : Int} {now asked on : List Int} {lt : Nat → Bool} {bl un : Nat → Int} {ws ws' : List (Int × Int)}
theorem GA.askOk (h : GA m ls d tr now asked lt bl un ws) : AskOk asked := fun i hi => by
  rcases h.gr i (by rw [← h.len.1]; exact hi) with h | h
  · exact .inl h
  · exact .inr h.1
theorem GA.tick (h : GA m ls d tr now asked lt bl un ws) (hm : 0 < m) (ha : ArgOk now time on) (hk : keepsB time on d = true) : GA m ls d tr (addL now on) asked lt bl un ws := by
  have hlen := h.len
  have e0 := rd_addL ha.2.1 0 (by omega)
  have t0 : 0 ≤ rd on 0 := (tkB_iff.mp (rd_all ha.2.2 0 (by have := ha.2.1; omega))).1
  rw [show ((0 : Nat) : Int) = 0 from rfl] at e0
  refine ⟨fun x hx => ?_, h.bal, fun k hk2 => ?_, hlen.1, by rw [addL_length now on ha.2.1]; exact hlen.2⟩
  · obtain ⟨h1, h2, mm, h3⟩ := h.ways x hx
    exact ⟨h1, h2, mm, h3.tick ha hk (by omega) (by omega)⟩
  · rcases h.gr k hk2 with h1 | ⟨h1, mm, h2, h3, h4⟩
    · exact .inl h1
    · exact .inr ⟨h1, mm, h2.tick ha hk (by omega) (by omega), h3, fun hl => by have := h4 hl; rw [e0]; omega⟩
theorem GA.ask (h : GA m ls d tr now asked lt bl un ws) (k : Nat) (hk : k < m) (h0 : 0 ≤ rd now 0 ∧ rd now 0 ≤ MaxC) : GA m ls d tr now asked lt bl un (ws ++ [((k : Int), rd now 0)]) :=
  ⟨fun x hx => by
    rcases List.mem_append.1 hx with hx | hx
    · exact h.ways x hx
    · rw [List.mem_singleton] at hx
      subst hx
      refine ⟨⟨by show 0 ≤ (k : Int); omega, by show (k : Int) < m; omega⟩, h0, rd now (k : Int), ?_⟩
      show Near d now ((k : Int)).toNat (rd now 0) (rd now (k : Int))
      rw [Int.toNat_natCast]
      exact ⟨Int.le_refl _, Int.le_refl _, by simp⟩, h.bal, h.gr, h.len⟩
theorem GA.sub (h : GA m ls d tr now asked lt bl un ws) (hs : ∀ x ∈ ws', x ∈ ws) : GA m ls d tr now asked lt bl un ws' := ⟨fun x hx => h.ways x (hs x hx), h.bal, h.gr, h.len⟩
theorem mxI_le (a b : Int) : a ≤ mxI a b ∧ b ≤ mxI a b := by unfold mxI; split <;> omega
theorem rd_setN {l : List Int} {i j : Nat} {x : Int} (hi : i < l.length) : rd (l.set i x) (j : Int) = if j = i then x else rd l (j : Int) := by
  unfold rd
  rw [Int.toNat_natCast, List.getD_eq_getElem?_getD, List.getElem?_set, List.getD_eq_getElem?_getD]
  by_cases e : i = j
  · subst e; rw [if_pos rfl, if_pos hi, if_pos rfl]; rfl
  · rw [if_neg e, if_neg (fun q => e q.symm)]
theorem GA.grant (h : GA m ls d tr now asked lt bl un ws) {k : Nat} {A : Int} (hk : k < m) (hl : lt k = false) (hA : ((k : Int), A) ∈ ws) : GA m ls d tr now (grantL asked (k : Int) A) lt (upd bl k 5) (upd un k (mxI (un k) (rd now (k : Int) + ls))) ws := by
  obtain ⟨w1, w2, mm, w3⟩ := h.ways _ hA
  have w3 : Near d now k A mm := by have e : ((k : Int)).toNat = k := Int.toNat_natCast k; rw [← e]; exact w3
  have hlen := h.len
  have hmx := mxI_le (un k) (rd now (k : Int) + ls)
  have e : grantL asked (k : Int) A = asked.set k (if rd asked (k : Int) < A then A else rd asked (k : Int)) := by
    unfold grantL
    rw [if_pos ⟨⟨by omega, by omega⟩, nowB_iff.mpr w2⟩, Int.toNat_natCast]
  rw [e]
  refine ⟨h.ways, fun j hj => ?_, fun j hj => ?_, by rw [List.length_set]; exact hlen.1, hlen.2⟩
  · by_cases q : j = k
    · subst q; rw [upd_eq]; decide
    · rw [upd_ne _ _ q]; exact h.bal j hj
  · rw [rd_setN (by omega)]
    by_cases q : j = k
    · subst q
      rw [if_pos rfl, upd_eq]
      refine .inr ?_
      have hnew : ((0 ≤ A ∧ A ≤ MaxC) ∧ ∃ mm, Near d now j A mm ∧ mm + ls ≤ mxI (un j) (rd now (j : Int) + ls) ∧ (lt j = true → tr ≤ rd now 0 - A)) := ⟨w2, mm, w3, by have := w3.1; omega, fun e => by rw [hl] at e; cases e⟩
      rcases h.gr j hj with h1 | ⟨h1, mm2, h2, h3, h4⟩
      · have hlt : rd asked (j : Int) < A := by have h5 : 0 ≤ A := w2.1; omega
        rw [if_pos hlt]
        exact hnew
      · by_cases hlt : rd asked (j : Int) < A
        · rw [if_pos hlt]
          exact hnew
        · rw [if_neg hlt]
          exact ⟨h1, mm2, h2, by omega, h4⟩
    · rw [if_neg q, upd_ne _ _ q]
      exact h.gr j hj
theorem GA.crash (h : GA m ls d tr now asked lt bl un ws) {k : Nat} (hk : k < m) : GA m ls d tr now asked lt (upd bl k 0) (upd un k (mxI 0 (rd now (k : Int) + ls))) ws := by
  have hmx := mxI_le 0 (rd now (k : Int) + ls)
  refine ⟨h.ways, fun j hj => ?_, fun j hj => ?_, h.len⟩
  · by_cases q : j = k
    · subst q; rw [upd_eq]; decide
    · rw [upd_ne _ _ q]; exact h.bal j hj
  · by_cases q : j = k
    · subst q
      rw [upd_eq]
      rcases h.gr j hj with h1 | ⟨h1, mm2, h2, h3, h4⟩
      · exact .inl h1
      · exact .inr ⟨h1, mm2, h2, by have := h2.1; omega, h4⟩
    · rw [upd_ne _ _ q]
      exact h.gr j hj
theorem trust_le {x y : Int} (hd : 0 ≤ d ∧ d ≤ 999) (h : (1000 - d) * x ≤ (1000 + d) * y) (hx : ls ≤ x) : ls * (1000 - d) / (1000 + d) ≤ y := by
  have h1 : (1000 - d) * ls ≤ (1000 - d) * x := Int.mul_le_mul_of_nonneg_left hx (by omega)
  have h2 : ls * (1000 - d) ≤ y * (1000 + d) := by rw [Int.mul_comm ls, Int.mul_comm y]; omega
  have h3 := Int.ediv_le_ediv (show (0 : Int) < 1000 + d by omega) h2
  rw [Int.mul_ediv_cancel _ (by omega)] at h3
  exact h3
theorem GA.lets (h : GA m ls d tr now asked lt bl un ws) (hd : 0 ≤ d ∧ d ≤ 999) (htr : tr = ls * (1000 - d) / (1000 + d)) {k : Nat} (hk : k < m) (hu : un k ≤ rd now (k : Int)) : GA m ls d tr now asked (upd lt k true) bl un ws := by
  refine ⟨h.ways, h.bal, fun j hj => ?_, h.len⟩
  rcases h.gr j hj with h1 | ⟨h1, mm2, h2, h3, h4⟩
  · exact .inl h1
  · refine .inr ⟨h1, mm2, h2, h3, fun hl => ?_⟩
    by_cases q : j = k
    · subst q
      rw [htr]
      exact trust_le hd h2.2.2 (by omega)
    · rw [upd_ne _ _ q] at hl
      exact h4 hl
theorem blocks_no {r n u now : Int} (hr : r ≠ 6) (h : blocksB r n u 6 1 now = false) : u ≤ now := by
  unfold blocksB at h
  have e : ((6 : Int) == r && (1 : Int) == n) = false := by rw [Bool.and_eq_false_iff]; left; rw [beq_eq_false_iff_ne]; exact fun q => hr q.symm
  rw [e] at h
  have : decide (now < u) = false := by simpa using h
  rw [decide_eq_false_iff_not] at this
  omega
/-- How many let another through, how many grants count: together no more than there are. -/
theorem GA.apart (h : GA m ls d tr now asked lt bl un ws) : ∀ j : Nat, j ≤ m → (asked.take j).countP (cntOk tr (rd now 0)) + (List.range j).countP lt ≤ j
  | 0, _ => by simp
  | j + 1, hj => by
    have ih := GA.apart h j (by omega)
    have hj2 : j < asked.length := by have := h.len.1; omega
    have e : rd asked (j : Int) = asked[j] := by unfold rd; rw [Int.toNat_natCast, List.getD_eq_getElem?_getD, List.getElem?_eq_getElem hj2]; rfl
    rw [List.take_succ_eq_append_getElem hj2, List.countP_append, List.range_succ, List.countP_append, List.countP_singleton, List.countP_singleton, ← e]
    by_cases hl : lt j = true
    · have hc : cntOk tr (rd now 0) (rd asked (j : Int)) = false := by
        unfold cntOk
        rcases h.gr j (by omega) with h1 | ⟨h1, mm, h2, h3, h4⟩
        · rw [h1]; rfl
        · have := h4 hl
          rw [decide_eq_false (show ¬ rd now 0 - rd asked (j : Int) < tr by omega), Bool.and_false, Bool.and_false]
      rw [hc, hl]
      simp
      omega
    · have hl : lt j = false := by simpa using hl
      rw [hl]
      split <;> simp <;> omega
theorem GA.safe (h : GA m ls d tr now asked lt bl un ws) (hc : countsB asked tr (rd now 0) = true) : ¬ ((m : Int) / 2 < (((List.range m).countP lt : Nat) : Int)) := by
  have h1 := h.apart m (Nat.le_refl _)
  rw [List.take_of_length_le (by have := h.len.1; omega)] at h1
  unfold countsB at hc
  rw [decide_eq_true_eq] at hc
  have := h.len.1
  omega
theorem GA.start (hm : 0 < m) : GA m ls d tr (List.replicate m 0) (List.replicate m (-1)) (fun _ => false) (fun _ => 0) (fun _ => 0) [] := by
  refine ⟨fun x hx => absurd hx (by simp), fun k hk => by decide, fun k hk => .inl ?_, by simp, by simp⟩
  unfold rd
  rw [Int.toNat_natCast, List.getD_eq_getElem?_getD, List.getElem?_replicate, if_pos hk]
  rfl
end Go.Proofs.Ytfmcpceilkkhfaa.P
