/- What lin.Check answers, in plain words on lists; and why fewer or looser sights still have a row. -/
namespace Go.Proofs.Ytmijalplheoekaa.P
set_option linter.unusedVariables false
set_option linter.unusedSectionVars false
/-- A sight. -/
structure Sn (α : Type) where
  ck : Bool
  tok : α
  bg : Int
  en : Int
  id : Int
variable {α : Type} [DecidableEq α]
def MT : Int := 4611686018427387904
def rightB (s : Sn α) : Bool := if decide (MT ≤ s.bg) || decide (MT ≤ s.en) then false else if s.en = 0 then decide (1 ≤ s.bg) && decide (s.id = 0) else decide (1 ≤ s.bg) && (decide (s.bg ≤ s.en) && decide (0 ≤ s.id))
theorem rightB_iff {s : Sn α} : rightB s = true ↔ 1 ≤ s.bg ∧ s.bg < MT ∧ s.en < MT ∧ (s.en = 0 → s.id = 0) ∧ (s.en ≠ 0 → s.bg ≤ s.en ∧ 0 ≤ s.id) := by
  unfold rightB
  by_cases h1 : MT ≤ s.bg
  · rw [decide_eq_true h1, Bool.true_or, if_pos rfl]
    exact ⟨fun h => absurd h (by simp), fun h => by omega⟩
  · rw [decide_eq_false h1, Bool.false_or]
    by_cases h2 : MT ≤ s.en
    · rw [decide_eq_true h2, if_pos rfl]
      exact ⟨fun h => absurd h (by simp), fun h => by omega⟩
    · rw [decide_eq_false h2, if_neg (by simp)]
      by_cases h3 : s.en = 0
      · rw [if_pos h3, Bool.and_eq_true, decide_eq_true_eq, decide_eq_true_eq]
        exact ⟨fun h => ⟨h.1, by omega, by omega, fun _ => h.2, fun q => absurd h3 q⟩, fun h => ⟨h.1, h.2.2.2.1 h3⟩⟩
      · rw [if_neg h3, Bool.and_eq_true, Bool.and_eq_true, decide_eq_true_eq, decide_eq_true_eq, decide_eq_true_eq]
        exact ⟨fun h => ⟨h.1, by omega, by omega, fun q => absurd q h3, fun _ => h.2⟩, fun h => ⟨h.1, h.2.2.2.2 h3⟩⟩
/-- The number of a token's order: one more than where it first stands; 0: it stands nowhere. -/
def num (t : α) : List α → Int
  | [] => 0
  | x :: xs => if x = t then 1 else (if num t xs = 0 then 0 else num t xs + 1)
def wrongB (tokens : List α) (s : Sn α) : Bool := if s.en = 0 then false else if s.id = 0 then s.ck else !decide (s.id = num s.tok tokens)
def bgn (l : List (Sn α)) (t : α) (a : Int) : Int := l.foldl (fun a s => if s.tok = t ∧ s.ck = true then min a s.bg else a) a
def fst (l : List (Sn α)) (t : α) (a : Int) : Int := l.foldl (fun a s => if s.tok = t ∧ s.ck = false ∧ s.en ≠ 0 ∧ s.id = 0 then max a s.bg else a) a
def lst (l : List (Sn α)) (t : α) (i a : Int) : Int := l.foldl (fun a s => if s.tok = t ∧ s.en ≠ 0 ∧ s.id = i then min a s.en else a) a
theorem bgn_le {l : List (Sn α)} {t : α} {a v : Int} : bgn l t a ≤ v ↔ a ≤ v ∨ ∃ s ∈ l, s.tok = t ∧ s.ck = true ∧ s.bg ≤ v := by
  induction l generalizing a with
  | nil => simp [bgn]
  | cons x l ih =>
    show bgn l t _ ≤ v ↔ _
    rw [ih]
    dsimp only
    by_cases h : x.tok = t ∧ x.ck = true
    · rw [if_pos h]
      constructor
      · rintro (q | ⟨s, hs, q⟩)
        · by_cases k : a ≤ v
          · exact .inl k
          · exact .inr ⟨x, List.mem_cons_self .., h.1, h.2, by omega⟩
        · exact .inr ⟨s, List.mem_cons_of_mem _ hs, q⟩
      · rintro (q | ⟨s, hs, q⟩)
        · exact .inl (by omega)
        · rcases List.mem_cons.1 hs with rfl | hs
          · exact .inl (by omega)
          · exact .inr ⟨s, hs, q⟩
    · rw [if_neg h]
      constructor
      · rintro (q | ⟨s, hs, q⟩)
        · exact .inl q
        · exact .inr ⟨s, List.mem_cons_of_mem _ hs, q⟩
      · rintro (q | ⟨s, hs, q⟩)
        · exact .inl q
        · rcases List.mem_cons.1 hs with rfl | hs
          · exact absurd ⟨q.1, q.2.1⟩ h
          · exact .inr ⟨s, hs, q⟩
theorem fst_le {l : List (Sn α)} {t : α} {a v : Int} : fst l t a ≤ v ↔ a ≤ v ∧ ∀ s ∈ l, s.tok = t → s.ck = false → s.en ≠ 0 → s.id = 0 → s.bg ≤ v := by
  induction l generalizing a with
  | nil => simp [fst]
  | cons x l ih =>
    show fst l t _ ≤ v ↔ _
    rw [ih]
    dsimp only
    by_cases h : x.tok = t ∧ x.ck = false ∧ x.en ≠ 0 ∧ x.id = 0
    · rw [if_pos h]
      constructor
      · rintro ⟨q1, q2⟩
        refine ⟨by omega, fun s hs e1 e2 e3 e4 => ?_⟩
        rcases List.mem_cons.1 hs with rfl | hs
        · omega
        · exact q2 s hs e1 e2 e3 e4
      · rintro ⟨q1, q2⟩
        have := q2 x (List.mem_cons_self ..) h.1 h.2.1 h.2.2.1 h.2.2.2
        exact ⟨by omega, fun s hs => q2 s (List.mem_cons_of_mem _ hs)⟩
    · rw [if_neg h]
      constructor
      · rintro ⟨q1, q2⟩
        refine ⟨q1, fun s hs e1 e2 e3 e4 => ?_⟩
        rcases List.mem_cons.1 hs with rfl | hs
        · exact absurd ⟨e1, e2, e3, e4⟩ h
        · exact q2 s hs e1 e2 e3 e4
      · rintro ⟨q1, q2⟩
        exact ⟨q1, fun s hs => q2 s (List.mem_cons_of_mem _ hs)⟩
theorem le_lst {l : List (Sn α)} {t : α} {i a v : Int} : v ≤ lst l t i a ↔ v ≤ a ∧ ∀ s ∈ l, s.tok = t → s.en ≠ 0 → s.id = i → v ≤ s.en := by
  induction l generalizing a with
  | nil => simp [lst]
  | cons x l ih =>
    show v ≤ lst l t i _ ↔ _
    rw [ih]
    dsimp only
    by_cases h : x.tok = t ∧ x.en ≠ 0 ∧ x.id = i
    · rw [if_pos h]
      constructor
      · rintro ⟨q1, q2⟩
        refine ⟨by omega, fun s hs e1 e2 e3 => ?_⟩
        rcases List.mem_cons.1 hs with rfl | hs
        · omega
        · exact q2 s hs e1 e2 e3
      · rintro ⟨q1, q2⟩
        have := q2 x (List.mem_cons_self ..) h.1 h.2.1 h.2.2
        exact ⟨by omega, fun s hs => q2 s (List.mem_cons_of_mem _ hs)⟩
    · rw [if_neg h]
      constructor
      · rintro ⟨q1, q2⟩
        refine ⟨q1, fun s hs e1 e2 e3 => ?_⟩
        rcases List.mem_cons.1 hs with rfl | hs
        · exact absurd ⟨e1, e2, e3⟩ h
        · exact q2 s hs e1 e2 e3
      · rintro ⟨q1, q2⟩
        exact ⟨q1, fun s hs => q2 s (List.mem_cons_of_mem _ hs)⟩
/-- When an order must come: not before, and not behind. -/
def first (l : List (Sn α)) (t : α) : Int := max (fst l t 0) (bgn l t MT)
def last (l : List (Sn α)) (t : α) (i : Int) : Int := lst l t i MT
/-- The loop of Check over the tokens from number i on. -/
def rowB (l : List (Sn α)) : List α → Int → Int → Bool
  | [], _, _ => true
  | t :: ts, i, most => if decide (MT ≤ first l t) || decide (last l t i < max most (first l t)) then false else rowB l ts (i + 1) (max most (first l t))
def twiceB (tokens : List α) : Bool := tokens.any fun t => decide (1 < tokens.countP (fun u => decide (u = t)))
/-- Check's answer: 0: there is a row; 1: what was told may not be; 2: none (the numbers of the errors stand elsewhere). -/
def checkC (l : List (Sn α)) (tokens : List α) (eArg eRow : Int) : Int := if l.any (fun s => !rightB s) || twiceB tokens then eArg else if l.any (wrongB tokens) then eRow else if rowB l tokens 1 0 then 0 else eRow
theorem first_nonneg (l : List (Sn α)) (t : α) : 0 ≤ first l t := by
  have : ¬ fst l t 0 ≤ -1 := fun h => by have := (fst_le.1 h).1; omega
  unfold first; omega
theorem rowB_iff {l : List (Sn α)} {ts : List α} {i most : Int} (hm : 0 ≤ most) : rowB l ts i most = true ↔ ∀ k : Nat, (h : k < ts.length) → first l ts[k] < MT ∧ most ≤ last l ts[k] (i + k) ∧ ∀ j : Nat, (hj : j ≤ k) → first l (ts[j]'(by omega)) ≤ last l ts[k] (i + k) := by
  induction ts generalizing i most with
  | nil => exact ⟨fun _ k h => absurd h (by simp), fun _ => rfl⟩
  | cons t ts ih =>
    show (if _ then _ else _) = true ↔ _
    have hf := first_nonneg l t
    by_cases h1 : MT ≤ first l t
    · rw [decide_eq_true h1, Bool.true_or, if_pos rfl]
      refine ⟨fun h => absurd h (by simp), fun h => ?_⟩
      have := (h 0 (by simp)).1
      simp only [List.getElem_cons_zero] at this
      omega
    · by_cases h2 : last l t i < max most (first l t)
      · rw [decide_eq_true h2, Bool.or_true, if_pos rfl]
        refine ⟨fun h => absurd h (by simp), fun h => ?_⟩
        have h3 := (h 0 (by simp)).2.1
        have h4 := (h 0 (by simp)).2.2 0 (Nat.le_refl _)
        simp only [List.getElem_cons_zero, Int.ofNat_zero, Int.add_zero] at h3 h4
        omega
      · rw [decide_eq_false h1, decide_eq_false h2, Bool.false_or, if_neg (by simp), ih (by omega)]
        constructor
        · intro h k hk
          cases k with
          | zero =>
            simp only [List.getElem_cons_zero, Int.natCast_zero, Int.add_zero]
            refine ⟨by omega, by omega, fun j hj => ?_⟩
            obtain rfl : j = 0 := by omega
            simp only [List.getElem_cons_zero]
            omega
          | succ k =>
            have := h k (by simpa using hk)
            simp only [List.getElem_cons_succ]
            rw [show i + ((k + 1 : Nat) : Int) = i + 1 + (k : Int) by omega]
            refine ⟨this.1, by omega, fun j hj => ?_⟩
            cases j with
            | zero => simp only [List.getElem_cons_zero]; omega
            | succ j => simp only [List.getElem_cons_succ]; exact this.2.2 j (by omega)
        · intro h k hk
          have := h (k + 1) (by simpa using hk)
          simp only [List.getElem_cons_succ] at this
          rw [show i + ((k + 1 : Nat) : Int) = i + 1 + (k : Int) by omega] at this
          refine ⟨this.1, ?_, fun j hj => ?_⟩
          · have h0 := this.2.2 0 (by omega)
            simp only [List.getElem_cons_zero] at h0
            omega
          · have := this.2.2 (j + 1) (by omega)
            simpa only [List.getElem_cons_succ] using this
/-- There is a row that fits. -/
structure Okay (l : List (Sn α)) (tokens : List α) : Prop where
  right : ∀ s ∈ l, rightB s = true
  once : twiceB tokens = false
  ids : ∀ s ∈ l, wrongB tokens s = false
  row : rowB l tokens 1 0 = true
theorem checkC_zero {l : List (Sn α)} {tokens : List α} {eA eR : Int} (hA : eA ≠ 0) (hR : eR ≠ 0) : checkC l tokens eA eR = 0 ↔ Okay l tokens := by
  unfold checkC
  constructor
  · intro h
    by_cases h1 : (l.any (fun s => !rightB s) || twiceB tokens) = true
    · rw [if_pos h1] at h; exact absurd h hA
    · rw [if_neg h1] at h
      by_cases h2 : l.any (wrongB tokens) = true
      · rw [if_pos h2] at h; exact absurd h hR
      · rw [if_neg h2] at h
        by_cases h3 : rowB l tokens 1 0 = true
        · have h1 : (l.any (fun s => !rightB s) || twiceB tokens) = false := by simpa using h1
          rw [Bool.or_eq_false_iff] at h1
          have h2 : l.any (wrongB tokens) = false := by simpa using h2
          rw [List.any_eq_false] at h2
          refine ⟨fun s hs => ?_, h1.2, fun s hs => by simpa using h2 s hs, h3⟩
          have := List.any_eq_false.1 h1.1 s hs
          simpa using this
        · rw [if_neg h3] at h; exact absurd h hR
  · intro h
    have h1 : (l.any (fun s => !rightB s) || twiceB tokens) = false := by
      rw [Bool.or_eq_false_iff]
      refine ⟨?_, h.once⟩
      rw [List.any_eq_false]
      intro s hs
      rw [h.right s hs]; simp
    have h2 : l.any (wrongB tokens) = false := by
      rw [List.any_eq_false]
      intro s hs
      rw [h.ids s hs]; simp
    rw [h1, if_neg (by simp), h2, if_neg (by simp), h.row, if_pos rfl]
/-- Sights that bind no more than others: bounds grow. -/
structure Looser (l' l : List (Sn α)) : Prop where
  a : ∀ s ∈ l, s.ck = true → ∃ s' ∈ l', s'.tok = s.tok ∧ s'.ck = true ∧ s'.bg ≤ s.bg
  b : ∀ s' ∈ l', s'.ck = false → s'.en ≠ 0 → s'.id = 0 → ∃ s ∈ l, s.tok = s'.tok ∧ s.ck = false ∧ s.en ≠ 0 ∧ s.id = 0 ∧ s'.bg ≤ s.bg
  c : ∀ s' ∈ l', s'.en ≠ 0 → ∃ s ∈ l, s.tok = s'.tok ∧ s.en ≠ 0 ∧ s.id = s'.id ∧ s.en ≤ s'.en
theorem Looser.firstLe {l' l : List (Sn α)} (h : Looser l' l) (t : α) : first l' t ≤ first l t := by
  have h1 : fst l' t 0 ≤ fst l t 0 := by
    have hl := (fst_le (l := l) (t := t) (a := 0) (v := fst l t 0)).1 (Int.le_refl _)
    refine fst_le.2 ⟨hl.1, fun s' hs e1 e2 e3 e4 => ?_⟩
    obtain ⟨s, hs2, k1, k2, k3, k4, k5⟩ := h.b s' hs e2 e3 e4
    have := hl.2 s hs2 (k1.trans e1) k2 k3 k4
    omega
  have h2 : bgn l' t MT ≤ bgn l t MT := by
    rcases (bgn_le (l := l) (t := t) (a := MT) (v := bgn l t MT)).1 (Int.le_refl _) with q | ⟨s, hs, e1, e2, e3⟩
    · exact bgn_le.2 (.inl q)
    · obtain ⟨s', hs', k1, k2, k3⟩ := h.a s hs e2
      exact bgn_le.2 (.inr ⟨s', hs', k1.trans e1, k2, by omega⟩)
  unfold first
  omega
theorem Looser.lastLe {l' l : List (Sn α)} (h : Looser l' l) (t : α) (i : Int) : last l t i ≤ last l' t i := by
  have hl := (le_lst (l := l) (t := t) (i := i) (a := MT) (v := last l t i)).1 (Int.le_refl _)
  refine le_lst.2 ⟨hl.1, fun s' hs e1 e2 e3 => ?_⟩
  obtain ⟨s, hs2, k1, k2, k3, k4⟩ := h.c s' hs e2
  have := hl.2 s hs2 (k1.trans e1) k2 (k3.trans e3)
  omega
theorem Okay.looser {l' l : List (Sn α)} {tokens : List α} (h : Okay l tokens) (hl : Looser l' l) (hr : ∀ s ∈ l', rightB s = true) (hi : ∀ s ∈ l', wrongB tokens s = false) : Okay l' tokens := by
  refine ⟨hr, h.once, hi, (rowB_iff (Int.le_refl _)).2 fun k hk => ?_⟩
  have h1 := (rowB_iff (Int.le_refl _)).1 h.row k hk
  refine ⟨Int.lt_of_le_of_lt (hl.firstLe _) h1.1, Int.le_trans h1.2.1 (hl.lastLe _ _), fun j hj => ?_⟩
  exact Int.le_trans (hl.firstLe _) (Int.le_trans (h1.2.2 j hj) (hl.lastLe _ _))
/-- LinFewer: a status less. -/
theorem Okay.fewer {l : List (Sn α)} {tokens : List α} (h : Okay l tokens) (k : Nat) (hk : k < l.length) (hc : l[k].ck = false) : Okay (l.take k ++ l.drop (k + 1)) tokens := by
  have hsub : ∀ s ∈ l.take k ++ l.drop (k + 1), s ∈ l := fun s hs => by
    rcases List.mem_append.1 hs with q | q
    · exact List.mem_of_mem_take q
    · exact List.mem_of_mem_drop q
  refine h.looser ⟨fun s hs hck => ⟨s, ?_, rfl, hck, Int.le_refl _⟩, fun s hs e1 e2 e3 => ⟨s, hsub s hs, rfl, e1, e2, e3, Int.le_refl _⟩, fun s hs e => ⟨s, hsub s hs, rfl, e, rfl, Int.le_refl _⟩⟩ (fun s hs => h.right s (hsub s hs)) (fun s hs => h.ids s (hsub s hs))
  have e : l = l.take k ++ l[k] :: l.drop (k + 1) := by rw [List.getElem_cons_drop, List.take_append_drop]
  rw [e] at hs
  rcases List.mem_append.1 hs with q | q
  · exact List.mem_append_left _ q
  · rcases List.mem_cons.1 q with rfl | q
    · rw [hc] at hck; exact absurd hck (by simp)
    · exact List.mem_append_right _ q
/-- LinLooser: one that began earlier, and ended later. -/
def loose (by_ : Int) (s : Sn α) : Sn α := { s with bg := if by_ < s.bg then s.bg - by_ else s.bg, en := if 0 < s.en ∧ s.en < 2305843009213693952 then s.en + by_ else s.en }
theorem Okay.loose {l : List (Sn α)} {tokens : List α} (h : Okay l tokens) (k : Nat) (hk : k < l.length) (by_ : Int) (h0 : 0 ≤ by_) (h1 : by_ ≤ 1048576) : Okay (l.set k (loose by_ l[k])) tokens := by
  have hmem : ∀ s' ∈ l.set k (P.loose by_ l[k]), ∃ s ∈ l, s' = s ∨ s' = P.loose by_ s := fun s' hs => by
    rcases List.mem_or_eq_of_mem_set hs with q | q
    · exact ⟨s', q, .inl rfl⟩
    · exact ⟨l[k], List.getElem_mem hk, .inr q⟩
  have hen : ∀ s : Sn α, rightB s = true → ((P.loose by_ s).en = 0 ↔ s.en = 0) ∧ s.en ≤ (P.loose by_ s).en ∧ (P.loose by_ s).bg ≤ s.bg ∧ rightB (P.loose by_ s) = true := fun s hs => by
    have q := rightB_iff.1 hs
    have e1 : (P.loose by_ s).en = if 0 < s.en ∧ s.en < 2305843009213693952 then s.en + by_ else s.en := rfl
    have e2 : (P.loose by_ s).bg = if by_ < s.bg then s.bg - by_ else s.bg := rfl
    have e3 : (P.loose by_ s).id = s.id := rfl
    have hb : 1 ≤ (P.loose by_ s).bg ∧ (P.loose by_ s).bg ≤ s.bg := by rw [e2]; split <;> omega
    have he : s.en ≤ (P.loose by_ s).en ∧ (s.en < MT → (P.loose by_ s).en < MT) ∧ ((P.loose by_ s).en = 0 ↔ s.en = 0) := by
      rw [e1]; unfold MT; split <;> omega
    refine ⟨he.2.2, he.1, hb.2, rightB_iff.2 ⟨hb.1, by omega, he.2.1 q.2.2.1, fun k => ?_, fun k => ?_⟩⟩
    · rw [e3]; exact q.2.2.2.1 (he.2.2.1 k)
    · have := q.2.2.2.2 (fun k2 => k (he.2.2.2 k2))
      rw [e3]
      exact ⟨by omega, this.2⟩
  refine h.looser ⟨fun s hs hck => ?_, fun s' hs e1 e2 e3 => ?_, fun s' hs e => ?_⟩ (fun s' hs => ?_) (fun s' hs => ?_)
  · obtain ⟨j, hj, rfl⟩ := List.getElem_of_mem hs
    by_cases q : k = j
    · subst q
      exact ⟨P.loose by_ l[k], by rw [List.mem_iff_getElem]; exact ⟨k, by simpa using hk, by simp⟩, rfl, hck, (hen _ (h.right _ hs)).2.2.1⟩
    · exact ⟨l[j], by rw [List.mem_iff_getElem]; exact ⟨j, by simpa using hj, by simp [q]⟩, rfl, hck, Int.le_refl _⟩
  · obtain ⟨s, hs2, rfl | rfl⟩ := hmem s' hs
    · exact ⟨_, hs2, rfl, e1, e2, e3, Int.le_refl _⟩
    · have q := hen s (h.right s hs2)
      exact ⟨s, hs2, rfl, e1, fun k => e2 (q.1.2 k), e3, q.2.2.1⟩
  · obtain ⟨s, hs2, rfl | rfl⟩ := hmem s' hs
    · exact ⟨_, hs2, rfl, e, rfl, Int.le_refl _⟩
    · have q := hen s (h.right s hs2)
      exact ⟨s, hs2, rfl, fun k => e (q.1.2 k), rfl, q.2.1⟩
  · obtain ⟨s, hs2, rfl | rfl⟩ := hmem s' hs
    · exact h.right _ hs2
    · exact (hen s (h.right s hs2)).2.2.2
  · obtain ⟨s, hs2, rfl | rfl⟩ := hmem s' hs
    · exact h.ids _ hs2
    · have q := hen s (h.right s hs2)
      have := h.ids s hs2
      unfold wrongB at this ⊢
      by_cases k : s.en = 0
      · rw [if_pos (q.1.2 k)]
      · rw [if_neg k] at this
        rw [if_neg (fun k2 => k (q.1.1 k2))]
        exact this
end Go.Proofs.Ytmijalplheoekaa.P
