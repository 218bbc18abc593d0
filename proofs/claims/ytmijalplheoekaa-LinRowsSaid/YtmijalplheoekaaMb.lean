/- LinRows in plain words, the other way: where the bounds fit, trying all finds a row. -/
import Derived.Test.YtmijalplheoekaaMa
namespace Go.Proofs.Ytmijalplheoekaa.P
set_option linter.unusedVariables false
set_option linter.unusedSectionVars false
variable {α : Type} [DecidableEq α]
/-- The time of order j: no sooner than its first and all before it. -/
def pT (l : List (Sn α)) (T : List α) : Nat → Int
  | 0 => 0
  | j + 1 => max (pT l T j) (match T[j]? with | some t => first l t | none => 0)
theorem pT_mono {l : List (Sn α)} {T : List α} {i j : Nat} (h : i ≤ j) : pT l T i ≤ pT l T j := by
  induction j with
  | zero => obtain rfl : i = 0 := by omega
            exact Int.le_refl _
  | succ j ih =>
    by_cases e : i = j + 1
    · subst e; exact Int.le_refl _
    · have := ih (by omega)
      show _ ≤ max _ _
      omega
theorem pT_first {l : List (Sn α)} {T : List α} {j : Nat} (h : j < T.length) : first l T[j] ≤ pT l T (j + 1) := by
  show _ ≤ max _ _
  rw [List.getElem?_eq_getElem h]
  exact Int.le_max_right _ _
theorem pT_le {l : List (Sn α)} {T : List α} {v : Int} (h0 : 0 ≤ v) : ∀ {j : Nat}, j ≤ T.length → (∀ i, (h : i < T.length) → i < j → first l T[i] ≤ v) → pT l T j ≤ v
  | 0, _, _ => h0
  | j + 1, hj, h => by
    have h1 := pT_le h0 (j := j) (by omega) (fun i hi hlt => h i hi (by omega))
    have h2 := h j (by omega) (by omega)
    show max _ _ ≤ v
    rw [List.getElem?_eq_getElem (by omega)]
    exact Int.max_le.2 ⟨h1, h2⟩
/-- When each sight is to stand. -/
structure Plan (g : Nat → Sn α) (n : Nat) (T : List α) where
  c : Nat → Nat
  pl : Nat → Prop
  key : Nat → Int
  time : Nat → Int
  keyTime : ∀ i k, key i ≤ key k → time i ≤ time k
  bg : ∀ i, i < n → pl i → (g i).bg ≤ time i
  en : ∀ i, i < n → (g i).en ≠ 0 → time i ≤ (g i).en
  all : ∀ i, i < n → (g i).en ≠ 0 → pl i
  cl : ∀ j : Nat, 1 ≤ j → j ≤ T.length → c j < n ∧ pl (c j) ∧ (g (c j)).ck = true ∧ num (g (c j)).tok T = (j : Int)
  ordered : ∀ i j : Nat, 1 ≤ i → i < j → j ≤ T.length → key (c i) < key (c j)
  others : ∀ i, i < n → pl i → (∀ j : Nat, 1 ≤ j → j ≤ T.length → c j ≠ i) → (g i).en ≠ 0
  zeros : ∀ i, i < n → (g i).en ≠ 0 → (g i).id = 0 → (g i).ck = false ∧ ∀ j : Nat, 1 ≤ j → j ≤ T.length → num (g i).tok T = (j : Int) → key i < key (c j)
  tolds : ∀ i, i < n → (g i).en ≠ 0 → (g i).id ≠ 0 → (g i).id = num (g i).tok T ∧ ∀ j : Nat, 1 ≤ j → j ≤ T.length → num (g i).tok T = (j : Int) → c j ≠ i → key (c j) < key i
/-- Where the plan stands. -/
structure At {g : Nat → Sn α} {n : Nat} {T : List α} (P : Plan g n T) (hv : Nat → Bool) (m : Nat) : Prop where
  ml : m ≤ T.length
  sub : ∀ i, hv i = true → i < n ∧ P.pl i
  down : ∀ i k, hv k = true → i < n → P.pl i → P.key i < P.key k → hv i = true
  cr : ∀ j : Nat, 1 ≤ j → j ≤ T.length → (hv (P.c j) = true ↔ j ≤ m)
/-- The least of those that are left. -/
theorem least_of (key : Nat → Int) (Q : Nat → Prop) (n : Nat) : (∃ i, i < n ∧ Q i) → ∃ e, e < n ∧ Q e ∧ ∀ i, i < n → Q i → key e ≤ key i := by
  induction n with
  | zero => exact fun ⟨i, h, _⟩ => absurd h (by omega)
  | succ n ih =>
    rintro ⟨i, hi, hq⟩
    by_cases h : ∃ i, i < n ∧ Q i
    · obtain ⟨e, e1, e2, e3⟩ := ih h
      by_cases k : Q n ∧ key n < key e
      · refine ⟨n, by omega, k.1, fun i hi hq => ?_⟩
        by_cases q : i = n
        · subst q; exact Int.le_refl _
        · have := e3 i (by omega) hq; omega
      · refine ⟨e, by omega, e2, fun i hi hq => ?_⟩
        by_cases q : i = n
        · subst q
          have : ¬ key i < key e := fun c => k ⟨hq, c⟩
          omega
        · exact e3 i (by omega) hq
    · obtain rfl : i = n := by
        by_cases q : i = n
        · exact q
        · exact absurd ⟨i, by omega, hq⟩ h
      refine ⟨i, by omega, hq, fun i' hi' hq' => ?_⟩
      by_cases q : i' = i
      · subst q; exact Int.le_refl _
      · exact absurd ⟨i', by omega, hq'⟩ h
theorem At.row {g : Nat → Sn α} {n : Nat} {T : List α} (P : Plan g n T) : ∀ (f : Nat) (hv : Nat → Bool) (m : Nat), At P hv m → ((List.range n).countP fun i => !hv i) ≤ f → Row g n T hv m := by
  intro f
  induction f with
  | zero =>
    intro hv m h hc
    have hall : ∀ i, i < n → hv i = true := fun i hi => by
      have h0 : ((List.range n).countP fun i => !hv i) = 0 := by omega
      have := List.countP_eq_zero.1 h0 i (List.mem_range.2 hi)
      simpa using this
    refine .done ?_ (fun i hi => .inl (hall i hi))
    by_cases z : T.length = 0
    · have := h.ml; omega
    · have hcl := P.cl T.length (by omega) (Nat.le_refl _)
      have := (h.cr T.length (by omega) (Nat.le_refl _)).1 (hall _ hcl.1)
      have := h.ml
      omega
  | succ f ih =>
    intro hv m h hc
    by_cases hex : ∃ i, i < n ∧ (P.pl i ∧ hv i = false)
    · obtain ⟨e, e1, ⟨e2, e3⟩, e4⟩ := least_of P.key (fun i => P.pl i ∧ hv i = false) n hex
      -- what stands next
      have hmay : MayP g n hv e := ⟨fun k hk hne hf hen => by
        have h1 := e4 k hk ⟨P.all k hk hen, hf⟩
        have h2 := P.keyTime _ _ h1
        have h3 := P.bg e e1 e2
        have h4 := P.en k hk hen
        omega, e3⟩
      have hcount : ((List.range n).countP fun i => !upd hv e i) ≤ f := by
        have h1 : ((List.range n).countP fun i => !upd hv e i) < ((List.range n).countP fun i => !hv i) := by
          have hsub : ∀ (L : List Nat), ((L.countP fun i => !upd hv e i) ≤ (L.countP fun i => !hv i)) ∧ (e ∈ L → (L.countP fun i => !upd hv e i) < (L.countP fun i => !hv i)) := by
            intro L
            induction L with
            | nil => exact ⟨Nat.le_refl _, fun h => absurd h (by simp)⟩
            | cons x L ihL =>
              have hx : (!upd hv e x) = true → (!hv x) = true := fun q => by
                have := upd_false (i := e) (k := x) (hv := hv) (by simpa using q)
                simpa using this.2
              constructor
              · rw [List.countP_cons, List.countP_cons]
                by_cases q : (!upd hv e x) = true
                · rw [if_pos q, if_pos (hx q)]; have := ihL.1; omega
                · rw [if_neg q]; have := ihL.1; split <;> omega
              · intro hm
                rw [List.countP_cons, List.countP_cons]
                by_cases q : x = e
                · subst q
                  rw [if_neg (by rw [upd_self]; simp), if_pos (by rw [e3]; rfl)]
                  have := ihL.1
                  omega
                · have hm2 : e ∈ L := (List.mem_cons.1 hm).resolve_left (fun z => q z.symm)
                  have := ihL.2 hm2
                  rw [upd_ne q]
                  omega
          exact (hsub _).2 (List.mem_range.2 e1)
        omega
      have hsub' : ∀ i, upd hv e i = true → i < n ∧ P.pl i := fun i hi => by
        by_cases q : i = e
        · subst q; exact ⟨e1, e2⟩
        · rw [upd_ne q] at hi; exact h.sub i hi
      have hdown' : ∀ i k, upd hv e k = true → i < n → P.pl i → P.key i < P.key k → upd hv e i = true := fun i k hk hi hpl hlt => by
        by_cases q : i = e
        · subst q; exact upd_self _ _
        · rw [upd_ne q]
          by_cases q2 : k = e
          · subst q2
            cases hvi : hv i with
            | true => rfl
            | false => have := e4 i hi ⟨hpl, hvi⟩; omega
          · rw [upd_ne q2] at hk
            exact h.down i k hk hi hpl hlt
      by_cases hcr : ∃ j : Nat, 1 ≤ j ∧ j ≤ T.length ∧ P.c j = e
      · obtain ⟨j, j1, j2, j3⟩ := hcr
        have hcl := P.cl j j1 j2
        rw [j3] at hcl
        have hjm : m < j := by
          have := h.cr j j1 j2
          rw [j3, e3] at this
          by_cases q : j ≤ m
          · exact absurd (this.2 q) (by simp)
          · omega
        have hj : j = m + 1 := by
          by_cases q : j = m + 1
          · exact q
          · have h1 := P.ordered (m + 1) j (by omega) (by omega) j2
            have h2 := P.cl (m + 1) (by omega) (by omega)
            have h3 : hv (P.c (m + 1)) = false := by
              cases hx : hv (P.c (m + 1)) with
              | false => rfl
              | true => have := (h.cr (m + 1) (by omega) (by omega)).1 hx; omega
            have h4 := e4 _ h2.1 ⟨h2.2.1, h3⟩
            rw [j3] at h1
            omega
        have hN := hcl.2.2.2
        have hmk : Makes T (g e) m := ⟨hcl.2.2.1, .inr (by omega)⟩
        refine .step e ((m + 1 : Nat) : Int) ⟨e1, hmay, fun _ => ⟨by omega, by omega⟩, fun k => absurd hmk k, fun hen => ?_⟩ (ih (upd hv e) (m + 1) ⟨by omega, hsub', hdown', fun i i1 i2 => ?_⟩ hcount)
        · rw [if_neg (by omega)]
          by_cases z : (g e).id = 0
          · have := (P.zeros e e1 hen z).1
            rw [hcl.2.2.1] at this
            exact absurd this (by simp)
          · exact (P.tolds e e1 hen z).1
        · by_cases q : P.c i = e
          · have h1 := P.cl i i1 i2
            rw [q] at h1
            rw [q, upd_self]
            exact ⟨fun _ => by omega, fun _ => rfl⟩
          · rw [upd_ne q, h.cr i i1 i2]
            constructor
            · intro; omega
            · intro hle
              by_cases q2 : i = j
              · subst q2; exact absurd j3 q
              · omega
      · have hcr' : ∀ j : Nat, 1 ≤ j → j ≤ T.length → P.c j ≠ e := fun j j1 j2 q => hcr ⟨j, j1, j2, q⟩
        have hen := P.others e e1 e2 hcr'
        have hNn := num_nonneg (g e).tok T
        have hNl := num_le_length (g e).tok T
        have hcr2 : ∀ i : Nat, 1 ≤ i → i ≤ T.length → (upd hv e (P.c i) = true ↔ i ≤ m) := fun i i1 i2 => by
          rw [upd_ne (hcr' i i1 i2)]
          exact h.cr i i1 i2
        refine .step e (m : Int) ?_ (ih (upd hv e) m ⟨h.ml, hsub', hdown', hcr2⟩ hcount)
        by_cases z : (g e).id = 0
        · have hz := P.zeros e e1 hen z
          refine ⟨e1, hmay, fun k => absurd k.1 (by rw [hz.1]; simp), fun _ => rfl, fun _ => ?_⟩
          by_cases q : (m : Int) < num (g e).tok T
          · rw [if_pos q]; exact z
          · rw [if_neg q, z]
            by_cases q2 : num (g e).tok T = 0
            · exact q2.symm
            · have j1 : 1 ≤ (num (g e).tok T).toNat := by omega
              have j2 : (num (g e).tok T).toNat ≤ T.length := by omega
              have h1 := hz.2 (num (g e).tok T).toNat j1 j2 (by omega)
              have h2 := (h.cr _ j1 j2).2 (by omega)
              have h3 := h.down e _ h2 e1 e2 h1
              rw [e3] at h3
              exact absurd h3 (by simp)
        · have ht := P.tolds e e1 hen z
          have j1 : 1 ≤ (num (g e).tok T).toNat := by omega
          have j2 : (num (g e).tok T).toNat ≤ T.length := by omega
          have h1 := ht.2 (num (g e).tok T).toNat j1 j2 (by omega) (hcr' _ j1 j2)
          have h2 : (num (g e).tok T).toNat ≤ m := by
            have hcl := P.cl _ j1 j2
            cases hx : hv (P.c (num (g e).tok T).toNat) with
            | true => exact (h.cr _ j1 j2).1 hx
            | false => have := e4 _ hcl.1 ⟨hcl.2.1, hx⟩; omega
          refine ⟨e1, hmay, fun k => ?_, fun _ => rfl, fun _ => ?_⟩
          · rcases k.2 with q | q
            · omega
            · omega
          · rw [if_neg (by omega)]; exact ht.1
    · have hall : ∀ i, i < n → P.pl i → hv i = true := fun i hi hp => by
        cases hx : hv i with
        | true => rfl
        | false => exact absurd ⟨i, hi, hp, hx⟩ hex
      refine .done ?_ (fun i hi => ?_)
      · by_cases z : T.length = 0
        · have := h.ml; omega
        · have hcl := P.cl T.length (by omega) (Nat.le_refl _)
          have := (h.cr T.length (by omega) (Nat.le_refl _)).1 (hall _ hcl.1 hcl.2.1)
          have := h.ml
          omega
      · by_cases q : (g i).en = 0
        · exact .inr q
        · exact .inl (hall i hi (P.all i hi q))
end Go.Proofs.Ytmijalplheoekaa.P
