/- A walk by the kernel: what some of the operations have left. A walk by the kernel: what is known of a region's walk. A walk by the kernel: a region that draws, in whatever order: what holds behind some of its operations. -/
import Derived.Test.YtnnalcfdeldocaaGreatDoorL11
namespace Go.Proofs.YtnnalcfdeldocaaGreatDoor.X
open Go
set_option linter.unusedVariables false
set_option linter.unusedSimpArgs false
/-- What lies at k behind those operations that S names: the last one's that wrote it. -/
def layF {β : Type} (f0 : Nat → β) (w : Nat → Nat → Bool) (u : Nat → Nat → β) (S : Nat → Bool) : Nat → Nat → β
  | 0 => f0
  | j + 1 => fun k => match S j && w j k with
    | true => u j k
    | false => layF f0 w u S j k
section
variable {β : Type} {f0 : Nat → β} {w : Nat → Nat → Bool} {u : Nat → Nat → β} {S S' : Nat → Bool}
theorem layF_add {i : Nat} (hi : S i = false) (hS : ∀ j, S' j = (S j || decide (j = i))) : ∀ (m k : Nat), (∀ j, i < j → j < m → S j = true → w i k = true → w j k = false) →
    layF f0 w u S' m k = (match decide (i < m) && w i k with | true => u i k | false => layF f0 w u S m k)
  | 0, k, h => by simp [layF]
  | j + 1, k, h => by
    have ih := layF_add hi hS j k (fun j' h1 h2 => h j' h1 (by omega))
    simp only [layF]
    by_cases e : j = i
    · subst e
      have h1 : S' j = true := by rw [hS]; simp
      rw [h1, hi]
      simp only [Bool.true_and, Bool.false_and]
      cases q : w j k with
      | true => simp
      | false =>
        simp only [ih, q, Bool.and_false]
    · have h1 : S' j = S j := by rw [hS]; simp [e]
      rw [h1]
      cases q1 : S j && w j k with
      | true =>
        rw [Bool.and_eq_true] at q1
        cases q2 : (decide (i < j + 1) && w i k) with
        | false => rfl
        | true =>
          simp only [Bool.and_eq_true, decide_eq_true_eq] at q2
          have := h j (by omega) (by omega) q1.1 q2.2
          rw [this] at q1; cases q1.2
      | false =>
        simp only [ih]
        have : decide (i < j + 1) = decide (i < j) := by
          congr 1
          exact propext ⟨fun h => by omega, fun h => by omega⟩
        rw [this]
/-- .. all writers being among them, up to i. -/
theorem layF_chain {pre : Nat → Nat → β} {k i : Nat} (h0 : pre 0 k = f0 k) (h1 : ∀ j, j < i → w j k = true → S j = true) :
    ∀ m, (∀ j, j < m → w j k = false → pre (j + 1) k = pre j k) → (∀ j, j < m → w j k = true → pre (j + 1) k = u j k) → (∀ j, i ≤ j → j < m → S j = true → w j k = false) → i ≤ m → layF f0 w u S m k = pre i k
  | 0, hs, hw, h2, hm => by
    have : i = 0 := by omega
    subst this
    exact h0.symm
  | j + 1, hs, hw, h2, hm => by
    simp only [layF]
    by_cases e : i = j + 1
    · subst e
      cases q : w j k with
      | true =>
        rw [h1 j (by omega) q]
        simp only [Bool.and_self]
        exact (hw j (by omega) q).symm
      | false =>
        rw [Bool.and_false]
        simp only
        rw [hs j (by omega) q]
        exact layF_chain h0 (fun j' hj' => h1 j' (by omega)) j (fun j' h => hs j' (by omega)) (fun j' h => hw j' (by omega)) (fun j' h3 h4 => by omega) (Nat.le_refl _)
    · have ih := layF_chain h0 h1 j (fun j' h => hs j' (by omega)) (fun j' h => hw j' (by omega)) (fun j' h3 h4 => h2 j' h3 (by omega)) (by omega)
      cases q : S j && w j k with
      | false => exact ih
      | true =>
        rw [Bool.and_eq_true] at q
        have := h2 j (by omega) (by omega) q.1
        rw [this] at q; cases q.2
theorem layF_le {f0 : Nat → Nat} {u : Nat → Nat → Nat} {k N : Nat} (h0 : f0 k ≤ N) : ∀ m, (∀ j, j < m → S j = true → w j k = true → u j k ≤ N) → layF f0 w u S m k ≤ N
  | 0, h => h0
  | j + 1, h => by
    simp only [layF]
    have ih := layF_le h0 j (fun j' h1 => h j' (by omega))
    cases q : S j && w j k with
    | true => rw [Bool.and_eq_true] at q; exact h j (by omega) q.1 q.2
    | false => exact ih
end
/-- .. as a trie. -/
def layT {α : Type} (t0 : Tr α) (w : Nat → Nat) (u : Nat → Tr α) (S : Nat → Bool) : Nat → Tr α
  | 0 => t0
  | j + 1 => match S j with
    | true => (layT t0 w u S j).over (Nat.testBit (w j)) (u j)
    | false => layT t0 w u S j
theorem layT_get {α : Type} {t0 : Tr α} {w : Nat → Nat} {u : Nat → Tr α} {S : Nat → Bool} : ∀ (m k : Nat), (layT t0 w u S m).get k = layF t0.get (fun j => Nat.testBit (w j)) (fun j => (u j).get) S m k
  | 0, k => rfl
  | j + 1, k => by
    simp only [layT, layF]
    cases S j with
    | true =>
      simp only [Bool.true_and, Tr.get_over, layT_get j k]
      cases (w j).testBit k <;> rfl
    | false => simp only [Bool.false_and]; exact layT_get j k
/-- The state behind those operations that S names. -/
def layS (s0 : St) (rs : Nat → St) (S : Nat → Bool) : Nat → St
  | 0 => s0
  | j + 1 => match S j with
    | true => { heap := (layS s0 rs S j).heap.over (Nat.testBit (rs j).wr) (rs j).heap, next := (rs j).next, rd := Nat.lor (layS s0 rs S j).rd (rs j).rd, wr := Nat.lor (layS s0 rs S j).wr (rs j).wr }
    | false => layS s0 rs S j
section
variable {s0 : St} {rs : Nat → St} {S S' : Nat → Bool}
theorem layS_get : ∀ (m k : Nat), (layS s0 rs S m).heap.get k = layF s0.heap.get (fun j => Nat.testBit (rs j).wr) (fun j => (rs j).heap.get) S m k
  | 0, k => rfl
  | j + 1, k => by
    simp only [layS, layF]
    cases S j with
    | true =>
      simp only [Bool.true_and, Tr.get_over, layS_get j k]
      cases (rs j).wr.testBit k <;> rfl
    | false => simp only [Bool.false_and]; exact layS_get j k
theorem layS_wr {i : Nat} (hS : ∀ j, S' j = (S j || decide (j = i))) : ∀ (m k : Nat), (layS s0 rs S' m).wr.testBit k = ((layS s0 rs S m).wr.testBit k || (decide (i < m) && (rs i).wr.testBit k))
  | 0, k => by simp [layS]
  | j + 1, k => by
    have ih := layS_wr hS j k
    simp only [layS]
    by_cases e : j = i
    · subst e
      have h1 : S' j = true := by rw [hS]; simp
      rw [h1]
      simp only [testBit_lor2, ih]
      cases S j <;> simp [testBit_lor2]
    · have h1 : S' j = S j := by rw [hS]; simp [e]
      have : decide (i < j + 1) = decide (i < j) := by
        congr 1
        exact propext ⟨fun h => by omega, fun h => by omega⟩
      rw [h1, this]
      cases S j with
      | false => exact ih
      | true =>
        simp only [testBit_lor2, ih]
        cases (layS s0 rs S j).wr.testBit k <;> cases (rs j).wr.testBit k <;> simp
theorem layS_next {i : Nat} (hS : ∀ j, S' j = (S j || decide (j = i))) : ∀ (m : Nat), (∀ j, j < m → (layS s0 rs S j).next ≤ (rs j).next) → (∀ i j, i ≤ j → j < m → (rs i).next ≤ (rs j).next) → (layS s0 rs S m).next ≤ (layS s0 rs S' m).next ∧ (i < m → (rs i).next ≤ (layS s0 rs S' m).next)
  | 0, _, _ => ⟨Nat.le_refl _, fun h => absurd h (Nat.not_lt_zero _)⟩
  | j + 1, hm, hr => by
    obtain ⟨h1, h2⟩ := layS_next hS j (fun j' h => hm j' (by omega)) (fun i' j' h h' => hr i' j' h (by omega))
    simp only [layS]
    by_cases e : j = i
    · subst e
      have h3 : S' j = true := by rw [hS]; simp
      rw [h3]
      refine ⟨?_, fun _ => Nat.le_refl _⟩
      cases S j with
      | true => exact Nat.le_refl _
      | false => exact hm j (by omega)
    · have h3 : S' j = S j := by rw [hS]; simp [e]
      rw [h3]
      cases S j with
      | false => exact ⟨h1, fun h => h2 (by omega)⟩
      | true => exact ⟨Nat.le_refl _, fun h => hr i j (by omega) (by omega)⟩
end
end Go.Proofs.YtnnalcfdeldocaaGreatDoor.X
namespace Go.Proofs.YtnnalcfdeldocaaGreatDoor.X
open Go
set_option linter.unusedVariables false
set_option linter.unusedSimpArgs false
structure Rec where
  o : Nat → Oper
  st : Nat → St
  rs : Nat → St
  Ts : Nat → Tr AV
  vs : Nat → AV
  bs : Nat → Nat
structure DRun (ih : Req → E Res) (P : Program) (ops : Array Oper) (n m : Nat) (R : Rec) : Prop where
  step : ∀ j, j < m → DStep ih P ops n j (R.o j) (R.st j) (R.rs j) (R.st (j + 1)) (R.Ts j) (R.Ts (j + 1)) (R.vs j) R.bs
  apart : ∀ j' j, j' < j → j < m → (R.bs j).testBit j' = true ∨ meets (logOf ops (R.o j') j' (R.rs j')) (logOf ops (R.o j) j (R.rs j)) = true
section
variable {ih : Req → E Res} {P : Program} {ops : Array Oper} {n m : Nat} {R : Rec}
theorem nat_land_zero {a b : Nat} (h : Nat.land a b = 0) (k : Nat) : a.testBit k = true → b.testBit k = true → False := fun h1 h2 => by
  have : (a &&& b).testBit k = true := by rw [Nat.testBit_and, h1, h2]; rfl
  have e : a &&& b = 0 := h
  rw [e] at this
  simp at this
theorem nat_lor_zero {a b : Nat} (h : Nat.lor a b = 0) : a = 0 ∧ b = 0 := by
  have h' : ∀ k, (a ||| b).testBit k = false := fun k => by
    have e : a ||| b = 0 := h
    rw [e]; simp
  constructor
  · apply Nat.eq_of_testBit_eq; intro k
    have := h' k; rw [Nat.testBit_or, Bool.or_eq_false_iff] at this
    rw [this.1]; simp
  · apply Nat.eq_of_testBit_eq; intro k
    have := h' k; rw [Nat.testBit_or, Bool.or_eq_false_iff] at this
    rw [this.2]; simp
theorem meets_spec {a b : Log} (h : meets a b = true) (k : Nat) : (a.wr.testBit k = true → (b.rd.testBit k = true ∨ b.wr.testBit k = true) → False) ∧ (a.rd.testBit k = true → b.wr.testBit k = true → False) ∧
    (a.dst.testBit k = true → (b.use.testBit k = true ∨ b.dst.testBit k = true) → False) ∧ (a.use.testBit k = true → b.dst.testBit k = true → False) := by
  unfold meets at h
  have h0 := beq_iff.1 h
  obtain ⟨h1, h2⟩ := nat_lor_zero h0
  obtain ⟨h3, h4⟩ := nat_lor_zero h1
  obtain ⟨h5, h6⟩ := nat_lor_zero h2
  refine ⟨fun p q => nat_land_zero h3 k p ?_, fun p q => nat_land_zero h4 k p q, fun p q => nat_land_zero h5 k p ?_, fun p q => nat_land_zero h6 k p q⟩
  · rw [testBit_lor2]; rcases q with q | q <;> rw [q] <;> simp
  · rw [testBit_lor2]; rcases q with q | q <;> rw [q] <;> simp
theorem DStep.le {i : Nat} {o : Oper} {s r s' : St} {T T' : Tr AV} {v : AV} {bs : Nat → Nat} (IH : IHok P ih) (h : DStep ih P ops n i o s r s' T T' v bs) : Le (fresh0 s) r := by
  rcases h.walk with ⟨_, h1⟩ | ⟨_, _, rfl⟩
  · exact LeM.operE IH _ _ _ h1
  · exact Le.refl _
variable (D : DRun ih P ops n m R) (IH : IHok P ih)
include D in
theorem DRun.heap {j : Nat} (hj : j < m) : (R.st (j + 1)).heap = (R.rs j).heap := by rw [(D.step j hj).next]
include D in
theorem DRun.next {j : Nat} (hj : j < m) : (R.st (j + 1)).next = (R.rs j).next := by rw [(D.step j hj).next]
include D IH in
theorem DRun.up {j : Nat} (hj : j < m) : (R.st j).next ≤ (R.rs j).next := ((D.step j hj).le IH).next
include D IH in
theorem DRun.mono {i : Nat} : ∀ {j : Nat}, i ≤ j → j ≤ m → (R.st i).next ≤ (R.st j).next
  | 0, h, _ => by have : i = 0 := by omega
                  subst this; exact Nat.le_refl _
  | j + 1, h, hm => by
    by_cases e : i = j + 1
    · subst e; exact Nat.le_refl _
    · have := DRun.mono (i := i) (j := j) (by omega) (by omega)
      rw [D.next (by omega)]
      exact Nat.le_trans this (D.up IH (by omega))
include D IH in
theorem DRun.rsmono {i j : Nat} (h : i ≤ j) (hm : j < m) : (R.rs i).next ≤ (R.rs j).next := by
  rw [← D.next (by omega), ← D.next hm]
  exact D.mono IH (by omega) (by omega)
include D in
theorem DRun.wr {j : Nat} {k : Nat} (hk : (R.rs j).wr.testBit k = true) : ∀ {i : Nat}, j < i → i ≤ m → (R.st i).wr.testBit k = true
  | 0, h, _ => by omega
  | i + 1, h, hm => by
    rw [(D.step i (by omega)).next]
    show (Nat.lor (R.st i).wr (R.rs i).wr).testBit k = true
    rw [testBit_lor2]
    by_cases e : j = i
    · subst e; rw [hk]; simp
    · rw [DRun.wr hk (i := i) (by omega) (by omega)]; simp
include D in
theorem DRun.rd {j : Nat} {k : Nat} (hk : (R.rs j).rd.testBit k = true) : ∀ {i : Nat}, j < i → i ≤ m → (R.st i).rd.testBit k = true
  | 0, h, _ => by omega
  | i + 1, h, hm => by
    rw [(D.step i (by omega)).next]
    show (Nat.lor (R.st i).rd (R.rs i).rd).testBit k = true
    rw [testBit_lor2]
    by_cases e : j = i
    · subst e; rw [hk]; simp
    · rw [DRun.rd hk (i := i) (by omega) (by omega)]; simp
include D IH in
theorem DRun.dom (h0 : ∀ k, live (R.st 0) k → k < (R.st 0).next) : ∀ {j : Nat}, j ≤ m → ∀ k, live (R.st j) k → k < (R.st j).next
  | 0, _ => h0
  | j + 1, hm => fun k l => by
    have ih := DRun.dom h0 (j := j) (by omega)
    have := ((D.step j (by omega)).le IH).dom (fun k l => ih k l) k (by
      unfold live at l ⊢
      rw [D.heap (by omega)] at l
      exact l)
    rw [D.next (by omega)]
    exact this
include D IH in
theorem DRun.same (h0 : ∀ k, live (R.st 0) k → k < (R.st 0).next) {j k : Nat} (hj : j < m) (h : (R.rs j).wr.testBit k = false) : (R.rs j).heap.get k = (R.st j).heap.get k := ((D.step j hj).le IH).same (D.dom IH h0 (Nat.le_of_lt hj)) k h
include D in
/-- The temporaries, step by step. -/
theorem DRun.tmp {j t : Nat} (hj : j < m) : (R.Ts (j + 1)).get t = match (dstOf (R.o j)).testBit t with | true => some (R.vs j) | false => (R.Ts j).get t := by
  unfold dstOf
  rcases putT_get (D.step j hj).put with ⟨e, e'⟩ | ⟨d, e, _, hg⟩
  · rw [e, e']; simp
  · rw [e, hg]
    simp only
    by_cases q : t = d
    · subst q; rw [bit_self, if_pos rfl]
    · rw [if_neg q]
      cases q2 : (bit d).testBit t with
      | true => exact absurd (bit_iff.1 q2) q
      | false => rfl
end
end Go.Proofs.YtnnalcfdeldocaaGreatDoor.X
namespace Go.Proofs.YtnnalcfdeldocaaGreatDoor.X
open Go
set_option linter.unusedVariables false
set_option linter.unusedSimpArgs false
def hpF (R : Rec) (S : Nat → Bool) (m : Nat) : Nat → Option ABlk := layF (R.st 0).heap.get (fun j => Nat.testBit (R.rs j).wr) (fun j => (R.rs j).heap.get) S m
def hbF (R : Rec) (S : Nat → Bool) (m : Nat) : Nat → Nat := layF (fun _ => (R.st 0).next) (fun j => Nat.testBit (R.rs j).wr) (fun j _ => (R.rs j).next) S m
def tmF (R : Rec) (S : Nat → Bool) (m : Nat) : Nat → Option AV := layF (R.Ts 0).get (fun j => Nat.testBit (dstOf (R.o j))) (fun j => (R.Ts (j + 1)).get) S m
def tbF (R : Rec) (S : Nat → Bool) (m : Nat) : Nat → Nat := layF (fun _ => (R.st 0).next) (fun j => Nat.testBit (dstOf (R.o j))) (fun j _ => (R.rs j).next) S m
structure DInv (M : Nat → Prop) (B : Nat) (ν0 : Nu) (W0 : World) (df : List Deferred) (n m : Nat) (R : Rec) (S : Nat → Bool) (ν : Nu) (W : World) (a : Act) : Prop where
  eff : Eff M B ν0 ν (R.st 0) (layS (R.st 0) R.rs S m) W0 W
  blk : ∀ k b, (M k ∨ (R.st 0).next ≤ k) → hpF R S m k = some b → ∃ inf, ν k = some inf ∧ BOk (ν.below (hbF R S m k)) inf W b
  tmp : ∀ t v, tmF R S m t = some v → ∃ V, a.tmps[t]? = some V ∧ conc (ν.below (tbF R S m t)) v = some V
  size : a.tmps.size = n
  df : a.defers = df
  rng : ∀ k i, ν k = some i → k < (R.st 0).next ∨ ∃ j, j < m ∧ S j = true ∧ (R.st j).next ≤ k ∧ k < (R.rs j).next
section
variable {ih : Req → E Res} {P : Program} {ops : Array Oper} {n m : Nat} {R : Rec} {M : Nat → Prop} {B : Nat} {ν0 ν : Nu} {W0 W : World} {df : List Deferred} {S S' : Nat → Bool} {a : Act}
theorem hpF_eq (k : Nat) : (layS (R.st 0) R.rs S m).heap.get k = hpF R S m k := layS_get m k
theorem DRun.old (D : DRun ih P ops n m R) (IH : IHok P ih) : ∀ {j : Nat}, j ≤ m → ∀ k, k < (R.st 0).next → live (R.st j) k → live (R.st 0) k
  | 0, _, k, _, l => l
  | j + 1, hm, k, hk, l => by
    refine DRun.old D IH (j := j) (by omega) k hk (((D.step j (by omega)).le IH).old k ?_ ?_)
    · exact Nat.lt_of_lt_of_le hk (D.mono IH (by omega) (by omega))
    · unfold live at l ⊢; rw [D.heap (by omega)] at l; exact l
theorem layS_old (D : DRun ih P ops n m R) (IH : IHok P ih) {k : Nat} (hk : k < (R.st 0).next) : ∀ {j : Nat}, j ≤ m → live (layS (R.st 0) R.rs S j) k → live (R.st 0) k
  | 0, _, l => l
  | j + 1, hm, l => by
    simp only [layS] at l
    cases q : S j with
    | false => rw [q] at l; exact layS_old D IH hk (j := j) (by omega) l
    | true =>
      rw [q] at l
      obtain ⟨b, hb⟩ := l
      simp only [Tr.get_over] at hb
      cases q2 : (R.rs j).wr.testBit k with
      | false => rw [q2] at hb; exact layS_old D IH hk (j := j) (by omega) ⟨b, hb⟩
      | true =>
        rw [q2] at hb
        refine D.old IH (j := j + 1) hm k hk ?_
        unfold live
        rw [D.heap (by omega)]
        exact ⟨b, hb⟩
theorem layS_low (D : DRun ih P ops n m R) (IH : IHok P ih) : ∀ {j : Nat}, j < m → (layS (R.st 0) R.rs S j).next ≤ (R.rs j).next
  | 0, h => D.up IH h
  | j + 1, h => by
    simp only [layS]
    have ih := layS_low D IH (j := j) (by omega)
    have h1 := D.rsmono IH (i := j) (j := j + 1) (by omega) h
    cases S j with
    | true => exact h1
    | false => exact Nat.le_trans ih h1
/-- What an operation asks for lies as the walk had it. -/
structure Ready (ops : Array Oper) (R : Rec) (m i : Nat) (S : Nat → Bool) : Prop where
  lt : i < m
  not : S i = false
  left : ∀ j, j < i → S j = false → meets (logOf ops (R.o j) j (R.rs j)) (logOf ops (R.o i) i (R.rs i)) = true
  right : ∀ j, i < j → j < m → S j = true → meets (logOf ops (R.o i) i (R.rs i)) (logOf ops (R.o j) j (R.rs j)) = true
def Mi (R : Rec) (i : Nat) : Nat → Prop := fun k => k < (R.st i).next ∧ ((R.rs i).rd.testBit k = true ∨ (R.rs i).wr.testBit k = true)
variable {i : Nat}
theorem Ready.noWr (y : Ready ops R m i S) {k : Nat} (hk : (R.rs i).rd.testBit k = true ∨ (R.rs i).wr.testBit k = true) {j : Nat} (h1 : i ≤ j) (h2 : j < m) (h3 : S j = true) : (R.rs j).wr.testBit k = false := by
  by_cases e : j = i
  · subst e; rw [y.not] at h3; cases h3
  · have hm := meets_spec (y.right j (by omega) h2 h3) k
    cases q : (R.rs j).wr.testBit k with
    | false => rfl
    | true => exact (hk.elim (fun h => hm.2.1 h q) (fun h => hm.1 h (.inr q))).elim
theorem Ready.isWr (y : Ready ops R m i S) {k : Nat} (hk : (R.rs i).rd.testBit k = true ∨ (R.rs i).wr.testBit k = true) {j : Nat} (h1 : j < i) (h3 : (R.rs j).wr.testBit k = true) : S j = true := by
  cases q : S j with
  | true => rfl
  | false => exact ((meets_spec (y.left j h1 q) k).1 h3 hk).elim
theorem Ready.heap (y : Ready ops R m i S) (D : DRun ih P ops n m R) (IH : IHok P ih) (h0 : ∀ k, live (R.st 0) k → k < (R.st 0).next) {k : Nat} (hk : (R.rs i).rd.testBit k = true ∨ (R.rs i).wr.testBit k = true) : hpF R S m k = (R.st i).heap.get k :=
  layF_chain (pre := fun j => (R.st j).heap.get) rfl (fun j h1 h3 => y.isWr hk h1 h3) m (fun j h q => by
    show (R.st (j + 1)).heap.get k = _
    rw [D.heap h, D.same IH h0 h q]) (fun j h q => by
    show (R.st (j + 1)).heap.get k = _
    rw [D.heap h]) (fun j h1 h2 h3 => y.noWr hk h1 h2 h3) (Nat.le_of_lt y.lt)
theorem Ready.bound (y : Ready ops R m i S) (D : DRun ih P ops n m R) (IH : IHok P ih) {k : Nat} (hk : (R.rs i).rd.testBit k = true ∨ (R.rs i).wr.testBit k = true) : hbF R S m k ≤ (R.st i).next :=
  layF_le (D.mono IH (Nat.zero_le _) (Nat.le_of_lt y.lt)) m fun j h1 h2 h3 => by
    by_cases e : j < i
    · rw [← D.next h1]; exact D.mono IH (by omega) (Nat.le_of_lt y.lt)
    · have := y.noWr hk (by omega) h1 h2
      rw [h3] at this; cases this
theorem Ready.noDst (y : Ready ops R m i S) {t : Nat} (hk : (useOf ops (R.o i)).testBit t = true ∨ (dstOf (R.o i)).testBit t = true) {j : Nat} (h1 : i ≤ j) (h2 : j < m) (h3 : S j = true) : (dstOf (R.o j)).testBit t = false := by
  by_cases e : j = i
  · subst e; rw [y.not] at h3; cases h3
  · have hm := meets_spec (y.right j (by omega) h2 h3) t
    cases q : (dstOf (R.o j)).testBit t with
    | false => rfl
    | true => exact (hk.elim (fun h => hm.2.2.2 h q) (fun h => hm.2.2.1 h (.inr q))).elim
theorem Ready.tmp (y : Ready ops R m i S) (D : DRun ih P ops n m R) {t : Nat} (hk : (useOf ops (R.o i)).testBit t = true) : tmF R S m t = (R.Ts i).get t :=
  layF_chain (pre := fun j => (R.Ts j).get) rfl (fun j h1 h3 => by
    cases q : S j with
    | true => rfl
    | false => exact ((meets_spec (y.left j h1 q) t).2.2.1 h3 (.inl hk)).elim) m (fun j h q => by
    show (R.Ts (j + 1)).get t = _
    rw [D.tmp h, q]) (fun j h q => rfl) (fun j h1 h2 h3 => y.noDst (.inl hk) h1 h2 h3) (Nat.le_of_lt y.lt)
theorem Ready.tbound (y : Ready ops R m i S) (D : DRun ih P ops n m R) (IH : IHok P ih) {t : Nat} (hk : (useOf ops (R.o i)).testBit t = true) : tbF R S m t ≤ (R.st i).next :=
  layF_le (D.mono IH (Nat.zero_le _) (Nat.le_of_lt y.lt)) m fun j h1 h2 h3 => by
    by_cases e : j < i
    · rw [← D.next h1]; exact D.mono IH (by omega) (Nat.le_of_lt y.lt)
    · have := y.noDst (.inl hk) (by omega) h1 h2
      rw [h3] at this; cases this
theorem DInv.mi (y : Ready ops R m i S) (D : DRun ih P ops n m R) (IH : IHok P ih) (h0 : ∀ k, live (R.st 0) k → k < (R.st 0).next) (hpre : Pre M (R.st 0) (R.st m)) : ∀ k, Mi R i k → k < (fresh0 (R.st i)).next ∧ (M k ∨ (R.st 0).next ≤ k) ∧ (fresh0 (R.st i)).heap.get k = (layS (R.st 0) R.rs S m).heap.get k := fun k hk => by
  refine ⟨hk.1, ?_, by rw [hpF_eq]; exact (y.heap D IH h0 hk.2).symm⟩
  by_cases h : k < (R.st 0).next
  · exact .inl (hpre k h (hk.2.imp (fun q => D.rd q y.lt (Nat.le_refl _)) (fun q => D.wr q y.lt (Nat.le_refl _))))
  · exact .inr (Nat.le_of_not_lt h)
/-- The operation may be walked here as it was walked there. -/
theorem DInv.ready (y : Ready ops R m i S) (D : DRun ih P ops n m R) (IH : IHok P ih) (hpre : Pre M (R.st 0) (R.st m)) (h0 : Sat M B ν0 (R.st 0) W0) (I : DInv M B ν0 W0 df n m R S ν W a) :
    Sat (Mi R i) B (ν.below (R.st i).next) (fresh0 (R.st i)) W ∧ Pre (Mi R i) (fresh0 (R.st i)) (R.rs i) ∧ TRel (ν.below (R.st i).next) ((R.Ts i).keep (Nat.testBit (useOf ops (R.o i)))) a.tmps := by
  have hM := DInv.mi (S := S) y D IH h0.dom hpre
  have lM : ∀ {k}, Mi R i k → live (fresh0 (R.st i)) k → live (layS (R.st 0) R.rs S m) k := fun {k} h ⟨b, hb⟩ => by rw [(hM k h).2.2] at hb; exact ⟨b, hb⟩
  refine ⟨⟨fun k b hk hb => ?_, fun k k' i1 i2 hk hk' l l' e1 e2 q => ?_, fun k j e => ?_, D.dom IH h0.dom (Nat.le_of_lt y.lt), fun k j e => I.eff.sat.lt k j (Nu.below_le _ _ k j e)⟩, fun k h q => ⟨h, q⟩, fun t v ht => ?_⟩
  · rw [(hM k hk).2.2, hpF_eq] at hb
    obtain ⟨inf, h1, h2⟩ := I.blk k b (hM k hk).2.1 hb
    exact ⟨inf, Nu.below_of h1 hk.1, h2.mono (Nu.below_mono (Nu.le_refl _) (y.bound D IH hk.2))⟩
  · exact I.eff.sat.inj k k' i1 i2 (hM k hk).2.1 (hM k' hk').2.1 (lM hk l) (lM hk' l') (Nu.below_le _ _ k i1 e1) (Nu.below_le _ _ k' i2 e2) q
  · unfold Nu.below at e
    split at e
    · assumption
    · cases e
  · rw [Tr.get_keep] at ht
    cases q : (useOf ops (R.o i)).testBit t with
    | false => rw [q] at ht; cases ht
    | true =>
      rw [q] at ht
      simp only at ht
      obtain ⟨V, h1, h2⟩ := I.tmp t v (by rw [y.tmp D q]; exact ht)
      exact ⟨V, h1, conc_mono (Nu.below_mono (Nu.le_refl _) (y.tbound D IH q)) v V h2⟩
/-- .. and what holds behind it. -/
theorem DInv.next (y : Ready ops R m i S) (D : DRun ih P ops n m R) (IH : IHok P ih) (hpre : Pre M (R.st 0) (R.st m)) (h0 : Sat M B ν0 (R.st 0) W0) (I : DInv M B ν0 W0 df n m R S ν W a) (hS : ∀ j, S' j = (S j || decide (j = i)))
    {V : Value} {W1 : World} {ν1 : Nu} (hv : conc ν1 (R.vs i) = some V) (he : Eff (Mi R i) B (ν.below (R.st i).next) ν1 (fresh0 (R.st i)) (R.rs i) W W1) :
    DInv M B ν0 W0 df n m R S' (ν.join ν1 (R.st i).next (R.rs i).next) W1 (a.put (R.o i).dst V) := by
  have hM := DInv.mi (S := S) y D IH h0.dom hpre
  have n0 : (R.st 0).next ≤ (R.st i).next := D.mono IH (Nat.zero_le _) (Nat.le_of_lt y.lt)
  have free : ∀ k, (R.st i).next ≤ k → k < (R.rs i).next → ν k = none := fun k h1 h2 => by
    cases q : ν k with
    | none => rfl
    | some j =>
      rcases I.rng k j q with h | ⟨j', a1, a2, a3, a4⟩
      · omega
      · by_cases e1 : j' = i
        · subst e1; rw [y.not] at a2; cases a2
        · by_cases e2 : j' < i
          · have := D.mono IH (i := j' + 1) (j := i) (by omega) (Nat.le_of_lt y.lt)
            rw [D.next a1] at this
            omega
          · have := D.mono IH (i := i + 1) (j := j') (by omega) (by omega)
            rw [D.next y.lt] at this
            omega
  have hget : ∀ k, hpF R S' m k = match (R.rs i).wr.testBit k with | true => (R.rs i).heap.get k | false => hpF R S m k := fun k => by
    have := layF_add (f0 := (R.st 0).heap.get) (w := fun j => Nat.testBit (R.rs j).wr) (u := fun j => (R.rs j).heap.get) y.not hS m k (fun j h1 h2 h3 h4 => y.noWr (.inr h4) (Nat.le_of_lt h1) h2 h3)
    simp only [y.lt, decide_true, Bool.true_and] at this
    exact this
  have hbnd : ∀ k, hbF R S' m k = match (R.rs i).wr.testBit k with | true => (R.rs i).next | false => hbF R S m k := fun k => by
    have := layF_add (f0 := fun _ => (R.st 0).next) (w := fun j => Nat.testBit (R.rs j).wr) (u := fun j _ => (R.rs j).next) y.not hS m k (fun j h1 h2 h3 h4 => y.noWr (.inr h4) (Nat.le_of_lt h1) h2 h3)
    simp only [y.lt, decide_true, Bool.true_and] at this
    exact this
  have tget : ∀ k, tmF R S' m k = match (dstOf (R.o i)).testBit k with | true => (R.Ts (i + 1)).get k | false => tmF R S m k := fun k => by
    have := layF_add (f0 := (R.Ts 0).get) (w := fun j => Nat.testBit (dstOf (R.o j))) (u := fun j => (R.Ts (j + 1)).get) y.not hS m k (fun j h1 h2 h3 h4 => y.noDst (.inr h4) (Nat.le_of_lt h1) h2 h3)
    simp only [y.lt, decide_true, Bool.true_and] at this
    exact this
  have tbnd : ∀ k, tbF R S' m k = match (dstOf (R.o i)).testBit k with | true => (R.rs i).next | false => tbF R S m k := fun k => by
    have := layF_add (f0 := fun _ => (R.st 0).next) (w := fun j => Nat.testBit (dstOf (R.o j))) (u := fun j _ => (R.rs j).next) y.not hS m k (fun j h1 h2 h3 h4 => y.noDst (.inr h4) (Nat.le_of_lt h1) h2 h3)
    simp only [y.lt, decide_true, Bool.true_and] at this
    exact this
  have hnx := layS_next (s0 := R.st 0) (rs := R.rs) hS m (fun j h => layS_low D IH h) (fun i j h h' => D.rsmono IH h h')
  obtain ⟨g1, g2, g3⟩ := Eff.side (s := fresh0 (R.st i)) (s' := R.rs i) (sT := layS (R.st 0) R.rs S' m) I.eff h0.fresh (fun k hk l => layS_old D IH hk (Nat.le_refl _) l) he ((D.step i y.lt).le IH) (D.dom IH h0.dom (Nat.le_of_lt y.lt)) hM (fun k h q => ⟨h, q⟩) free n0
    (fun k => by rw [hpF_eq, hpF_eq]; exact hget k) (fun k => by rw [layS_wr hS]; simp [y.lt]) ⟨hnx.1, hnx.2 y.lt⟩
  have hfin : ν1.le ((ν.join ν1 (R.st i).next (R.rs i).next).below (R.rs i).next) := fun k j e => Nu.below_of (g3 k j e) (he.sat.fresh k j e)
  have hsz : (a.put (R.o i).dst V).tmps.size = n := by
    cases (R.o i).dst with
    | none => exact I.size
    | some d => simp [Act.put, I.size]
  refine ⟨g1, fun k b hk hb => ?_, fun t v ht => ?_, hsz, ?_, fun k j e => ?_⟩
  · rw [hget] at hb
    rw [hbnd]
    cases q : (R.rs i).wr.testBit k with
    | true =>
      rw [q] at hb
      simp only at hb ⊢
      have vis : Mi R i k ∨ (fresh0 (R.st i)).next ≤ k := by
        by_cases h : k < (R.st i).next
        · exact .inl ⟨h, .inr q⟩
        · exact .inr (Nat.le_of_not_lt h)
      obtain ⟨inf, h1, h2⟩ := he.sat.blk k b vis hb
      exact ⟨inf, g3 k inf h1, h2.mono hfin⟩
    | false =>
      rw [q] at hb
      simp only at hb ⊢
      obtain ⟨inf, h1, h2⟩ := I.blk k b hk hb
      refine ⟨inf, g2 k inf h1, (h2.keep fun o ho => ?_).mono (Nu.below_mono g2 (Nat.le_refl _))⟩
      exact Eff.side_keep I.eff he hM hk (by rw [hpF_eq]; exact hb) h1 q ho
  · rw [tget] at ht
    rw [tbnd]
    unfold dstOf at ht ⊢
    rcases putT_get (D.step i y.lt).put with ⟨e, e'⟩ | ⟨d, e, hd, hg⟩
    · rw [e] at ht ⊢
      simp only [Nat.zero_testBit] at ht ⊢
      obtain ⟨V', h1, h2⟩ := I.tmp t v ht
      exact ⟨V', h1, conc_mono (Nu.below_mono g2 (Nat.le_refl _)) v V' h2⟩
    · rw [e] at ht ⊢
      simp only [Act.put, Array.getElem?_setIfInBounds] at ht ⊢
      cases q : (bit d).testBit t with
      | true =>
        have := bit_iff.1 q
        subst this
        rw [q] at ht
        simp only at ht ⊢
        rw [hg, if_pos rfl] at ht
        cases ht
        rw [if_pos trivial]
        exact ⟨V, by rw [if_pos (by rw [I.size]; exact hd)], conc_mono hfin _ V hv⟩
      | false =>
        rw [q] at ht
        simp only at ht ⊢
        rw [if_neg (fun e => by subst e; rw [bit_self] at q; cases q)]
        obtain ⟨V', h1, h2⟩ := I.tmp t v ht
        exact ⟨V', h1, conc_mono (Nu.below_mono g2 (Nat.le_refl _)) v V' h2⟩
  · cases (R.o i).dst with
    | none => exact I.df
    | some d => exact I.df
  · by_cases q : (R.st i).next ≤ k ∧ k < (R.rs i).next
    · exact .inr ⟨i, y.lt, by rw [hS]; simp, q.1, q.2⟩
    · rw [Nu.join_out q] at e
      rcases I.rng k j e with h | ⟨j', a1, a2, a3, a4⟩
      · exact .inl h
      · exact .inr ⟨j', a1, by rw [hS, a2]; rfl, a3, a4⟩
end
end Go.Proofs.YtnnalcfdeldocaaGreatDoor.X
