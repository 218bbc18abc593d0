/- A walk by the kernel: values by name, what they stand for, tries. A walk by the kernel: states, what lies in memory, what a step changes. A walk by the kernel: a name that ends. A walk by the kernel: the operations that call nothing. A walk by the kernel: the evaluator. A walk by the kernel: the evaluator once more, as the kernel runs it quickly: recursors alone, answers handed on. -/
import GoSem.Step
namespace Go.Proofs.YtnnalcfdeldocaaGreatDoor.X
open Go
set_option linter.unusedVariables false
set_option linter.unusedSimpArgs false
/-- A slice's capacity: told, or what is left of its name's from the j-th element on. -/
inductive Cap where
  | known (c : Nat)
  | unk (j : Nat)
/-- Values by name. -/
inductive AV where
  | bool (b : Bool)
  | int (k : IntKind) (n : Int)
  | str (s : List Nat)
  | ptr0
  | ptr (k i : Nat)
  | slice0
  | slice (k i len : Nat) (cap : Cap)
  | map0
  | map (k : Nat)
  | fn (f : Nat) (first captured : List AV)
  | yld (k : Nat)
  | fn0
  | iface0
  | iface (t : Nat) (v : AV)
  | agg (cs : List AV)
  | tup (vs : List AV)
  | sym (k : IntKind) (c j : Nat)
  | sstr (s : List Nat)
/-- What a name stands for: a block, an offset in it, a capacity. -/
structure Inf where
  blk : Nat
  off : Nat
  cap : Nat
abbrev Nu := Nat → Option Inf
def Nu.le (ν ν' : Nu) : Prop := ∀ k i, ν k = some i → ν' k = some i
theorem Nu.le_refl (ν : Nu) : ν.le ν := fun _ _ h => h
theorem Nu.le_trans {a b c : Nu} (h : a.le b) (h' : b.le c) : a.le c := fun k i e => h' k i (h k i e)
def strOk (s : List Nat) : Bool := s.all (fun n => Nat.blt n 256)
def bytesOf (s : List Nat) : ByteArray := ⟨(s.map UInt8.ofNat).toArray⟩
/-- A number that is not known: what it is, of its name's number; none: it is not such a one. -/
def symVal (c v : Nat) : Option Int := match c with
  | 0 => if v < 4294967296 then some (.ofNat v) else none
  | 1 => if 1 ≤ v ∧ v ≤ 127 then some (.ofNat v) else none
  | 2 => if 128 ≤ v ∧ v ≤ 1000 then some (.ofNat v) else none
  | 3 => if 128 ≤ v ∧ v ≤ 1000 then some (.ofNat (v % 256)) else none
  | 4 => if 128 ≤ v ∧ v ≤ 1000 then some (.ofNat (v % 128 + 128)) else none
  | 5 => if 128 ≤ v ∧ v ≤ 1000 then some (.ofNat (v / 128)) else none
  | 6 => if 128 ≤ v ∧ v ≤ 1000 then some (.ofNat (v % 128)) else none
  | 7 => if 128 ≤ v ∧ v ≤ 1000 then some (.ofNat (v / 128 * 128)) else none
  | 8 => if v < 4294967296 then some (.ofNat (v / 16777216)) else none
  | 9 => if v < 4294967296 then some (.ofNat (v / 65536)) else none
  | 10 => if v < 4294967296 then some (.ofNat (v / 256)) else none
  | 11 => if v < 4294967296 then some (.ofNat (v / 65536 % 256)) else none
  | 12 => if v < 4294967296 then some (.ofNat (v / 256 % 256)) else none
  | 13 => if v < 4294967296 then some (.ofNat (v % 256)) else none
  | 14 => if v ≤ 9223372036854775808 then some (- (.ofNat v)) else none
  | 15 => if 1001 ≤ v ∧ v ≤ 9223372036854775807 then some (.ofNat v) else none
  | 16 => if 1 ≤ v ∧ v ≤ 1000 then some (.ofNat v) else none
  | 17 => if v ≤ 18446744073709551615 then some (.ofNat v - 9223372036854775808) else none
  | _ => none
/-- A byte of a text: told, or not known. -/
def byteS (ν : Nu) (n : Nat) : Option UInt8 := match Nat.blt n 256 with
  | true => some (UInt8.ofNat n)
  | false => (ν ((n - 256) / 32)).bind fun inf => (symVal ((n - 256) % 32) inf.cap).bind fun z => if 0 ≤ z ∧ z < 256 then some (UInt8.ofNat z.toNat) else none
def bytesS (ν : Nu) : List Nat → Option (List UInt8)
  | [] => some []
  | n :: ns => (byteS ν n).bind fun b => (bytesS ν ns).map fun r => b :: r
theorem byteS_mono {ν ν' : Nu} (h : ν.le ν') {n : Nat} {b : UInt8} (e : byteS ν n = some b) : byteS ν' n = some b := by
  unfold byteS at e ⊢
  split at e
  · exact e
  · simp only [Option.bind_eq_some_iff] at e ⊢
    obtain ⟨a, h1, h2⟩ := e
    exact ⟨a, h _ _ h1, h2⟩
theorem bytesS_mono {ν ν' : Nu} (h : ν.le ν') : ∀ {s : List Nat} {b : List UInt8}, bytesS ν s = some b → bytesS ν' s = some b
  | [], b, e => e
  | n :: ns, b, e => by
    simp only [bytesS, Option.bind_eq_some_iff, Option.map_eq_some_iff] at e ⊢
    obtain ⟨x, h1, y, h2, h3⟩ := e
    exact ⟨x, byteS_mono h h1, y, bytesS_mono h h2, h3⟩
mutual
def conc (ν : Nu) : AV → Option Value
  | .bool b => some (.bool b)
  | .int k n => some (.int k n)
  | .str s => if strOk s = true then some (.string (bytesOf s)) else none
  | .ptr0 => some (.pointer none)
  | .ptr k i => (ν k).map fun inf => .pointer (some ⟨inf.blk, inf.off + i, none⟩)
  | .slice0 => some (.slice none 0 0)
  | .slice k i len (.known c) => (ν k).map fun inf => .slice (some ⟨inf.blk, inf.off + i, none⟩) len c
  | .slice k i len (.unk j) => (ν k).bind fun inf => if j + len ≤ inf.cap then some (.slice (some ⟨inf.blk, inf.off + i, none⟩) len (inf.cap - j)) else none
  | .map0 => some (.map none)
  | .map k => (ν k).map fun inf => .map (some inf.blk)
  | .fn f a b => (concs ν a).bind fun x => (concs ν b).map fun y => .func (.func f) x.toArray y.toArray
  | .yld k => (ν k).map fun inf => .func (.yield inf.blk) #[] #[]
  | .fn0 => some .nilFunc
  | .iface0 => some .nilIface
  | .iface t v => (conc ν v).map fun x => .iface t x
  | .agg cs => (concs ν cs).map fun x => .agg x.toArray
  | .tup vs => (concs ν vs).map fun x => .tuple x.toArray
  | .sym k c j => (ν j).bind fun inf => (symVal c inf.cap).map fun z => .int k z
  | .sstr s => (bytesS ν s).map fun b => .string ⟨b.toArray⟩
def concs (ν : Nu) : List AV → Option (List Value)
  | [] => some []
  | v :: vs => (conc ν v).bind fun x => (concs ν vs).map fun y => x :: y
end
mutual
theorem conc_mono {ν ν' : Nu} (h : ν.le ν') : ∀ (v : AV) (V : Value), conc ν v = some V → conc ν' v = some V
  | .bool b, V, e => by simpa [conc] using e
  | .int k n, V, e => by simpa [conc] using e
  | .str s, V, e => by simpa [conc] using e
  | .ptr0, V, e => by simpa [conc] using e
  | .ptr k i, V, e => by
    simp only [conc, Option.map_eq_some_iff] at e ⊢
    obtain ⟨a, h1, h2⟩ := e; exact ⟨a, h _ _ h1, h2⟩
  | .slice0, V, e => by simpa [conc] using e
  | .slice k i len (.known c), V, e => by
    simp only [conc, Option.map_eq_some_iff] at e ⊢
    obtain ⟨a, h1, h2⟩ := e; exact ⟨a, h _ _ h1, h2⟩
  | .slice k i len (.unk j), V, e => by
    simp only [conc, Option.bind_eq_some_iff] at e ⊢
    obtain ⟨a, h1, h2⟩ := e; exact ⟨a, h _ _ h1, h2⟩
  | .map0, V, e => by simpa [conc] using e
  | .map k, V, e => by
    simp only [conc, Option.map_eq_some_iff] at e ⊢
    obtain ⟨a, h1, h2⟩ := e; exact ⟨a, h _ _ h1, h2⟩
  | .fn f a b, V, e => by
    simp only [conc, Option.bind_eq_some_iff, Option.map_eq_some_iff] at e ⊢
    obtain ⟨x, h1, y, h2, h3⟩ := e
    exact ⟨x, concs_mono h a x h1, y, concs_mono h b y h2, h3⟩
  | .yld k, V, e => by
    simp only [conc, Option.map_eq_some_iff] at e ⊢
    obtain ⟨a, h1, h2⟩ := e; exact ⟨a, h _ _ h1, h2⟩
  | .fn0, V, e => by simpa [conc] using e
  | .iface0, V, e => by simpa [conc] using e
  | .iface t v, V, e => by
    simp only [conc, Option.map_eq_some_iff] at e ⊢
    obtain ⟨x, h1, h2⟩ := e; exact ⟨x, conc_mono h v x h1, h2⟩
  | .agg cs, V, e => by
    simp only [conc, Option.map_eq_some_iff] at e ⊢
    obtain ⟨x, h1, h2⟩ := e; exact ⟨x, concs_mono h cs x h1, h2⟩
  | .tup vs, V, e => by
    simp only [conc, Option.map_eq_some_iff] at e ⊢
    obtain ⟨x, h1, h2⟩ := e; exact ⟨x, concs_mono h vs x h1, h2⟩
  | .sym k c j, V, e => by
    simp only [conc, Option.bind_eq_some_iff] at e ⊢
    obtain ⟨a, h1, h2⟩ := e; exact ⟨a, h _ _ h1, h2⟩
  | .sstr s, V, e => by
    simp only [conc, Option.map_eq_some_iff] at e ⊢
    obtain ⟨x, h1, h2⟩ := e; exact ⟨x, bytesS_mono h h1, h2⟩
theorem concs_mono {ν ν' : Nu} (h : ν.le ν') : ∀ (l : List AV) (L : List Value), concs ν l = some L → concs ν' l = some L
  | [], L, e => by simpa [concs] using e
  | v :: vs, L, e => by
    simp only [concs, Option.bind_eq_some_iff, Option.map_eq_some_iff] at e ⊢
    obtain ⟨x, h1, y, h2, h3⟩ := e
    exact ⟨x, conc_mono h v x h1, y, concs_mono h vs y h2, h3⟩
end
section
variable {ν : Nu}
theorem concs_nil : concs ν [] = some [] := by simp [concs]
theorem concs_cons {v : AV} {vs : List AV} {L : List Value} : concs ν (v :: vs) = some L ↔ ∃ x y, conc ν v = some x ∧ concs ν vs = some y ∧ L = x :: y := by
  simp only [concs, Option.bind_eq_some_iff, Option.map_eq_some_iff]
  constructor
  · rintro ⟨x, h1, y, h2, rfl⟩; exact ⟨x, y, h1, h2, rfl⟩
  · rintro ⟨x, y, h1, h2, rfl⟩; exact ⟨x, h1, y, h2, rfl⟩
theorem concs_length : ∀ {l : List AV} {L : List Value}, concs ν l = some L → L.length = l.length
  | [], L, e => by rw [concs_nil] at e; cases e; rfl
  | v :: vs, L, e => by
    obtain ⟨x, y, _, h2, rfl⟩ := concs_cons.1 e
    simp [concs_length h2]
theorem concs_get : ∀ {l : List AV} {L : List Value}, concs ν l = some L → ∀ {i : Nat} {v : AV}, l[i]? = some v → ∃ V, L[i]? = some V ∧ conc ν v = some V
  | [], L, e, i, v, h => by simp at h
  | w :: ws, L, e, i, v, h => by
    obtain ⟨x, y, h1, h2, rfl⟩ := concs_cons.1 e
    cases i with
    | zero => simp only [List.getElem?_cons_zero, Option.some.injEq] at h ⊢; subst h; exact ⟨x, rfl, h1⟩
    | succ i => simp only [List.getElem?_cons_succ] at h ⊢; exact concs_get h2 h
theorem concs_of : ∀ {l : List AV} {L : List Value}, L.length = l.length → (∀ (i : Nat) (v : AV), l[i]? = some v → ∃ V, L[i]? = some V ∧ conc ν v = some V) → concs ν l = some L
  | [], L, e, _ => by
    have : L = [] := List.eq_nil_of_length_eq_zero (by simpa using e)
    subst this; exact concs_nil
  | v :: vs, L, e, h => by
    cases L with
    | nil => simp at e
    | cons x y =>
      obtain ⟨V, h1, h2⟩ := h 0 v rfl
      simp only [List.getElem?_cons_zero, Option.some.injEq] at h1
      subst h1
      refine concs_cons.2 ⟨x, y, h2, concs_of (by simpa using e) (fun i w hw => ?_), rfl⟩
      obtain ⟨V, h3, h4⟩ := h (i + 1) w (by simpa using hw)
      exact ⟨V, by simpa using h3, h4⟩
theorem concs_append : ∀ {a b : List AV} {A B : List Value}, concs ν a = some A → concs ν b = some B → concs ν (a ++ b) = some (A ++ B)
  | [], b, A, B, ha, hb => by rw [concs_nil] at ha; cases ha; simpa using hb
  | v :: vs, b, A, B, ha, hb => by
    obtain ⟨x, y, h1, h2, rfl⟩ := concs_cons.1 ha
    exact concs_cons.2 ⟨x, y ++ B, h1, concs_append h2 hb, rfl⟩
theorem concs_take {l : List AV} {L : List Value} (h : concs ν l = some L) (n : Nat) : concs ν (l.take n) = some (L.take n) := by
  refine concs_of (by simp [concs_length h]) (fun i v hv => ?_)
  rw [List.getElem?_take] at hv ⊢
  split at hv
  · next hi => obtain ⟨V, h1, h2⟩ := concs_get h hv; exact ⟨V, by rw [if_pos hi]; exact h1, h2⟩
  · cases hv
theorem concs_drop {l : List AV} {L : List Value} (h : concs ν l = some L) (n : Nat) : concs ν (l.drop n) = some (L.drop n) := by
  refine concs_of (by simp [concs_length h]) (fun i v hv => ?_)
  rw [List.getElem?_drop] at hv ⊢
  exact concs_get h hv
theorem concs_replicate {v : AV} {V : Value} (h : conc ν v = some V) : ∀ n, concs ν (List.replicate n v) = some (List.replicate n V)
  | 0 => concs_nil
  | n + 1 => concs_cons.2 ⟨V, _, h, concs_replicate h n, rfl⟩
end
/-- The cells that a value fills. -/
def AV.cells : AV → List AV
  | .agg cs => cs
  | v => [v]
theorem conc_cells {ν : Nu} {v : AV} {V : Value} (h : conc ν v = some V) : concs ν v.cells = some V.cells.toList := by
  have one : ∀ {v : AV} {V : Value}, conc ν v = some V → concs ν [v] = some [V] := fun h => concs_cons.2 ⟨_, _, h, concs_nil, rfl⟩
  cases v with
  | agg cs =>
    simp only [conc, Option.map_eq_some_iff] at h
    obtain ⟨x, h1, rfl⟩ := h
    simpa [AV.cells, Value.cells] using h1
  | bool b => have h' := h; simp only [conc, Option.some.injEq] at h; subst h; exact one h'
  | int k n => have h' := h; simp only [conc, Option.some.injEq] at h; subst h; exact one h'
  | str s =>
    have h' := h; simp only [conc] at h; split at h
    · cases h; exact one h'
    · cases h
  | ptr0 => have h' := h; simp only [conc, Option.some.injEq] at h; subst h; exact one h'
  | ptr k i => have h' := h; simp only [conc, Option.map_eq_some_iff] at h; obtain ⟨a, _, rfl⟩ := h; exact one h'
  | slice0 => have h' := h; simp only [conc, Option.some.injEq] at h; subst h; exact one h'
  | slice k i len cap =>
    cases cap with
    | known c => have h' := h; simp only [conc, Option.map_eq_some_iff] at h; obtain ⟨a, _, rfl⟩ := h; exact one h'
    | unk j =>
      have h' := h; simp only [conc, Option.bind_eq_some_iff] at h; obtain ⟨a, _, h2⟩ := h
      split at h2
      · cases h2; exact one h'
      · cases h2
  | map0 => have h' := h; simp only [conc, Option.some.injEq] at h; subst h; exact one h'
  | map k => have h' := h; simp only [conc, Option.map_eq_some_iff] at h; obtain ⟨a, _, rfl⟩ := h; exact one h'
  | fn f a b =>
    have h' := h; simp only [conc, Option.bind_eq_some_iff, Option.map_eq_some_iff] at h
    obtain ⟨x, _, y, _, rfl⟩ := h; exact one h'
  | yld k => have h' := h; simp only [conc, Option.map_eq_some_iff] at h; obtain ⟨a, _, rfl⟩ := h; exact one h'
  | fn0 => have h' := h; simp only [conc, Option.some.injEq] at h; subst h; exact one h'
  | iface0 => have h' := h; simp only [conc, Option.some.injEq] at h; subst h; exact one h'
  | iface t v => have h' := h; simp only [conc, Option.map_eq_some_iff] at h; obtain ⟨a, _, rfl⟩ := h; exact one h'
  | tup vs => have h' := h; simp only [conc, Option.map_eq_some_iff] at h; obtain ⟨a, _, rfl⟩ := h; exact one h'
  | sym k c j => have h' := h; simp only [conc, Option.bind_eq_some_iff, Option.map_eq_some_iff] at h; obtain ⟨a, _, z, _, rfl⟩ := h; exact one h'
  | sstr s => have h' := h; simp only [conc, Option.map_eq_some_iff] at h; obtain ⟨a, _, rfl⟩ := h; exact one h'
/-- A trie of what numbers are given. -/
inductive Tr (α : Type) where
  | nil
  | node (v : Option α) (l r : Tr α)
def Tr.get {α : Type} : Tr α → Nat → Option α
  | .nil, _ => none
  | .node v l r, k => match Nat.beq k 0 with
    | true => v
    | false => match Nat.beq (Nat.land k 1) 1 with
      | true => l.get (Nat.shiftRight k 1)
      | false => r.get (Nat.sub (Nat.shiftRight k 1) 1)
def Tr.put {α : Type} : Nat → Tr α → Nat → Option α → Tr α
  | 0, t, _, _ => t
  | f + 1, .nil, k, x => match Nat.beq k 0 with
    | true => .node x .nil .nil
    | false => match Nat.beq (Nat.land k 1) 1 with
      | true => .node none (Tr.put f .nil (Nat.shiftRight k 1) x) .nil
      | false => .node none .nil (Tr.put f .nil (Nat.sub (Nat.shiftRight k 1) 1) x)
  | f + 1, .node v l r, k, x => match Nat.beq k 0 with
    | true => .node x l r
    | false => match Nat.beq (Nat.land k 1) 1 with
      | true => .node v (Tr.put f l (Nat.shiftRight k 1) x) r
      | false => .node v l (Tr.put f r (Nat.sub (Nat.shiftRight k 1) 1) x)
theorem key_cases (k : Nat) : (Nat.beq k 0 = true ∧ k = 0) ∨ (Nat.beq k 0 = false ∧ Nat.beq (Nat.land k 1) 1 = true ∧ k = 2 * Nat.shiftRight k 1 + 1) ∨ (Nat.beq k 0 = false ∧ Nat.beq (Nat.land k 1) 1 = false ∧ k = 2 * Nat.sub (Nat.shiftRight k 1) 1 + 2) := by
  have h1 : Nat.land k 1 = k % 2 := Nat.and_one_is_mod k
  have h2 : Nat.shiftRight k 1 = k / 2 := (Nat.shiftRight_eq_div_pow k 1)
  rw [h1, h2]
  have h3 : (k / 2).sub 1 = k / 2 - 1 := rfl
  rw [h3]
  by_cases h : k = 0
  · left; exact ⟨by rw [h]; rfl, h⟩
  · right
    have e : Nat.beq k 0 = false := by rw [← Bool.not_eq_true, Nat.beq_eq]; exact h
    by_cases h' : k % 2 = 1
    · left; exact ⟨e, by rw [h']; rfl, by omega⟩
    · right; exact ⟨e, by rw [show k % 2 = 0 by omega]; rfl, by omega⟩
theorem Tr.get_nil {α : Type} (k : Nat) : (Tr.nil : Tr α).get k = none := by simp [Tr.get]
theorem Tr.get_put {α : Type} : ∀ (f : Nat) (t : Tr α) (k : Nat) (x : Option α) (j : Nat), k + 1 < 2 ^ f → (Tr.put f t k x).get j = if j = k then x else t.get j
  | 0, t, k, x, j, h => by simp at h
  | f + 1, t, k, x, j, h => by
    have hp : 2 ^ (f + 1) = 2 * 2 ^ f := by rw [Nat.pow_succ, Nat.mul_comm]
    have ih := fun (t : Tr α) (k j : Nat) (h : k + 1 < 2 ^ f) => Tr.get_put f t k x j h
    have hn : ∀ j, (Tr.nil : Tr α).get j = none := Tr.get_nil
    rcases key_cases k with ⟨a, b⟩ | ⟨a, b, c⟩ | ⟨a, b, c⟩ <;> rcases key_cases j with ⟨a', b'⟩ | ⟨a', b', c'⟩ | ⟨a', b', c'⟩ <;> cases t <;>
      simp only [Tr.put, Tr.get, a, b, a', b', hn] <;>
      first
        | (rw [ih _ _ _ (by omega)]; split <;> split <;> first | rfl | omega | exact hn _)
        | (split <;> first | rfl | omega)
        | rfl
end Go.Proofs.YtnnalcfdeldocaaGreatDoor.X
namespace Go.Proofs.YtnnalcfdeldocaaGreatDoor.X
open Go
set_option linter.unusedVariables false
set_option linter.unusedSimpArgs false
inductive ABlk where
  | cells (c : List AV) (elem z : Nat) (unk : Bool)
  | map (es : List (AV × AV × Nat)) (clock : Nat)
  | iter (m : Option Nat) (since : Nat) (seen : List Nat) (stepped : Nat)
  | loop (st : LoopState) (pending : Option Code) (tmps : Tr AV) (size : Nat) (params : Array Tmp) (assign body : Code) (defers : Nat)
  | dfr
structure St where
  heap : Tr ABlk
  next : Nat
  rd : Nat
  wr : Nat
def bit (k : Nat) : Nat := Nat.shiftLeft 1 k
theorem testBit_lor (m k j : Nat) : (Nat.lor m (bit k)).testBit j = (m.testBit j || decide (j = k)) := by
  show (m ||| (1 <<< k)).testBit j = _
  rw [Nat.testBit_or, Nat.shiftLeft_eq, Nat.one_mul, Nat.testBit_two_pow]
  congr 1
  exact decide_eq_decide.2 eq_comm
theorem testBit_lor2 (m n j : Nat) : (Nat.lor m n).testBit j = (m.testBit j || n.testBit j) := Nat.testBit_or m n j
def live (s : St) (k : Nat) : Prop := ∃ b, s.heap.get k = some b
structure Le (s s' : St) : Prop where
  next : s.next ≤ s'.next
  rd : ∀ k, s.rd.testBit k = true → s'.rd.testBit k = true
  wr : ∀ k, s.wr.testBit k = true → s'.wr.testBit k = true
  same : (∀ k, live s k → k < s.next) → ∀ k, s'.wr.testBit k = false → s'.heap.get k = s.heap.get k
  old : ∀ k, k < s.next → live s' k → live s k
  dom : (∀ k, live s k → k < s.next) → ∀ k, live s' k → k < s'.next
theorem Le.refl (s : St) : Le s s := ⟨Nat.le_refl _, fun _ h => h, fun _ h => h, fun _ _ _ => rfl, fun _ _ h => h, fun h => h⟩
theorem Le.trans {a b c : St} (h : Le a b) (k : Le b c) : Le a c := by
  refine ⟨Nat.le_trans h.next k.next, fun j e => k.rd j (h.rd j e), fun j e => k.wr j (h.wr j e), fun dm j e => ?_, fun j e l => h.old j e (k.old j (Nat.lt_of_lt_of_le e h.next) l), fun d => k.dom (h.dom d)⟩
  have e1 : b.wr.testBit j = false := by
    cases q : b.wr.testBit j with
    | false => rfl
    | true => rw [k.wr j q] at e; cases e
  rw [k.same (h.dom dm) j e, h.same dm j e1]
def TRel (ν : Nu) (T : Tr AV) (tm : Array Value) : Prop := ∀ t v, T.get t = some v → ∃ V, tm[t]? = some V ∧ conc ν v = some V
theorem TRel.mono {ν ν' : Nu} {T : Tr AV} {tm : Array Value} (h : TRel ν T tm) (hn : ν.le ν') : TRel ν' T tm := fun t v e => by
  obtain ⟨V, h1, h2⟩ := h t v e
  exact ⟨V, h1, conc_mono hn v V h2⟩
def EntOk (ν : Nu) (e : AV × AV × Nat) (m : MapEntry) : Prop := conc ν e.1 = some m.key ∧ conc ν e.2.1 = some m.val ∧ e.2.2 = m.born
def EntsOk (ν : Nu) : List (AV × AV × Nat) → List MapEntry → Prop
  | [], [] => True
  | e :: es, m :: ms => EntOk ν e m ∧ EntsOk ν es ms
  | _, _ => False
theorem EntsOk.mono {ν ν' : Nu} (hn : ν.le ν') : ∀ {es : List (AV × AV × Nat)} {ms : List MapEntry}, EntsOk ν es ms → EntsOk ν' es ms
  | [], [], _ => trivial
  | e :: es, m :: ms, ⟨⟨h1, h2, h3⟩, h4⟩ => ⟨⟨conc_mono hn _ _ h1, conc_mono hn _ _ h2, h3⟩, EntsOk.mono hn h4⟩
  | [], _ :: _, h => h.elim
  | _ :: _, [], h => h.elim
/-- What lies in memory under a name. -/
def BOk (ν : Nu) (inf : Inf) (W : World) : ABlk → Prop
  | .cells c e z u => ∃ C fz, W.heap[inf.blk]? = some (.cells C e fz) ∧ (fz.2 ≤ fz.1 ∨ C.size ≤ fz.1) ∧ (∀ (i : Nat) (v : AV), c[i]? = some v → ∃ V, C[inf.off + i]? = some V ∧ conc ν v = some V) ∧ (u = false → inf.off = 0 ∧ C.size = c.length) ∧ (u = true → 0 < z ∧ inf.off + inf.cap * z ≤ C.size ∧ c.length ≤ inf.cap * z)
  | .map es clock => ∃ ms, W.heap[inf.blk]? = some (.map ms clock) ∧ EntsOk ν es ms.toList
  | .iter m since seen stepped => ∃ r, W.heap[inf.blk]? = some (.mapIter r since seen.toArray stepped) ∧ (match m with | none => r = none | some k => ∃ i, ν k = some i ∧ r = some i.blk) ∧ inf.off = 0
  | .loop st pending T n params assign body d => ∃ fn tm i, W.heap[inf.blk]? = some (.loop { state := st, pending, fn, tmps := tm, params, assign, body, defers := i.blk }) ∧ TRel ν T tm ∧ tm.size = n ∧ ν d = some i
  | .dfr => W.heap[inf.blk]? = some (.deferred (some []))
theorem BOk.mono {ν ν' : Nu} {inf : Inf} {W : World} {b : ABlk} (h : BOk ν inf W b) (hn : ν.le ν') : BOk ν' inf W b := by
  cases b with
  | cells c e z u =>
    obtain ⟨C, fz, h1, h2, h3, h4⟩ := h
    exact ⟨C, fz, h1, h2, fun i v e => by obtain ⟨V, a, b⟩ := h3 i v e; exact ⟨V, a, conc_mono hn v V b⟩, h4⟩
  | map es clock => obtain ⟨ms, h1, h2⟩ := h; exact ⟨ms, h1, h2.mono hn⟩
  | iter m since seen stepped =>
    obtain ⟨r, h1, h2, h0⟩ := h
    refine ⟨r, h1, ?_, h0⟩
    cases m with
    | none => exact h2
    | some k => obtain ⟨i, a, b⟩ := h2; exact ⟨i, hn _ _ a, b⟩
  | loop st pending T n params assign body d =>
    obtain ⟨fn, tm, i, h1, h2, h3, h4⟩ := h
    exact ⟨fn, tm, i, h1, h2.mono hn, h3, hn _ _ h4⟩
  | dfr => exact h
theorem BOk.at {ν : Nu} {inf : Inf} {W : World} {b : ABlk} (h : BOk ν inf W b) : ∃ o, W.heap[inf.blk]? = some o := by
  cases b with
  | cells c e z u => obtain ⟨C, fz, h1, _⟩ := h; exact ⟨_, h1⟩
  | map es clock => obtain ⟨ms, h1, _⟩ := h; exact ⟨_, h1⟩
  | iter m since seen stepped => obtain ⟨r, h1, _⟩ := h; exact ⟨_, h1⟩
  | loop st pending T n params assign body d => obtain ⟨fn, tm, i, h1, _⟩ := h; exact ⟨_, h1⟩
  | dfr => exact ⟨_, h⟩
theorem BOk.keep {ν : Nu} {inf : Inf} {W W' : World} {b : ABlk} (h : BOk ν inf W b) (he : ∀ o, W.heap[inf.blk]? = some o → W'.heap[inf.blk]? = some o) : BOk ν inf W' b := by
  cases b with
  | cells c e z u => obtain ⟨C, fz, h1, h2⟩ := h; exact ⟨C, fz, he _ h1, h2⟩
  | map es clock => obtain ⟨ms, h1, h2⟩ := h; exact ⟨ms, he _ h1, h2⟩
  | iter m since seen stepped => obtain ⟨r, h1, h2⟩ := h; exact ⟨r, he _ h1, h2⟩
  | loop st pending T n params assign body d => obtain ⟨fn, tm, i, h1, h2⟩ := h; exact ⟨fn, tm, i, he _ h1, h2⟩
  | dfr => exact he _ h
structure Sat (M : Nat → Prop) (B : Nat) (ν : Nu) (s : St) (W : World) : Prop where
  blk : ∀ k b, M k → s.heap.get k = some b → ∃ inf, ν k = some inf ∧ BOk ν inf W b
  inj : ∀ k k' i i', M k → M k' → live s k → live s k' → ν k = some i → ν k' = some i' → i.blk = i'.blk → k = k'
  fresh : ∀ k i, ν k = some i → k < s.next
  dom : ∀ k, live s k → k < s.next
  lt : ∀ k i, ν k = some i → B ≤ i.blk ∧ i.blk < W.heap.size
theorem Sat.mono {M M' : Nat → Prop} {B : Nat} {ν : Nu} {s : St} {W : World} (h : Sat M B ν s W) (hm : ∀ k, live s k → M' k → M k) : Sat M' B ν s W :=
  ⟨fun k b m e => h.blk k b (hm k ⟨b, e⟩ m) e, fun k k' i i' m m' l l' => h.inj k k' i i' (hm k l m) (hm k' l' m') l l', h.fresh, h.dom, h.lt⟩
/-- What a step from s to s' does in memory. -/
structure Eff (M : Nat → Prop) (B : Nat) (ν ν' : Nu) (s s' : St) (W W' : World) : Prop where
  sat : Sat (fun k => M k ∨ s.next ≤ k) B ν' s' W'
  ext : ν.le ν'
  new : ∀ k i, ν k = none → ν' k = some i → s.next ≤ k ∧ (live s' k → W.heap.size ≤ i.blk ∨ ∃ k0 i0, k0 < s.next ∧ M k0 ∧ live s k0 ∧ s'.wr.testBit k0 = true ∧ ν k0 = some i0 ∧ i0.blk = i.blk)
  frame : ∀ b o, W.heap[b]? = some o → (∀ k0 i0, k0 < s.next → live s k0 → s'.wr.testBit k0 = true → M k0 → ν k0 = some i0 → i0.blk ≠ b) → W'.heap[b]? = some o
  size : W.heap.size ≤ W'.heap.size
  os : W'.os = W.os
  tape : W'.tape = W.tape
  output : W'.output = W.output
def Pre (M : Nat → Prop) (s s' : St) : Prop := ∀ k, k < s.next → (s'.rd.testBit k = true ∨ s'.wr.testBit k = true) → M k
section
variable {M : Nat → Prop} {B : Nat} {ν ν1 ν2 : Nu} {s s1 s2 : St} {W W1 W2 : World}
theorem Pre.left (h : Pre M s s2) (l : Le s1 s2) : Pre M s s1 := fun k hk hb => h k hk (hb.imp (l.rd k) (l.wr k))
theorem Pre.right (h : Pre M s s2) : Pre (fun k => M k ∨ s.next ≤ k) s1 s2 := fun k _ hb => by
  by_cases q : k < s.next
  · exact .inl (h k q hb)
  · exact .inr (Nat.le_of_not_lt q)
theorem Sat.old (h : Sat M B ν s W) : Sat (fun k => M k ∨ s.next ≤ k) B ν s W := h.mono fun k l m => m.resolve_right (fun q => absurd (h.dom k l) (Nat.not_lt.2 q))
theorem Eff.refl (h : Sat M B ν s W) : Eff M B ν ν s s W W :=
  ⟨h.old, Nu.le_refl ν, fun k i a b => (by rw [a] at b; cases b), fun _ _ h _ => h, Nat.le_refl _, rfl, rfl, rfl⟩
theorem Eff.trans (h : Eff M B ν ν1 s s1 W W1) (k : Eff (fun k => M k ∨ s.next ≤ k) B ν1 ν2 s1 s2 W1 W2) (l1 : Le s s1) (l2 : Le s1 s2) (hf : ∀ k i, ν k = some i → k < s.next) : Eff M B ν ν2 s s2 W W2 := by
  refine ⟨k.sat.mono fun j _ hj => ?_, Nu.le_trans h.ext k.ext, fun j i hn hs => ?_, fun b o hb hy => ?_, Nat.le_trans h.size k.size, k.os.trans h.os, k.tape.trans h.tape, k.output.trans h.output⟩
  · exact .inl hj
  · cases q : ν1 j with
    | some i' =>
      have e := k.ext j i' q
      rw [hs] at e
      cases e
      have hj : j < s1.next := h.sat.fresh j i q
      obtain ⟨h1, h2⟩ := h.new j i hn q
      refine ⟨h1, fun lv => (h2 (l2.old j hj lv)).imp id ?_⟩
      rintro ⟨k0, i0, a, b, c, d, e, f⟩
      exact ⟨k0, i0, a, b, c, l2.wr _ d, e, f⟩
    | none =>
      obtain ⟨h1, h2⟩ := k.new j i q hs
      refine ⟨Nat.le_trans l1.next h1, fun lv => ?_⟩
      rcases h2 lv with h2 | ⟨k0, i0, a, b, c, d, e, f⟩
      · exact .inl (Nat.le_trans h.size h2)
      · cases q0 : ν k0 with
        | some i1 =>
          have e' := h.ext k0 i1 q0
          rw [e] at e'
          cases e'
          have hlt := hf k0 i0 q0
          exact .inr ⟨k0, i0, hlt, b.resolve_right (Nat.not_le.2 hlt), l1.old k0 hlt c, d, q0, f⟩
        | none =>
          obtain ⟨g1, g2⟩ := h.new k0 i0 q0 e
          rcases g2 c with g2 | ⟨k1, i1, a1, b1, c1, d1, e1, f1⟩
          · exact .inl (f ▸ g2)
          · exact .inr ⟨k1, i1, a1, b1, c1, l2.wr _ d1, e1, f1.trans f⟩
  · refine k.frame b o (h.frame b o hb fun k0 i0 a c d e f => hy k0 i0 a c (l2.wr _ d) e f) fun k0 i0 a c d e f => ?_
    cases q0 : ν k0 with
    | some i1 =>
      have e' := h.ext k0 i1 q0
      rw [f] at e'
      cases e'
      have hlt := hf k0 i0 q0
      exact hy k0 i0 hlt (l1.old k0 hlt c) d (e.resolve_right (Nat.not_le.2 hlt)) q0
    | none =>
      obtain ⟨g1, g2⟩ := h.new k0 i0 q0 f
      rcases g2 c with g2 | ⟨k1, i1, a1, b1, c1, d1, e1, f1⟩
      · intro q
        have : b < W.heap.size := (Array.getElem?_eq_some_iff.1 hb).1
        omega
      · rw [← f1]
        exact hy k1 i1 a1 c1 (l2.wr _ d1) b1 e1
/-- A step that only notes what it read. -/
theorem Sat.same (h : Sat M B ν s W) (hh : s1.heap = s.heap) (hn : s1.next = s.next) : Sat M B ν s1 W := by
  have hl : ∀ k, live s1 k ↔ live s k := fun k => by unfold live; rw [hh]
  exact ⟨fun k b m e => h.blk k b m (by rw [← hh]; exact e), fun k k' i i' m m' l l' => h.inj k k' i i' m m' ((hl k).1 l) ((hl k').1 l'), fun k i e => by rw [hn]; exact h.fresh k i e, fun k l => by rw [hn]; exact h.dom k ((hl k).1 l), h.lt⟩
theorem Eff.same (h : Sat M B ν s W) (hh : s1.heap = s.heap) (hn : s1.next = s.next) : Eff M B ν ν s s1 W W :=
  ⟨(h.same hh hn).mono fun k l m => m.resolve_right (fun q => absurd (h.dom k (by unfold live at *; rw [← hh]; exact l)) (Nat.not_lt.2 q)), Nu.le_refl ν, fun k i a b => (by rw [a] at b; cases b), fun _ _ h _ => h, Nat.le_refl _, rfl, rfl, rfl⟩
/-- The world's counter of draws alone has turned. -/
theorem Sat.world (h : Sat M B ν s W) (hh : W1.heap = W.heap) : Sat M B ν s W1 :=
  ⟨fun k b m e => by obtain ⟨inf, a, c⟩ := h.blk k b m e; exact ⟨inf, a, c.keep (fun o q => by rw [hh]; exact q)⟩, h.inj, h.fresh, h.dom, fun k i e => by rw [hh]; exact h.lt k i e⟩
theorem Eff.world (h : Eff M B ν ν1 s s1 W W1) (hh : W2.heap = W1.heap) (ho : W2.os = W1.os) (ht : W2.tape = W1.tape) (hp : W2.output = W1.output) : Eff M B ν ν1 s s1 W W2 :=
  ⟨h.sat.world hh, h.ext, h.new, fun b o q r => by rw [hh]; exact h.frame b o q r, by rw [hh]; exact h.size, ho.trans h.os, ht.trans h.tape, hp.trans h.output⟩
/-- One block is written. -/
theorem Eff.write (h : Sat M B ν s W) {k : Nat} {b b' : ABlk} {inf : Inf} (hM : M k) (hb : s.heap.get k = some b) (hk : ν k = some inf) (hlt : k < 1000000)
    (hs : s1.heap = Tr.put 20 s.heap k (some b')) (hn : s1.next = s.next) (hw : ∀ j, s1.wr.testBit j = (s.wr.testBit j || decide (j = k)))
    (h1 : W1.heap.size = W.heap.size) (h2 : ∀ j, j ≠ inf.blk → W1.heap[j]? = W.heap[j]?) (h3 : BOk ν inf W1 b') (ho : W1.os = W.os) (ht : W1.tape = W.tape) (hp : W1.output = W.output) : Eff M B ν ν s s1 W W1 := by
  have hg : ∀ j, s1.heap.get j = if j = k then some b' else s.heap.get j := fun j => by rw [hs]; exact Tr.get_put 20 _ _ _ _ (by omega)
  have hl : ∀ j, live s1 j → live s j := fun j ⟨c, e⟩ => by
    rw [hg] at e
    by_cases q : j = k
    · subst q; exact ⟨b, hb⟩
    · rw [if_neg q] at e; exact ⟨c, e⟩
  refine ⟨⟨fun j c m e => ?_, fun j j' i i' m m' l l' => h.inj j j' i i' (m.resolve_right (fun q => absurd (h.dom j (hl j l)) (Nat.not_lt.2 q))) (m'.resolve_right (fun q => absurd (h.dom j' (hl j' l')) (Nat.not_lt.2 q))) (hl j l) (hl j' l'), fun j i e => by rw [hn]; exact h.fresh j i e, fun j l => by rw [hn]; exact h.dom j (hl j l), fun j i e => by rw [h1]; exact h.lt j i e⟩, Nu.le_refl ν, fun j i a c => (by rw [a] at c; cases c), fun c o q r => ?_, by rw [h1]; exact Nat.le_refl _, ho, ht, hp⟩
  · have hj : live s j := hl j ⟨c, e⟩
    have hm : M j := m.resolve_right (fun q => absurd (h.dom j hj) (Nat.not_lt.2 q))
    rw [hg] at e
    by_cases q : j = k
    · subst q; rw [if_pos rfl] at e; cases e; exact ⟨inf, hk, h3⟩
    · rw [if_neg q] at e
      obtain ⟨inf', a, d⟩ := h.blk j c hm e
      refine ⟨inf', a, d.keep fun o q' => ?_⟩
      rw [h2 _ (fun q2 => q (h.inj j k inf' inf hm hM hj ⟨b, hb⟩ a hk q2))]
      exact q'
  · rw [h2 c (fun q2 => r k inf (h.fresh k inf hk) ⟨b, hb⟩ (by rw [hw]; simp) hM hk q2.symm)]
    exact q
def Nu.add (ν : Nu) (k : Nat) (inf : Inf) : Nu := fun j => if j = k then some inf else ν j
theorem Nu.add_eq (ν : Nu) (k : Nat) (inf : Inf) : ν.add k inf k = some inf := if_pos rfl
theorem Nu.le_add {ν : Nu} {k : Nat} (h : ∀ i, ν k ≠ some i) (inf : Inf) : ν.le (ν.add k inf) := fun j i e => by
  unfold Nu.add
  rw [if_neg (fun q => by subst q; exact h i e)]
  exact e
theorem Sat.noNext (h : Sat M B ν s W) : ∀ i, ν s.next ≠ some i := fun i e => Nat.lt_irrefl _ (h.fresh _ i e)
/-- A new block of its own. -/
theorem Eff.alloc (h : Sat M B ν s W) {b' : ABlk} {o : Obj} {cap : Nat} (hlt : s.next < 1000000) (hB : B ≤ W.heap.size)
    (hs : s1.heap = Tr.put 20 s.heap s.next (some b')) (hn : s1.next = s.next + 1)
    (hW : W1.heap = W.heap.push o) (h3 : BOk (ν.add s.next ⟨W.heap.size, 0, cap⟩) ⟨W.heap.size, 0, cap⟩ W1 b') (ho : W1.os = W.os) (ht : W1.tape = W.tape) (hp : W1.output = W.output) :
    Eff M B ν (ν.add s.next ⟨W.heap.size, 0, cap⟩) s s1 W W1 := by
  have hg : ∀ j, s1.heap.get j = if j = s.next then some b' else s.heap.get j := fun j => by rw [hs]; exact Tr.get_put 20 _ _ _ _ (by omega)
  have hl : ∀ j, live s1 j → j ≠ s.next → live s j := fun j ⟨c, e⟩ q => by rw [hg, if_neg q] at e; exact ⟨c, e⟩
  have hle := Nu.le_add h.noNext (⟨W.heap.size, 0, cap⟩ : Inf)
  have hkeep : ∀ j, j < W.heap.size → W1.heap[j]? = W.heap[j]? := fun j q => by rw [hW, Array.getElem?_push_lt q, Array.getElem?_eq_getElem q]
  have hsz : W1.heap.size = W.heap.size + 1 := by rw [hW, Array.size_push]
  have hn' : ∀ j i, ν.add s.next ⟨W.heap.size, 0, cap⟩ j = some i → (j = s.next ∧ i = ⟨W.heap.size, 0, cap⟩) ∨ (j ≠ s.next ∧ ν j = some i) := fun j i e => by
    unfold Nu.add at e
    by_cases q : j = s.next
    · rw [if_pos q] at e; cases e; exact .inl ⟨q, rfl⟩
    · rw [if_neg q] at e; exact .inr ⟨q, e⟩
  refine ⟨⟨fun j c m e => ?_, fun j j' i i' m m' l l' e e' q => ?_, fun j i e => ?_, fun j l => ?_, fun j i e => ?_⟩, hle, fun j i a c => ?_, fun c o' q r => ?_, by rw [hsz]; omega, ho, ht, hp⟩
  · have e0 := e
    rw [hg] at e
    by_cases q : j = s.next
    · subst q; rw [if_pos rfl] at e; cases e; exact ⟨_, Nu.add_eq _ _ _, h3⟩
    · rw [if_neg q] at e
      have hm : M j := m.resolve_right (fun q2 => by have := h.dom j ⟨c, e⟩; omega)
      obtain ⟨inf', a, d⟩ := h.blk j c hm e
      refine ⟨inf', hle _ _ a, (d.keep fun o q' => ?_).mono hle⟩
      rw [hkeep _ (h.lt j inf' a).2]
      exact q'
  · rcases hn' j i e with ⟨a, b⟩ | ⟨a, b⟩ <;> rcases hn' j' i' e' with ⟨a', b'⟩ | ⟨a', b'⟩
    · rw [a, a']
    · subst b; have := (h.lt j' i' b').2; simp only at q; omega
    · subst b'; have := (h.lt j i b).2; simp only at q; omega
    · have l1 := hl j l a
      have l2 := hl j' l' a'
      exact h.inj j j' i i' (m.resolve_right (fun q2 => by have := h.dom j l1; omega)) (m'.resolve_right (fun q2 => by have := h.dom j' l2; omega)) l1 l2 b b' q
  · rw [hn]
    rcases hn' j i e with ⟨a, b⟩ | ⟨a, b⟩
    · omega
    · have := h.fresh j i b; omega
  · rw [hn]
    by_cases q : j = s.next
    · omega
    · have := h.dom j (hl j l q); omega
  · rw [hsz]
    rcases hn' j i e with ⟨a, b⟩ | ⟨a, b⟩
    · subst b; exact ⟨hB, Nat.lt_succ_self _⟩
    · have := h.lt j i b; omega
  · rcases hn' j i c with ⟨a', b⟩ | ⟨a', b⟩
    · subst b; exact ⟨by omega, fun _ => .inl (Nat.le_refl _)⟩
    · rw [a] at b; cases b
  · rw [hkeep _ (Array.getElem?_eq_some_iff.1 q).1]
    exact q
/-- A name without content. -/
theorem Eff.name (h : Sat M B ν s W) {inf : Inf} (h1 : B ≤ inf.blk ∧ inf.blk < W.heap.size) (hlv : ¬ live s s.next) (hs : s1.heap = s.heap) (hn : s1.next = s.next + 1) : Eff M B ν (ν.add s.next inf) s s1 W W := by
  have hle := Nu.le_add h.noNext inf
  have hl : ∀ k, live s1 k → live s k := fun k l => by unfold live at *; rw [← hs]; exact l
  have hn' : ∀ j i, ν.add s.next inf j = some i → (j = s.next ∧ i = inf) ∨ (j ≠ s.next ∧ ν j = some i) := fun j i e => by
    unfold Nu.add at e
    by_cases q : j = s.next
    · rw [if_pos q] at e; cases e; exact .inl ⟨q, rfl⟩
    · rw [if_neg q] at e; exact .inr ⟨q, e⟩
  have hne : ∀ j, live s j → j ≠ s.next := fun j l q => hlv (q ▸ l)
  have hm : ∀ j, live s j → (M j ∨ s.next ≤ j) → M j := fun j l m => m.resolve_right (fun q2 => by have := h.dom j l; omega)
  refine ⟨⟨fun j c m e => ?_, fun j j' i i' m m' l l' e e' q => ?_, fun j i e => ?_, fun j l => ?_, fun j i e => ?_⟩, hle, fun j i a c => ?_, fun c o' q r => q, Nat.le_refl _, rfl, rfl, rfl⟩
  · rw [hs] at e
    obtain ⟨inf', a, d⟩ := h.blk j c (hm j ⟨c, e⟩ m) e
    exact ⟨inf', hle _ _ a, d.mono hle⟩
  · have l1 := hl j l
    have l2 := hl j' l'
    rcases hn' j i e with ⟨a, _⟩ | ⟨a, b⟩
    · exact absurd a (hne j l1)
    · rcases hn' j' i' e' with ⟨a', _⟩ | ⟨a', b'⟩
      · exact absurd a' (hne j' l2)
      · exact h.inj j j' i i' (hm j l1 m) (hm j' l2 m') l1 l2 b b' q
  · rw [hn]
    rcases hn' j i e with ⟨a, b⟩ | ⟨a, b⟩
    · omega
    · have := h.fresh j i b; omega
  · rw [hn]; have := h.dom j (hl j l); omega
  · rcases hn' j i e with ⟨a, b⟩ | ⟨a, b⟩
    · subst b; exact h1
    · exact h.lt j i b
  · rcases hn' j i c with ⟨a', b⟩ | ⟨a', b⟩
    · subst b; exact ⟨by omega, fun l => absurd a' (hne j (hl j l))⟩
    · rw [a] at b; cases b
end
end Go.Proofs.YtnnalcfdeldocaaGreatDoor.X
namespace Go.Proofs.YtnnalcfdeldocaaGreatDoor.X
open Go
set_option linter.unusedVariables false
set_option linter.unusedSimpArgs false
section
variable {M : Nat → Prop} {B : Nat} {ν ν1 ν2 : Nu} {s s1 s2 : St} {W W1 W2 : World}
/-- A name ends; what it stood for lies as it lay, or nobody knows. -/
theorem Eff.kill (h : Sat M B ν s W) {k : Nat} {b : ABlk} {inf : Inf} (hM : M k) (hb : s.heap.get k = some b) (hk : ν k = some inf) (hlt : k < 1000000)
    (hs : s1.heap = Tr.put 20 s.heap k none) (hn : s1.next = s.next) (hw : ∀ j, s1.wr.testBit j = (s.wr.testBit j || decide (j = k)))
    (h1 : W1.heap.size = W.heap.size) (h2 : ∀ j, j ≠ inf.blk → W1.heap[j]? = W.heap[j]?) (ho : W1.os = W.os) (ht : W1.tape = W.tape) (hp : W1.output = W.output) : Eff M B ν ν s s1 W W1 := by
  have hg : ∀ j, s1.heap.get j = if j = k then none else s.heap.get j := fun j => by rw [hs]; exact Tr.get_put 20 _ _ _ _ (by omega)
  have hl : ∀ j, live s1 j → live s j ∧ j ≠ k := fun j ⟨c, e⟩ => by
    rw [hg] at e
    by_cases q : j = k
    · rw [if_pos q] at e; cases e
    · rw [if_neg q] at e; exact ⟨⟨c, e⟩, q⟩
  have hm : ∀ j, live s1 j → (M j ∨ s.next ≤ j) → M j := fun j l m => m.resolve_right (fun q => absurd (h.dom j (hl j l).1) (Nat.not_lt.2 q))
  refine ⟨⟨fun j c m e => ?_, fun j j' i i' m m' l l' => h.inj j j' i i' (hm j l m) (hm j' l' m') (hl j l).1 (hl j' l').1, fun j i e => by rw [hn]; exact h.fresh j i e, fun j l => by rw [hn]; exact h.dom j (hl j l).1, fun j i e => by rw [h1]; exact h.lt j i e⟩, Nu.le_refl ν, fun j i a c => (by rw [a] at c; cases c), fun c o q r => ?_, by rw [h1]; exact Nat.le_refl _, ho, ht, hp⟩
  · have lj := hl j ⟨c, e⟩
    have mj := hm j ⟨c, e⟩ m
    rw [hg, if_neg lj.2] at e
    obtain ⟨inf', a, d⟩ := h.blk j c mj e
    refine ⟨inf', a, d.keep fun o q' => ?_⟩
    rw [h2 _ (fun q2 => lj.2 (h.inj j k inf' inf mj hM lj.1 ⟨b, hb⟩ a hk q2))]
    exact q'
  · rw [h2 c (fun q2 => r k inf (h.fresh k inf hk) ⟨b, hb⟩ (by rw [hw]; simp) hM hk q2.symm)]
    exact q
/-- A name ends; a new one takes its block over. -/
theorem Eff.take (h : Sat M B ν s W) {k : Nat} {b b' : ABlk} {inf inf' : Inf} (hM : M k) (hb : s.heap.get k = some b) (hk : ν k = some inf) (hlt : s.next < 1000000)
    (hs : s1.heap = Tr.put 20 (Tr.put 20 s.heap k none) s.next (some b')) (hn : s1.next = s.next + 1) (hw : ∀ j, j ≠ s.next → s1.wr.testBit j = (s.wr.testBit j || decide (j = k))) (hi : inf'.blk = inf.blk)
    (h1 : W1.heap.size = W.heap.size) (h2 : ∀ j, j ≠ inf.blk → W1.heap[j]? = W.heap[j]?) (h3 : BOk (ν.add s.next inf') inf' W1 b') (ho : W1.os = W.os) (ht : W1.tape = W.tape) (hp : W1.output = W.output) :
    Eff M B ν (ν.add s.next inf') s s1 W W1 := by
  have hkn : k < s.next := h.fresh k inf hk
  have hg : ∀ j, s1.heap.get j = if j = s.next then some b' else if j = k then none else s.heap.get j := fun j => by rw [hs, Tr.get_put 20 _ _ _ _ (by omega), Tr.get_put 20 _ _ _ _ (by omega)]
  have hl : ∀ j, live s1 j → j ≠ s.next → live s j ∧ j ≠ k := fun j ⟨c, e⟩ q0 => by
    rw [hg, if_neg q0] at e
    by_cases q : j = k
    · rw [if_pos q] at e; cases e
    · rw [if_neg q] at e; exact ⟨⟨c, e⟩, q⟩
  have hle := Nu.le_add h.noNext inf'
  have hn' : ∀ j i, ν.add s.next inf' j = some i → (j = s.next ∧ i = inf') ∨ (j ≠ s.next ∧ ν j = some i) := fun j i e => by
    unfold Nu.add at e
    by_cases q : j = s.next
    · rw [if_pos q] at e; cases e; exact .inl ⟨q, rfl⟩
    · rw [if_neg q] at e; exact .inr ⟨q, e⟩
  have hm : ∀ j, live s j → (M j ∨ s.next ≤ j) → M j := fun j l m => m.resolve_right (fun q => absurd (h.dom j l) (Nat.not_lt.2 q))
  refine ⟨⟨fun j c m e => ?_, fun j j' i i' m m' l l' e e' q => ?_, fun j i e => ?_, fun j l => ?_, fun j i e => ?_⟩, hle, fun j i a c => ?_, fun c o q r => ?_, by rw [h1]; exact Nat.le_refl _, ho, ht, hp⟩
  · have lv : live s1 j := ⟨c, e⟩
    rw [hg] at e
    by_cases q : j = s.next
    · subst q; rw [if_pos rfl] at e; cases e; exact ⟨inf', Nu.add_eq _ _ _, h3⟩
    · rw [if_neg q] at e
      have lj := hl j lv q
      have mj := hm j lj.1 m
      rw [if_neg lj.2] at e
      obtain ⟨inf2, a, d⟩ := h.blk j c mj e
      refine ⟨inf2, hle _ _ a, (d.keep fun o q' => ?_).mono hle⟩
      rw [h2 _ (fun q2 => lj.2 (h.inj j k inf2 inf mj hM lj.1 ⟨b, hb⟩ a hk q2))]
      exact q'
  · rcases hn' j i e with ⟨a, b1⟩ | ⟨a, b1⟩ <;> rcases hn' j' i' e' with ⟨a', b1'⟩ | ⟨a', b1'⟩
    · rw [a, a']
    · subst b1
      have lj := hl j' l' a'
      exact absurd (h.inj j' k i' inf (hm j' lj.1 m') hM lj.1 ⟨b, hb⟩ b1' hk (q.symm.trans hi)) lj.2
    · subst b1'
      have lj := hl j l a
      exact absurd (h.inj j k i inf (hm j lj.1 m) hM lj.1 ⟨b, hb⟩ b1 hk (q.trans hi)) lj.2
    · have l1 := (hl j l a).1
      have l2 := (hl j' l' a').1
      exact h.inj j j' i i' (hm j l1 m) (hm j' l2 m') l1 l2 b1 b1' q
  · rw [hn]
    rcases hn' j i e with ⟨a, b⟩ | ⟨a, b⟩
    · omega
    · have := h.fresh j i b; omega
  · rw [hn]
    by_cases q : j = s.next
    · omega
    · have := h.dom j (hl j l q).1; omega
  · rw [h1]
    rcases hn' j i e with ⟨a, b⟩ | ⟨a, b⟩
    · subst b; rw [hi]; exact h.lt k inf hk
    · exact h.lt j i b
  · rcases hn' j i c with ⟨a', b1⟩ | ⟨a', b1⟩
    · subst b1
      exact ⟨by omega, fun _ => .inr ⟨k, inf, hkn, hM, ⟨b, hb⟩, by rw [hw k (by omega)]; simp, hk, hi.symm⟩⟩
    · rw [a] at b1; cases b1
  · rw [h2 c (fun q2 => r k inf hkn ⟨b, hb⟩ (by rw [hw k (by omega)]; simp) hM hk q2.symm)]
    exact q
end
/-! Steps: what they note. -/
theorem blt_iff {a b : Nat} : Nat.blt a b = true ↔ a < b := by rw [Nat.blt_eq]
abbrev E (α : Type) := St → Option (α × St)
def E.pure {α : Type} (a : α) : E α := fun s => some (a, s)
def E.fail {α : Type} : E α := fun _ => none
def E.bind {α β : Type} (m : E α) (f : α → E β) : E β := fun s => match m s with
  | none => none
  | some (a, s') => f a s'
def E.of {α : Type} : Option α → E α
  | none => E.fail
  | some a => E.pure a
/-- What lies under a name is read. -/
def rdB (k : Nat) : E ABlk := fun s => match s.heap.get k with
  | none => none
  | some b => some (b, { s with rd := Nat.lor s.rd (bit k) })
/-- .. is written. -/
def wrB (k : Nat) (b : ABlk) : E Unit := fun s => match s.heap.get k with
  | none => none
  | some _ => match Nat.blt k 1000000 with
    | false => none
    | true => some ((), { s with heap := Tr.put 20 s.heap k (some b), wr := Nat.lor s.wr (bit k) })
def newB (b : ABlk) : E Nat := fun s => match Nat.blt s.next 1000000 with
  | false => none
  | true => match s.heap.get s.next with
    | some _ => none
    | none => some (s.next, { heap := Tr.put 20 s.heap s.next (some b), next := s.next + 1, rd := s.rd, wr := Nat.lor s.wr (bit s.next) })
def killB (k : Nat) : E Unit := fun s => match s.heap.get k with
  | none => none
  | some _ => match Nat.blt k 1000000 with
    | false => none
    | true => some ((), { s with heap := Tr.put 20 s.heap k none, wr := Nat.lor s.wr (bit k) })
def nameB : E Nat := fun s => match s.heap.get s.next with
  | some _ => none
  | none => some (s.next, { s with next := s.next + 1 })
def LeM {α : Type} (m : E α) : Prop := ∀ s a s', m s = some (a, s') → Le s s'
theorem LeM.pure {α : Type} (a : α) : LeM (E.pure a) := fun s b s' e => by cases e; exact Le.refl _
theorem LeM.fail {α : Type} : LeM (E.fail : E α) := fun s b s' e => by cases e
theorem LeM.of {α : Type} (o : Option α) : LeM (E.of o) := by cases o; exact LeM.fail; exact LeM.pure _
theorem LeM.bind {α β : Type} {m : E α} {f : α → E β} (h : LeM m) (k : ∀ a, LeM (f a)) : LeM (E.bind m f) := fun s b s' e => by
  unfold E.bind at e
  cases q : m s with
  | none => rw [q] at e; cases e
  | some p => rw [q] at e; exact (h s p.1 p.2 q).trans (k p.1 p.2 b s' e)
theorem E.bind_some {α β : Type} {m : E α} {f : α → E β} {s : St} {r : β × St} : E.bind m f s = some r ↔ ∃ a s1, m s = some (a, s1) ∧ f a s1 = some r := by
  unfold E.bind
  cases q : m s with
  | none => simp
  | some p =>
    obtain ⟨a, s1⟩ := p
    constructor
    · intro h; exact ⟨a, s1, rfl, h⟩
    · rintro ⟨b, s2, e, h⟩; cases e; exact h
theorem rdB_some {k : Nat} {s : St} {b : ABlk} {s1 : St} : rdB k s = some (b, s1) ↔ s.heap.get k = some b ∧ s1 = { s with rd := Nat.lor s.rd (bit k) } := by
  unfold rdB
  cases q : s.heap.get k with
  | none => simp
  | some c => simp only [Option.some.injEq, Prod.mk.injEq]; constructor <;> (rintro ⟨a, b⟩; exact ⟨a, b.symm⟩)
theorem wrB_some {k : Nat} {s : St} {b : ABlk} {u : Unit} {s1 : St} : wrB k b s = some (u, s1) ↔ (∃ c, s.heap.get k = some c) ∧ k < 1000000 ∧ s1 = { s with heap := Tr.put 20 s.heap k (some b), wr := Nat.lor s.wr (bit k) } := by
  unfold wrB
  cases q : s.heap.get k with
  | none => simp
  | some c =>
    cases q2 : Nat.blt k 1000000 with
    | false =>
      have h : ¬ (k < 1000000) := fun h => by rw [blt_iff.2 h] at q2; cases q2
      simp [h]
    | true =>
      have h : k < 1000000 := blt_iff.1 q2
      simp [h, eq_comm]
theorem killB_some {k : Nat} {s : St} {u : Unit} {s1 : St} : killB k s = some (u, s1) ↔ (∃ c, s.heap.get k = some c) ∧ k < 1000000 ∧ s1 = { s with heap := Tr.put 20 s.heap k none, wr := Nat.lor s.wr (bit k) } := by
  unfold killB
  cases q : s.heap.get k with
  | none => simp
  | some c =>
    cases q2 : Nat.blt k 1000000 with
    | false =>
      have h : ¬ (k < 1000000) := fun h => by rw [blt_iff.2 h] at q2; cases q2
      simp [h]
    | true =>
      have h : k < 1000000 := blt_iff.1 q2
      simp [h, eq_comm]
theorem newB_some {n : Nat} {s : St} {b : ABlk} {s1 : St} : newB b s = some (n, s1) ↔ n = s.next ∧ s.heap.get s.next = none ∧ s.next < 1000000 ∧ s1 = { heap := Tr.put 20 s.heap s.next (some b), next := s.next + 1, rd := s.rd, wr := Nat.lor s.wr (bit s.next) } := by
  unfold newB
  cases q2 : Nat.blt s.next 1000000 with
  | false =>
    have h : ¬ (s.next < 1000000) := fun h => by rw [blt_iff.2 h] at q2; cases q2
    simp [h]
  | true =>
    have h : s.next < 1000000 := blt_iff.1 q2
    cases q : s.heap.get s.next with
    | some c => simp
    | none => simp [h, eq_comm]
theorem nameB_some {n : Nat} {s : St} {s1 : St} : nameB s = some (n, s1) ↔ n = s.next ∧ s.heap.get s.next = none ∧ s1 = { s with next := s.next + 1 } := by
  unfold nameB
  cases q : s.heap.get s.next with
  | some c => simp
  | none => simp [eq_comm]
theorem LeM.rdB (k : Nat) : LeM (rdB k) := fun s b s' e => by
  obtain ⟨h1, rfl⟩ := rdB_some.1 e
  exact ⟨Nat.le_refl _, fun j q => by simp only [testBit_lor, q, Bool.true_or], fun j q => q, fun _ j q => rfl, fun j _ q => q, fun d => d⟩
theorem LeM.wrB (k : Nat) (b : ABlk) : LeM (wrB k b) := fun s u s' e => by
  obtain ⟨⟨c, h1⟩, h2, rfl⟩ := wrB_some.1 e
  have hg : ∀ j, (Tr.put 20 s.heap k (some b)).get j = if j = k then some b else s.heap.get j := fun j => Tr.get_put 20 _ _ _ _ (by omega)
  refine ⟨Nat.le_refl _, fun j q => q, fun j q => by simp only [testBit_lor, q, Bool.true_or], fun _ j q => ?_, fun j _ ⟨d, q⟩ => ?_, fun dm j ⟨d, q⟩ => ?_⟩
  · simp only [testBit_lor, Bool.or_eq_false_iff, decide_eq_false_iff_not] at q
    show (Tr.put 20 s.heap k (some b)).get j = _
    rw [hg, if_neg q.2]
  · have q : (Tr.put 20 s.heap k (some b)).get j = some d := q
    rw [hg] at q
    by_cases e : j = k
    · subst e; exact ⟨c, h1⟩
    · rw [if_neg e] at q; exact ⟨d, q⟩
  · have q : (Tr.put 20 s.heap k (some b)).get j = some d := q
    rw [hg] at q
    by_cases e : j = k
    · subst e; exact dm j ⟨c, h1⟩
    · rw [if_neg e] at q; exact dm j ⟨d, q⟩
theorem LeM.killB (k : Nat) : LeM (killB k) := fun s u s' e => by
  obtain ⟨⟨c, h1⟩, h2, rfl⟩ := killB_some.1 e
  have hg : ∀ j, (Tr.put 20 s.heap k none).get j = if j = k then none else s.heap.get j := fun j => Tr.get_put 20 _ _ _ _ (by omega)
  refine ⟨Nat.le_refl _, fun j q => q, fun j q => by simp only [testBit_lor, q, Bool.true_or], fun _ j q => ?_, fun j _ ⟨d, q⟩ => ?_, fun dm j ⟨d, q⟩ => ?_⟩
  · simp only [testBit_lor, Bool.or_eq_false_iff, decide_eq_false_iff_not] at q
    show (Tr.put 20 s.heap k none).get j = _
    rw [hg, if_neg q.2]
  · have q : (Tr.put 20 s.heap k none).get j = some d := q
    rw [hg] at q
    by_cases e : j = k
    · subst e; exact ⟨c, h1⟩
    · rw [if_neg e] at q; exact ⟨d, q⟩
  · have q : (Tr.put 20 s.heap k none).get j = some d := q
    rw [hg] at q
    by_cases e : j = k
    · subst e; exact dm j ⟨c, h1⟩
    · rw [if_neg e] at q; exact dm j ⟨d, q⟩
theorem LeM.newB (b : ABlk) : LeM (newB b) := fun s n s' e => by
  obtain ⟨rfl, h1, h2, rfl⟩ := newB_some.1 e
  have hg : ∀ j, (Tr.put 20 s.heap s.next (some b)).get j = if j = s.next then some b else s.heap.get j := fun j => Tr.get_put 20 _ _ _ _ (by omega)
  refine ⟨Nat.le_succ _, fun j q => q, fun j q => by simp only [testBit_lor, q, Bool.true_or], fun _ j q => ?_, fun j hj ⟨d, q⟩ => ?_, fun dm j ⟨d, q⟩ => ?_⟩
  · simp only [testBit_lor, Bool.or_eq_false_iff, decide_eq_false_iff_not] at q
    show (Tr.put 20 s.heap s.next (some b)).get j = _
    rw [hg, if_neg q.2]
  · have q : (Tr.put 20 s.heap s.next (some b)).get j = some d := q
    rw [hg, if_neg (by omega)] at q
    exact ⟨d, q⟩
  · have q : (Tr.put 20 s.heap s.next (some b)).get j = some d := q
    show j < s.next + 1
    rw [hg] at q
    by_cases e : j = s.next
    · omega
    · rw [if_neg e] at q; have := dm j ⟨d, q⟩; omega
theorem LeM.nameB : LeM nameB := fun s n s' e => by
  obtain ⟨rfl, h1, rfl⟩ := nameB_some.1 e
  exact ⟨Nat.le_succ _, fun j q => q, fun j q => q, fun _ j q => rfl, fun j _ q => q, fun dm j q => Nat.lt_succ_of_lt (dm j q)⟩
end Go.Proofs.YtnnalcfdeldocaaGreatDoor.X
namespace Go.Proofs.YtnnalcfdeldocaaGreatDoor.X
open Go
set_option linter.unusedVariables false
set_option linter.unusedSimpArgs false
/-- What a computation that touches no memory gives. -/
def semPure {α : Type} (P : Program) : Sem α → Option α
  | .pure a => some a
  | .program k => semPure P (k P)
  | _ => none
mutual
/-- A value of the text as a value by name. -/
def absV : Value → Option AV
  | .bool b => some (.bool b)
  | .int k n => some (.int k n)
  | .string s => some (.str (s.data.toList.map UInt8.toNat))
  | .pointer none => some .ptr0
  | .slice none 0 0 => some .slice0
  | .map none => some .map0
  | .nilFunc => some .fn0
  | .nilIface => some .iface0
  | .agg cs => (absVs cs.toList).map AV.agg
  | .tuple vs => (absVs vs.toList).map AV.tup
  | _ => none
def absVs : List Value → Option (List AV)
  | [] => some []
  | v :: vs => match absV v with
    | none => none
    | some x => match absVs vs with
      | none => none
      | some y => some (x :: y)
end
def opv (T : Tr AV) : Operand → Option AV
  | .tmp t => T.get t
  | .const v => absV v
  | .func f => some (.fn f [] [])
  | .global _ => none
def opvs (T : Tr AV) : List Operand → Option (List AV)
  | [] => some []
  | o :: os => match opv T o with
    | none => none
    | some x => match opvs T os with
      | none => none
      | some y => some (x :: y)
/-- A value that names nothing. -/
def scal : AV → Option Value
  | .bool b => some (.bool b)
  | .int k n => some (.int k n)
  | _ => none
def info (P : Program) (t : TypeId) : Option TypeInfo := P.info? t
def sizeT (P : Program) (t : TypeId) : Option Nat := match P.info? t with
  | none => none
  | some i => some i.size
def isAggT (P : Program) (t : TypeId) : Option Bool := match P.underlying t with
  | none => none
  | some (.struct _) => some true
  | some (.array _ _) => some true
  | some _ => some false
def zeroT (P : Program) (t : TypeId) : Option AV := match P.info? t with
  | none => none
  | some i => match i.zero with
    | none => none
    | some v => absV v
def seg : List AV → Nat → Nat → Option (List AV)
  | _, _, 0 => some []
  | [], _, _ + 1 => none
  | v :: vs, 0, n + 1 => match seg vs 0 n with
    | none => none
    | some r => some (v :: r)
  | _ :: vs, i + 1, n + 1 => seg vs i (n + 1)
def setSeg : List AV → Nat → List AV → Option (List AV)
  | l, _, [] => some l
  | [], _, _ :: _ => none
  | _ :: vs, 0, x :: xs => match setSeg vs 0 xs with
    | none => none
    | some r => some (x :: r)
  | v :: vs, i + 1, xs => match setSeg vs i xs with
    | none => none
    | some r => some (v :: r)
def nth : List AV → Nat → Option AV
  | [], _ => none
  | v :: _, 0 => some v
  | _ :: vs, i + 1 => nth vs i
def lenL : List AV → Nat
  | [] => 0
  | _ :: vs => Nat.succ (lenL vs)
def rep : Nat → List AV → List AV → List AV
  | 0, _, acc => acc
  | n + 1, z, acc => z ++ rep n z acc
/-- The cells of a block. -/
def rdC (k : Nat) : E (List AV × Nat × Nat × Bool) := fun s => match s.heap.get k with
  | some (.cells c e z u) => some ((c, e, z, u), { s with rd := Nat.lor s.rd (bit k) })
  | _ => none
def loadE (P : Program) (t : TypeId) (k i : Nat) : E AV := fun s => match s.heap.get k with
  | some (.cells c e z u) => match isAggT P t with
    | some true => match sizeT P t with
      | none => none
      | some n => match seg c i n with
        | none => none
        | some r => some (.agg r, { s with rd := Nat.lor s.rd (bit k) })
    | some false => match nth c i with
      | none => none
      | some v => some (v, { s with rd := Nat.lor s.rd (bit k) })
    | none => none
  | _ => none
def oneC : AV → Bool
  | .agg _ => false
  | .tup _ => false
  | _ => true
def onesC : List AV → Bool
  | [] => true
  | v :: vs => match oneC v with
    | true => onesC vs
    | false => false
/-- Cells of a block are written. -/
def putE (k i : Nat) (xs : List AV) : E Unit := fun s => match s.heap.get k with
  | some (.cells c e z u) => match setSeg c i xs with
    | none => none
    | some c' => match Nat.blt k 1000000 && onesC xs with
      | false => none
      | true => some ((), { s with heap := Tr.put 20 s.heap k (some (.cells c' e z u)), wr := Nat.lor s.wr (bit k) })
  | _ => none
def storeE (P : Program) (t : TypeId) (k i : Nat) (v : AV) : E Unit := fun s => match sizeT P t with
  | none => none
  | some n => match Nat.beq n (lenL v.cells) with
    | false => none
    | true => putE k i v.cells s
def strEq : List Nat → List Nat → Bool
  | [], [] => true
  | a :: as_, b :: bs => match Nat.beq a b with
    | true => strEq as_ bs
    | false => false
  | _, _ => false
def strLt : List Nat → List Nat → Bool
  | _, [] => false
  | [], _ :: _ => true
  | a :: as_, b :: bs => match Nat.blt a b with
    | true => true
    | false => match Nat.beq a b with
      | true => strLt as_ bs
      | false => false
def strOp (op : BinOp) (a b : List Nat) : Option AV := match op with
  | .add => match Nat.blt (a.length + b.length) 1000000 with
    | true => some (.str (a ++ b))
    | false => none
  | .eql => some (.bool (strEq a b))
  | .neq => some (.bool (!strEq a b))
  | .lss => some (.bool (strLt a b))
  | .leq => some (.bool (strLt a b || strEq a b))
  | .gtr => some (.bool (!(strLt a b || strEq a b)))
  | .geq => some (.bool (!strLt a b))
  | _ => none
/-- Are two values of a plain type one? -/
def eqPlain : AV → AV → Option Bool
  | .int k a, .int k' b => match decide (k = k') with
    | true => some (a == b)
    | false => none
  | .bool a, .bool b => some (a == b)
  | .str a, .str b => some (strEq a b)
  | _, _ => none
/-- Is it a value of a plain type? -/
def fitB (P : Program) (t : TypeId) (x : AV) : Bool := match P.underlying t, x with
  | some (.int _), .int _ _ => true
  | some .bool, .bool _ => true
  | some .string, .str _ => true
  | _, _ => false
/-- .. parts of a struct, field by field. -/
def eqFields (P : Program) (xs ys : List AV) : List Field → Option Bool
  | [] => some true
  | f :: fs => match f.name == "_" with
    | true => none
    | false => match nth xs f.offset with
      | none => none
      | some x => match nth ys f.offset with
        | none => none
        | some y => match fitB P f.type x with
          | false => none
          | true => match eqPlain x y with
            | some true => eqFields P xs ys fs
            | r => r
/-- .. parts of an array. -/
def eqParts (P : Program) (e : TypeId) : List AV → List AV → Option Bool
  | [], [] => some true
  | x :: xs, y :: ys => match fitB P e x with
    | false => none
    | true => match eqPlain x y with
      | some true => eqParts P e xs ys
      | r => r
  | _, _ => none
def eqE (P : Program) (t : TypeId) : AV → AV → Option Bool
  | .bool a, .bool b => match P.underlying t with
    | some .bool => some (a == b)
    | _ => none
  | .ptr0, .ptr0 => match P.underlying t with
    | some (.pointer _) => some true
    | _ => none
  | .ptr0, .ptr _ _ => match P.underlying t with
    | some (.pointer _) => some false
    | _ => none
  | .ptr _ _, .ptr0 => match P.underlying t with
    | some (.pointer _) => some false
    | _ => none
  | .ptr k i, .ptr k' i' => match Nat.beq k k' with
    | true => match P.underlying t with
      | some (.pointer e) => match sizeT P e with
        | some (_ + 1) => some (Nat.beq i i')
        | _ => none
      | _ => none
    | false => none
  | .slice0, .slice0 => match P.underlying t with
    | some (.slice _) => some true
    | _ => none
  | .slice _ _ _ _, .slice0 => match P.underlying t with
    | some (.slice _) => some false
    | _ => none
  | .slice0, .slice _ _ _ _ => match P.underlying t with
    | some (.slice _) => some false
    | _ => none
  | .map0, .map0 => match P.underlying t with
    | some (.map _ _) => some true
    | _ => none
  | .map _, .map0 => match P.underlying t with
    | some (.map _ _) => some false
    | _ => none
  | .map0, .map _ => match P.underlying t with
    | some (.map _ _) => some false
    | _ => none
  | .fn0, .fn0 => match P.underlying t with
    | some (.func _ _ _) => some true
    | _ => none
  | .fn _ _ _, .fn0 => match P.underlying t with
    | some (.func _ _ _) => some false
    | _ => none
  | .agg xs, .agg ys => match P.underlying t with
    | some (.struct fs) => match P.stoodInHeld t with
      | true => none
      | false => match P.eqGuardType P.depth t with
        | true => none
        | false => eqFields P xs ys fs.toList
    | some (.array len e) => match sizeT P e with
      | some 1 => match Nat.beq (lenL xs) len && Nat.beq (lenL ys) len with
        | true => match P.eqGuardType P.depth t with
          | true => none
          | false => eqParts P e xs ys
        | false => none
      | _ => none
    | _ => none
  | _, _ => none
def eqB (P : Program) (op : BinOp) (t : TypeId) (x y : AV) : Option AV := match op with
  | .eql => match eqE P t x y with
    | some r => some (.bool r)
    | none => none
  | .neq => match eqE P t x y with
    | some r => some (.bool (!r))
    | none => none
  | _ => none
/-- The least and the greatest that a number that is not known can be. -/
def symLo (c : Nat) : Int := match c with
  | 1 => .ofNat 1
  | 2 => .ofNat 128
  | 4 => .ofNat 128
  | 5 => .ofNat 1
  | 7 => .ofNat 128
  | 14 => .negSucc 9223372036854775807
  | 15 => .ofNat 1001
  | 16 => .ofNat 1
  | 17 => .negSucc 9223372036854775807
  | _ => .ofNat 0
def symHi (c : Nat) : Int := match c with
  | 1 => .ofNat 127
  | 2 => .ofNat 1000
  | 5 => .ofNat 7
  | 6 => .ofNat 127
  | 7 => .ofNat 896
  | 3 | 4 | 8 | 11 | 12 | 13 => .ofNat 255
  | 9 => .ofNat 65535
  | 10 => .ofNat 16777215
  | 14 => .ofNat 0
  | 15 => .ofNat 9223372036854775807
  | 16 => .ofNat 1000
  | 17 => .ofNat 9223372036854775807
  | _ => .ofNat 4294967295
def iLt (a b : Int) : Bool := match a with
  | .ofNat m => match b with
    | .ofNat n => Nat.blt m n
    | .negSucc _ => false
  | .negSucc m => match b with
    | .ofNat _ => true
    | .negSucc n => Nat.blt n m
def symCmp (op : BinOp) (lo hi n : Int) : Option Bool := match op with
  | .eql => match iLt n lo || iLt hi n with
    | true => some false
    | false => none
  | .neq => match iLt n lo || iLt hi n with
    | true => some true
    | false => none
  | .lss => match iLt hi n with
    | true => some true
    | false => match iLt lo n with
      | false => some false
      | true => none
  | .leq => match iLt n hi with
    | false => some true
    | true => match iLt n lo with
      | true => some false
      | false => none
  | .gtr => match iLt n lo with
    | true => some true
    | false => match iLt n hi with
      | false => some false
      | true => none
  | .geq => match iLt lo n with
    | false => some true
    | true => match iLt hi n with
      | true => some false
      | false => none
  | _ => none
/-- A number that is not known and one that is. -/
def symArith (op : BinOp) (k : IntKind) (c n : Nat) : Option Nat := match op, k with
  | .and, .u8 => match Nat.beq n 127 with
    | true => match c with
      | 1 => some 1
      | 4 => some 6
      | 5 => some 5
      | _ => none
    | false => none
  | .or, .u8 => match Nat.beq n 128, c with
    | true, 3 => some 4
    | _, _ => none
  | .shl, .u64 => match n, c with
    | 0, 1 => some 1
    | 0, 6 => some 6
    | 7, 5 => some 7
    | _, _ => none
  | .shr, .u64 => match n, c with
    | 7, 2 => some 5
    | _, _ => none
  | .shr, .u32 => match c with
    | 0 => match Nat.beq n 24 with
      | true => some 8
      | false => match Nat.beq n 16 with
        | true => some 9
        | false => match Nat.beq n 8 with
          | true => some 10
          | false => none
    | _ => none
  | _, _ => none
def symL (op : BinOp) (k : IntKind) (c j : Nat) (y : AV) : Option AV := match y with
  | .int k' n => match decide (k = k') with
    | true => match symCmp op (symLo c) (symHi c) n with
      | some b => match Nat.blt c 18 with
        | true => some (.bool b)
        | false => none
      | none => match n with
        | .ofNat n => match symArith op k c n with
          | some c' => some (.sym k c' j)
          | none => none
        | .negSucc _ => none
    | false => match op with
      | .shl | .shr => match n with
        | .ofNat n => match symArith op k c n with
          | some c' => some (.sym k c' j)
          | none => none
        | .negSucc _ => none
      | _ => none
  | .sym k' c' j' => match op with
    | .eql => match decide (k = k') && (Nat.beq c c' && Nat.beq j j') with
      | true => some (.bool true)
      | false => none
    | .or => match k, k', Nat.beq j j', c, c' with
      | .u64, .u64, true, 6, 7 => some (.sym .u64 2 j)
      | _, _, _, _, _ => none
    | _ => none
  | _ => none
def symR (op : BinOp) (x : AV) (k : IntKind) (c j : Nat) : Option AV := match x with
  | .int k' (.ofNat 0) => match op, k, k', c with
    | .or, .u64, .u64, 1 => some (.sym k c j)
    | .or, .u64, .u64, 6 => some (.sym k c j)
    | .add, .i64, .i64, 1 => some (.sym k c j)
    | .add, .i64, .i64, 2 => some (.sym k c j)
    | _, _, _, _ => none
  | _ => none
def symConv (k k' : IntKind) (c : Nat) : Option Nat := match k', k, c with
  | .i64, .u64, 1 => some 1
  | .i64, .u64, 2 => some 2
  | .u64, .u8, 1 => some 1
  | .u64, .u8, 2 => some 3
  | .u64, .u8, 5 => some 5
  | .u8, .u64, 1 => some 1
  | .u8, .u64, 5 => some 5
  | .u8, .u64, 6 => some 6
  | .u64, .i64, 1 => some 1
  | .u64, .i64, 2 => some 2
  | .u32, .u8, 0 => some 13
  | .u32, .u8, 8 => some 8
  | .u32, .u8, 9 => some 11
  | .u32, .u8, 10 => some 12
  | _, _, _ => none
def sstrAdd (op : BinOp) (a b : List Nat) : Option AV := match op with
  | .add => match Nat.blt (a.length + b.length) 1000000 with
    | true => some (.sstr (a ++ b))
    | false => none
  | _ => none
def binE0 (P : Program) (op : BinOp) (t : TypeId) : AV → AV → Option AV
  | .int k a, .int k' b => match semPure P (Go.binOp op t (.int k a) (.int k' b)) with
    | some v => absV v
    | none => none
  | .str a, .str b => strOp op a b
  | x, y => eqB P op t x y
/-- What stands on the right is not known. -/
def binR (P : Program) (op : BinOp) (t : TypeId) (x y : AV) : Option AV := match y with
  | .sym k c j => symR op x k c j
  | .sstr b => match x with
    | .str a => sstrAdd op a b
    | _ => none
  | _ => binE0 P op t x y
def binE (P : Program) (op : BinOp) (t : TypeId) (x y : AV) : Option AV := match x with
  | .sym k c j => symL op k c j y
  | .sstr a => match y with
    | .str b => sstrAdd op a b
    | .sstr b => sstrAdd op a b
    | _ => none
  | _ => binR P op t x y
def unE (P : Program) (op : UnOp) (x : AV) : Option AV := match scal x with
  | none => none
  | some v => match semPure P (Op.unary op v) with
    | some r => absV r
    | none => none
def bytesAV : List Nat → List AV
  | [] => []
  | b :: bs => .int .u8 (Int.ofNat b) :: bytesAV bs
def unbytes : List AV → Option (List Nat)
  | [] => some []
  | .int .u8 (.ofNat n) :: vs => match Nat.blt n 256 with
    | false => none
    | true => match unbytes vs with
      | none => none
      | some r => some (n :: r)
  | _ => none
/-- A byte of a text, told or not known, as a cell. -/
def byteAV (n : Nat) : AV := match Nat.blt n 256 with
  | true => .int .u8 (Int.ofNat n)
  | false => .sym .u8 (Nat.mod (Nat.sub n 256) 32) (Nat.div (Nat.sub n 256) 32)
def bytesAVS : List Nat → List AV
  | [] => []
  | b :: bs => byteAV b :: bytesAVS bs
def unbyteS : AV → Option Nat
  | .int .u8 (.ofNat n) => match Nat.blt n 256 with
    | true => some n
    | false => none
  | .sym .u8 c j => match Nat.blt c 32 && (iLt (symHi c) (.ofNat 256) && iLt (.negSucc 0) (symLo c)) with
    | true => some (Nat.add 256 (Nat.add (Nat.mul 32 j) c))
    | false => none
  | _ => none
def unbytesS : List AV → Option (List Nat)
  | [] => some []
  | v :: vs => match unbyteS v with
    | none => none
    | some n => match unbytesS vs with
      | none => none
      | some r => some (n :: r)
def convE (P : Program) (src dst : TypeId) (x : AV) : E AV := fun s =>
  match P.underlying src with
  | none => none
  | some a => match P.underlying dst with
    | none => none
    | some d => match d, x with
      | .int k, .int _ n => some (.int k (k.wrap n), s)
      | .int k, .sym k' c j => match symConv k k' c with
        | some c' => some (.sym k c' j, s)
        | none => none
      | .slice e, .sstr b => match a, P.underlying e with
        | .string, some (.int .u8) => match newB (.cells (bytesAVS b) e 1 true) s with
          | some (k, s1) => some (.slice k 0 b.length (.unk 0), s1)
          | none => none
        | _, _ => none
      | .string, .int _ (.ofNat n) => match Nat.blt n 128 with
        | true => some (.str [n], s)
        | false => none
      | .string, .str b => some (.str b, s)
      | .slice e, .str b => match a, P.underlying e with
        | .string, some (.int .u8) => match newB (.cells (bytesAV b) e 1 true) s with
          | some (k, s1) => some (.slice k 0 b.length (.unk 0), s1)
          | none => none
        | _, _ => none
      | .string, .slice0 => match a with
        | .slice e => match P.underlying e with
          | some (.int .u8) => some (.str [], s)
          | _ => none
        | _ => none
      | .string, .slice k i len cap => match a with
        | .slice e => match P.underlying e with
          | some (.int .u8) => match len with
            | 0 => some (.str [], s)
            | _ + 1 => match s.heap.get k with
              | some (.cells c _ _ _) => match seg c i len with
                | none => none
                | some r => match unbytes r with
                  | none => match unbytesS r with
                    | none => none
                    | some b => some (.sstr b, { s with rd := Nat.lor s.rd (bit k) })
                  | some b => some (.str b, { s with rd := Nat.lor s.rd (bit k) })
              | _ => none
          | _ => none
        | _ => none
      | _, _ => none
/-- The places of a struct's fields. -/
def fieldOf (P : Program) (t : TypeId) (f : Nat) : Option Field := match P.underlying t with
  | some (.struct fs) => fs[f]?
  | _ => none
def fillE (place : Nat → Option (Nat × Nat)) (cells : List AV) : List (Nat × AV) → Option (List AV)
  | [] => some cells
  | (i, v) :: rest => match place i with
    | none => none
    | some (off, size) => match Nat.beq (lenL v.cells) size && Nat.blt 0 size with
      | false => none
      | true => match setSeg cells off v.cells with
        | none => none
        | some c => fillE place c rest
def partsE (T : Tr AV) : List (Nat × Operand) → Option (List (Nat × AV))
  | [] => some []
  | (i, o) :: ps => match opv T o with
    | none => none
    | some v => match partsE T ps with
      | none => none
      | some r => some ((i, v) :: r)
def placeS (P : Program) (fs : Array Field) (i : Nat) : Option (Nat × Nat) := match fs[i]? with
  | none => none
  | some f => match sizeT P f.type with
    | none => none
    | some n => some (f.offset, n)
def sizedF (P : Program) : List Field → Bool
  | [] => true
  | f :: fs => match sizeT P f.type with
    | some _ => sizedF P fs
    | none => false
def buildE (P : Program) (t : TypeId) (parts : List (Nat × AV)) : Option AV := match zeroT P t with
  | none => none
  | some z => match P.underlying t with
    | some (.struct fs) => match sizedF P fs.toList with
      | false => none
      | true => match fillE (placeS P fs) z.cells parts with
        | none => none
        | some c => some (.agg c)
    | some (.array _ e) => match sizeT P e with
      | none => none
      | some n => match fillE (fun i => some (i * n, n)) z.cells parts with
        | none => none
        | some c => some (.agg c)
    | _ => none
def elemS (P : Program) (t : TypeId) : Option TypeId := match P.underlying t with
  | some (.slice e) => some e
  | _ => none
def natOf : AV → Option Nat
  | .int _ (.ofNat n) => some n
  | _ => none
def natOpt (T : Tr AV) : Option Operand → Option (Option Nat)
  | none => some none
  | some o => match opv T o with
    | none => none
    | some v => match natOf v with
      | none => none
      | some n => some (some n)
def capAt : Cap → Nat → Cap
  | .known c, l => .known (c - l)
  | .unk j, l => .unk (j + l)
/-- x[lo:hi:max] of a slice. -/
def slice1 (P : Program) (t : TypeId) (x : AV) (lo hi mx : Option Nat) : E AV := fun s => match x with
  | .str b => match mx, P.underlying t with
    | none, some .string => match hi.getD b.length, lo.getD 0 with
      | h, l => match Nat.ble l h && Nat.ble h b.length with
        | true => some (.str ((b.take h).drop l), s)
        | false => none
    | _, _ => none
  | .slice0 => match hi.getD 0, lo.getD 0, mx.getD 0 with
    | 0, 0, 0 => match elemS P t with
      | none => none
      | some e => match sizeT P e with
        | none => none
        | some _ => some (.slice0, s)
    | _, _, _ => none
  | .slice k i len cap => match elemS P t with
    | none => none
    | some e => match sizeT P e with
      | none => none
      | some z => match lo.getD 0, hi.getD len with
        | l, h => match mx, cap with
          | some m, .known c => match Nat.ble l h && (Nat.ble h m && Nat.ble m c) with
            | true => match Nat.beq m l with
              | true => some (.slice k i (h - l) (.known (m - l)), s)
              | false => some (.slice k (i + l * z) (h - l) (.known (m - l)), s)
            | false => none
          | none, .known c => match Nat.ble l h && Nat.ble h c with
            | true => match Nat.beq c l with
              | true => some (.slice k i (h - l) (.known (c - l)), s)
              | false => some (.slice k (i + l * z) (h - l) (.known (c - l)), s)
            | false => none
          | some m, .unk j => match Nat.ble l h && (Nat.ble h m && Nat.ble m len) with
            | true => match Nat.beq m l with
              | true => some (.slice k i (h - l) (.known (m - l)), s)
              | false => some (.slice k (i + l * z) (h - l) (.known (m - l)), s)
            | false => none
          | none, .unk j => match Nat.ble l h && Nat.ble h len with
            | true => match Nat.beq l 0 with
              | true => some (.slice k i h (.unk j), s)
              | false => match Nat.blt l len with
                | true => some (.slice k (i + l * z) (h - l) (.unk (j + l)), s)
                | false => match nameB s with
                  | some (n, s1) => some (.slice n 0 0 (.unk 0), s1)
                  | none => none
            | false => none
  | _ => none
/-- .. max wants hi. -/
def sliceE (P : Program) (t : TypeId) (x : AV) (lo hi mx : Option Nat) : E AV := fun s => match mx, hi with
  | none, _ => slice1 P t x lo hi mx s
  | some _, some _ => slice1 P t x lo hi mx s
  | some _, none => none
def indexAddrE (P : Program) (t : TypeId) (x ix : AV) : Option AV := match natOf ix with
  | none => none
  | some n => match P.underlying t, x with
    | some (.array len e), .ptr k i => match Nat.blt n len with
      | false => none
      | true => match sizeT P e with
        | none => none
        | some z => some (.ptr k (i + n * z))
    | some (.slice e), .slice k i len _ => match Nat.blt n len with
      | false => none
      | true => match sizeT P e with
        | none => none
        | some z => some (.ptr k (i + n * z))
    | _, _ => none
def nthN : List Nat → Nat → Option Nat
  | [], _ => none
  | v :: _, 0 => some v
  | _ :: vs, i + 1 => nthN vs i
def indexE (P : Program) (t : TypeId) (x ix : AV) : Option AV := match natOf ix with
  | none => none
  | some n => match P.underlying t, x with
    | some (.array len e), .agg cs => match Nat.blt n len with
      | false => none
      | true => match sizeT P e with
        | none => none
        | some z => match isAggT P e with
          | some true => match seg cs (n * z) z with
            | none => none
            | some r => some (.agg r)
          | some false => nth cs (n * z)
          | none => none
    | some .string, .str b => match nthN b n with
      | none => none
      | some c => some (.int .u8 (Int.ofNat c))
    | _, _ => none
def fieldE (P : Program) (t : TypeId) (x : AV) (f : Nat) : Option AV := match fieldOf P t f, x with
  | some fl, .agg cs => match isAggT P fl.type with
    | some true => match sizeT P fl.type with
      | none => none
      | some z => match seg cs fl.offset z with
        | none => none
        | some r => some (.agg r)
    | some false => nth cs fl.offset
    | none => none
  | _, _ => none
def mapT (P : Program) (t : TypeId) : Option (TypeId × TypeId) := match P.underlying t with
  | some (.map k e) => some (k, e)
  | _ => none
def setVal : List (AV × AV × Nat) → Nat → AV → List (AV × AV × Nat)
  | [], _, _ => []
  | (k, _, b) :: es, 0, v => (k, v, b) :: es
  | e :: es, i + 1, v => e :: setVal es i v
def rdM (k : Nat) : E (List (AV × AV × Nat) × Nat) := fun s => match s.heap.get k with
  | some (.map es c) => some ((es, c), { s with rd := Nat.lor s.rd (bit k) })
  | _ => none
def wrM (k : Nat) (es : List (AV × AV × Nat)) (c : Nat) : E Unit := fun s => match s.heap.get k with
  | some (.map _ _) => match Nat.blt k 1000000 with
    | false => none
    | true => some ((), { s with heap := Tr.put 20 s.heap k (some (.map es c)), wr := Nat.lor s.wr (bit k) })
  | _ => none
end Go.Proofs.YtnnalcfdeldocaaGreatDoor.X
namespace Go.Proofs.YtnnalcfdeldocaaGreatDoor.X
open Go
set_option linter.unusedVariables false
set_option linter.unusedSimpArgs false
/-- Are two keys one? -/
def eqKey (P : Program) (kt : TypeId) (a b : AV) : Option Bool := match a, b with
  | .agg _, .agg _ => eqE P kt a b
  | _, _ => eqPlain a b
def findK (P : Program) (kt : TypeId) (k : AV) : List (AV × AV × Nat) → Nat → Option (Option (Nat × AV))
  | [], _ => some none
  | (k', v, _) :: es, i => match eqKey P kt k k' with
    | some true => some (some (i, v))
    | some false => findK P kt k es (i + 1)
    | none => none
/-- A struct's parts of plain types. -/
def fitFields (P : Program) (cs : List AV) : List Field → Bool
  | [] => true
  | f :: fs => match f.name == "_" with
    | true => false
    | false => match nth cs f.offset with
      | none => false
      | some x => match fitB P f.type x with
        | false => false
        | true => fitFields P cs fs
/-- A key that may be asked for. -/
def keyFit (P : Program) (kt : TypeId) (k : AV) : Bool := match P.underlying kt, k with
  | some (.int _), .int _ _ => true
  | some .string, .str _ => true
  | some (.struct fs), .agg cs => fitFields P cs fs.toList
  | _, _ => false
def lookupE (P : Program) (t : TypeId) (x k : AV) (ok : Bool) : E AV := fun s => match mapT P t with
  | none => none
  | some (kt, et) => match keyFit P kt k with
    | false => none
    | true => match zeroT P et with
      | none => none
      | some z => match x with
        | .map0 => some (if ok = true then .tup [z, .bool false] else z, s)
        | .map m => match rdM m s with
          | none => none
          | some ((es, _), s1) => match findK P kt k es 0 with
            | none => none
            | some none => some (if ok = true then .tup [z, .bool false] else z, s1)
            | some (some (_, v)) => some (if ok = true then .tup [v, .bool true] else v, s1)
        | _ => none
/-- Keys whose bits are their own. -/
def keyBits (P : Program) (kt : TypeId) (k : AV) : Bool := match P.underlying kt, k with
  | some (.int _), .int _ _ => true
  | some .string, .str _ => true
  | _, _ => false
def lenE : List (AV × AV × Nat) → Nat
  | [] => 0
  | _ :: es => Nat.succ (lenE es)
def updateE (P : Program) (t : TypeId) (m k v : AV) : E AV := fun s => match mapT P t with
  | none => none
  | some (kt, et) => match keyFit P kt k with
    | false => none
    | true => match m with
      | .map r => match rdM r s with
        | none => none
        | some ((es, c), s1) => match findK P kt k es 0 with
          | none => none
          | some none => match wrM r (es ++ [(k, v, c)]) (c + 1) s1 with
            | none => none
            | some (_, s2) => some (.tup [], s2)
          | some (some (i, _)) => match keyBits P kt k with
            | false => none
            | true => match wrM r (setVal es i v) c s1 with
              | none => none
              | some (_, s2) => some (.tup [], s2)
      | _ => none
def rangeE (P : Program) (t : TypeId) (x : AV) : E AV := fun s => match mapT P t with
  | none => none
  | some _ => match x with
    | .map0 => match newB (.iter none 0 [] 0) s with
      | none => none
      | some (k, s1) => some (.ptr k 0, s1)
    | .map m => match rdM m s with
      | none => none
      | some ((_, c), s1) => match newB (.iter (some m) c [] c) s1 with
        | none => none
        | some (k, s2) => some (.ptr k 0, s2)
    | _ => none
/-- The next of a map's entries, where there is no choice. -/
def nextE (x : AV) : E AV := fun s => match x with
  | .ptr k 0 => match s.heap.get k with
    | some (.iter none _ _ _) => some (.tup [.bool false], { s with rd := Nat.lor s.rd (bit k) })
    | some (.iter (some m) since seen last) => match rdM m { s with rd := Nat.lor s.rd (bit k) } with
      | none => none
      | some ((es, c), s1) => match es with
        | [] => some (.tup [.bool false], s1)
        | (a, b, n) :: rest => match seen.isEmpty || !((a, b, n) :: rest).all (fun e => Nat.ble last e.2.2) with
          | false => none
          | true => match ((a, b, n) :: rest).filter (fun e => !seen.contains e.2.2) with
            | [] => some (.tup [.bool false], s1)
            | [(a, b, n)] => match Nat.blt n since && Nat.blt k 1000000 with
              | false => none
              | true => some (.tup [.bool true, a, b], { s1 with heap := Tr.put 20 s1.heap k (some (.iter (some m) since (seen ++ [n]) c)), wr := Nat.lor s1.wr (bit k) })
            | _ => none
    | _ => none
  | _ => none
def entryE (x : AV) : E AV := fun s => match x with
  | .ptr k 0 => match s.heap.get k with
    | some (.iter (some m) since seen last) => match seen.getLast? with
      | none => none
      | some st => match rdM m { s with rd := Nat.lor s.rd (bit k) } with
        | none => none
        | some ((es, c), s1) => match Nat.beq c last with
          | false => none
          | true => match es.find? (fun e => Nat.beq e.2.2 st) with
            | some (a, b, _) => some (.tup [a, b], s1)
            | none => none
    | _ => none
  | _ => none
def makeSliceE (P : Program) (t : TypeId) (l c : AV) : E AV := fun s => match elemS P t with
  | none => none
  | some e => match natOf l, natOf c, zeroT P e, info P e with
    | some l, some c, some z, some i => match Nat.ble l c && Nat.blt (i.bytes * c) 1000000 && Nat.blt c 1000000 with
      | false => none
      | true => match Nat.beq (lenL z.cells) i.size with
        | false => none
        | true => match newB (.cells (rep c z.cells []) e i.size false) s with
          | none => none
          | some (k, s1) => some (.slice k 0 l (.known c), s1)
    | _, _, _, _ => none
def allocE (e : TypeId) (v : AV) : E AV := fun s => match newB (.cells v.cells e 1 false) s with
  | none => none
  | some (k, s1) => some (.ptr k 0, s1)
def buildSliceE (P : Program) (t : TypeId) (len : Nat) (parts : List (Nat × AV)) : E AV := fun s => match elemS P t with
  | none => none
  | some e => match sizeT P e, zeroT P e with
    | some z, some zv => match Nat.beq (lenL zv.cells) z && Nat.blt (len * z) 1000000 with
      | false => none
      | true => match fillE (fun i => some (i * z, z)) (rep len zv.cells []) parts with
        | none => none
        | some c => match newB (.cells c e z false) s with
          | none => none
          | some (k, s1) => some (.slice k 0 len (.known len), s1)
    | _, _ => none
/-- What is appended. -/
def newCells0 (P : Program) (e : TypeId) (z : Nat) (y : AV) (at1 : Option TypeId) : E (List AV × Nat) := fun s => match y with
  | .slice0 => some (([], 0), s)
  | .slice k i len _ => match len with
    | 0 => some (([], 0), s)
    | _ + 1 => match s.heap.get k with
      | some (.cells c _ _ _) => match seg c i (len * z) with
        | none => none
        | some r => some ((r, len), { s with rd := Nat.lor s.rd (bit k) })
      | _ => none
  | .str b => match Nat.beq z 1 with
    | true => some ((bytesAV b, b.length), s)
    | false => none
  | .int .i64 (.ofNat n) => match at1 with
    | none => none
    | some t1 => match P.underlying t1, zeroT P e with
      | some (.int _), some zv => match Nat.beq (lenL zv.cells) z && Nat.blt n 1000000 with
        | true => some ((rep n zv.cells [], n), s)
        | false => none
      | _, _ => none
  | _ => none
def newCells (P : Program) (e : TypeId) (z : Nat) (y : AV) (at1 : Option TypeId) : E (List AV × Nat) := fun s => match y with
  | .sstr b => match Nat.beq z 1 with
    | true => some ((bytesAVS b, b.length), s)
    | false => none
  | _ => newCells0 P e z y at1 s
def oldCells (z : Nat) (x : AV) : E (List AV) := fun s => match x with
  | .slice0 => some ([], s)
  | .slice k i len _ => match len with
    | 0 => some ([], s)
    | _ + 1 => match s.heap.get k with
      | some (.cells c _ _ _) => match seg c i (len * z) with
        | none => none
        | some r => some (r, { s with rd := Nat.lor s.rd (bit k) })
      | _ => none
  | _ => none
def isIntT (P : Program) (t : Option TypeId) : Bool := match t with
  | none => false
  | some t => match P.underlying t with
    | some (.int _) => true
    | _ => false
def undOk (P : Program) (t : Option TypeId) : Bool := match t with
  | none => true
  | some t => match P.underlying t with
    | none => false
    | some _ => true
def zerosFit (P : Program) (y : AV) (at1 : Option TypeId) : Bool := match y with
  | .int _ _ => isIntT P at1
  | _ => !isIntT P at1 && undOk P at1
def zeroFit (P : Program) (e : TypeId) (n : Nat) : Bool := match zeroT P e with
  | none => false
  | some z => Nat.beq (lenL z.cells) n
def appendE (P : Program) (at0 : Option TypeId) (at1 : Option TypeId) (x y : AV) : E AV := fun s => match at0 with
  | none => none
  | some t => match elemS P t with
    | none => none
    | some e => match info P e with
      | none => none
      | some inf => match zerosFit P y at1 && (zeroFit P e inf.size && (Nat.blt 0 inf.size && (Nat.blt 0 inf.bytes && Nat.blt inf.bytes 1000000))) with
        | false => none
        | true => match newCells P e inf.size y at1 s with
          | none => none
          | some ((new, n), s1) => match Nat.blt n 1000000 with
            | false => none
            | true => match x with
              | .slice0 => match n with
                | 0 => some (.slice0, s1)
                | _ + 1 => match newB (.cells new e inf.size true) s1 with
                  | none => none
                  | some (k, s2) => some (.slice k 0 n (.unk 0), s2)
              | .slice k i len cap => match Nat.blt len 1000000 with
                | false => none
                | true => match cap with
                  | .known c => match Nat.ble (len + n) c with
                    | true => match n with
                      | 0 => some (.slice k i len cap, s1)
                      | _ + 1 => match putE k (i + len * inf.size) new s1 with
                        | none => none
                        | some (_, s2) => some (.slice k i (len + n) cap, s2)
                    | false => match oldCells inf.size x s1 with
                      | none => none
                      | some (old, s2) => match newB (.cells (old ++ new) e inf.size true) s2 with
                        | none => none
                        | some (k, s3) => some (.slice k 0 (len + n) (.unk 0), s3)
                  | .unk j => match n with
                    | 0 => some (.slice k i len cap, s1)
                    | _ + 1 => match s1.heap.get k with
                      | some (.cells c e' z' u) => match u && (Nat.beq z' inf.size && (Nat.beq i (j * inf.size) && Nat.beq e' e)) with
                        | false => none
                        | true => match Nat.ble (i + (len + n) * inf.size) (lenL c) with
                          | true => match putE k (i + len * inf.size) new s1 with
                            | none => none
                            | some (_, s2) => some (.slice k i (len + n) cap, s2)
                          | false => match onesC new with
                            | false => none
                            | true => match oldCells inf.size x s1 with
                              | none => none
                              | some (old, s2) => match killB k s2 with
                                | none => none
                                | some (_, s3) => match newB (.cells (old ++ new) e inf.size true) s3 with
                                  | none => none
                                  | some (k, s4) => some (.slice k 0 (len + n) (.unk 0), s4)
                      | _ => none
              | _ => none
def zerosOf (P : Program) (e : TypeId) : Option (List AV) := match zeroT P e with
  | none => none
  | some z => some z.cells
def builtinE (P : Program) (b : Builtin) (ats : List TypeId) (args : List AV) : E AV := fun s => match b, args with
  | .append, [x, y] => appendE P (ats[0]?) (ats[1]?) x y s
  | .len, [x] => match ats[0]? with
    | none => none
    | some t => match P.underlying t, x with
      | some (.slice _), .slice0 => some (.int .i64 0, s)
      | some (.slice _), .slice _ _ n _ => some (.int .i64 (Int.ofNat n), s)
      | some .string, .str b => some (.int .i64 (Int.ofNat b.length), s)
      | some .string, .sstr b => some (.int .i64 (Int.ofNat b.length), s)
      | some (.map _ _), .map0 => some (.int .i64 0, s)
      | some (.map _ _), .map m => match rdM m s with
        | none => none
        | some ((es, _), s1) => some (.int .i64 (Int.ofNat (lenE es)), s1)
      | _, _ => none
  | .min, [.int k a, .int _ b] => some (.int k (if b < a then b else a), s)
  | .max, [.int k a, .int _ b] => some (.int k (if b > a then b else a), s)
  | .delete, [m, k] => match ats[0]? with
    | none => none
    | some t => match mapT P t with
      | none => none
      | some (kt, _) => match keyFit P kt k with
        | false => none
        | true => match m with
          | .map r => match rdM r s with
            | none => none
            | some ((es, c), s1) => match findK P kt k es 0 with
              | none => none
              | some none => match wrM r es c s1 with
                | none => none
                | some (_, s2) => some (.tup [], s2)
              | some (some (i, _)) => match wrM r (es.eraseIdx i) c s1 with
                | none => none
                | some (_, s2) => some (.tup [], s2)
          | _ => none
  | .clear, [x] => match ats[0]? with
    | none => none
    | some t => match P.underlying t, x with
      | some (.map _ _), .map0 => some (.tup [], s)
      | some (.map _ _), .map r => match rdM r s with
        | none => none
        | some ((_, c), s1) => match wrM r [] c s1 with
          | none => none
          | some (_, s2) => some (.tup [], s2)
      | some (.slice _), .slice0 => some (.tup [], s)
      | some (.slice e), .slice k i n _ => match n with
        | 0 => some (.tup [], s)
        | _ + 1 => match zerosOf P e, sizeT P e with
          | some z, some sz => match Nat.beq (lenL z) sz && Nat.blt 0 sz with
            | false => none
            | true => match putE k i (rep n z []) s with
              | none => none
              | some (_, s1) => some (.tup [], s1)
          | _, _ => none
      | _, _ => none
  | _, _ => none
/-- An operation that calls nothing. -/
def opE (P : Program) (T : Tr AV) (o : Op) : E AV := fun s => match o with
  | .move x | .assign x => match opv T x with
    | none => none
    | some v => some (v, s)
  | .pick c a b => match opv T c with
    | some (.bool true) => match opv T a with
      | none => none
      | some v => some (v, s)
    | some (.bool false) => match opv T b with
      | none => none
      | some v => some (v, s)
    | _ => none
  | .alloc e => match zeroT P e with
    | none => none
    | some z => allocE e z s
  | .box e x => match opv T x with
    | none => none
    | some v => allocE e v s
  | .build t ps => match partsE T ps.toList with
    | none => none
    | some ps => match buildE P t ps with
      | none => none
      | some v => some (v, s)
  | .buildSlice t n ps => match partsE T ps.toList with
    | none => none
    | some ps => buildSliceE P t n ps s
  | .load t a => match opv T a with
    | some (.ptr k i) => loadE P t k i s
    | _ => none
  | .store t a x => match opv T a, opv T x with
    | some (.ptr k i), some v => match storeE P t k i v s with
      | none => none
      | some (_, s1) => some (.tup [], s1)
    | _, _ => none
  | .nilCheck x => match opv T x with
    | some (.ptr k i) => some (.ptr k i, s)
    | some (.fn f a b) => some (.fn f a b, s)
    | some (.yld k) => some (.yld k, s)
    | _ => none
  | .binOp op t x y _ => match opv T x, opv T y with
    | some a, some b => match binE P op t a b with
      | none => none
      | some v => some (v, s)
    | _, _ => none
  | .unOp op _ x => match opv T x with
    | none => none
    | some v => match unE P op v with
      | none => none
      | some r => some (r, s)
  | .convert a d x => match opv T x with
    | none => none
    | some v => convE P a d v s
  | .makeFunc fn a b => match fn with
    | .func f => match opvs T a.toList, opvs T b.toList with
      | some x, some y => some (.fn f x y, s)
      | _, _ => none
    | _ => none
  | .makeMap t none => match newB (.map [] 0) s with
    | none => none
    | some (k, s1) => some (.map k, s1)
  | .makeSlice t l c => match opv T l, opv T c with
    | some l, some c => makeSliceE P t l c s
    | _, _ => none
  | .slice t x lo hi mx => match opv T x, natOpt T lo, natOpt T hi, natOpt T mx with
    | some x, some lo, some hi, some mx => sliceE P t x lo hi mx s
    | _, _, _, _ => none
  | .fieldAddr t x f => match opv T x, fieldOf P t f with
    | some (.ptr k i), some fl => match sizeT P fl.type with
      | some (_ + 1) => some (.ptr k (i + fl.offset), s)
      | _ => none
    | _, _ => none
  | .field t x f => match opv T x with
    | none => none
    | some v => match fieldE P t v f with
      | none => none
      | some r => some (r, s)
  | .indexAddr t x ix => match opv T x, opv T ix with
    | some x, some ix => match indexAddrE P t x ix with
      | none => none
      | some r => some (r, s)
    | _, _ => none
  | .index t x ix => match opv T x, opv T ix with
    | some x, some ix => match indexE P t x ix with
      | none => none
      | some r => some (r, s)
    | _, _ => none
  | .lookup t x k ok => match opv T x, opv T k with
    | some x, some k => lookupE P t x k ok s
    | _, _ => none
  | .mapUpdate t m k v | .insert t m k v => match opv T m, opv T k, opv T v with
    | some m, some k, some v => updateE P t m k v s
    | _, _, _ => none
  | .range t x => match opv T x with
    | none => none
    | some v => rangeE P t v s
  | .next it false => match opv T it with
    | none => none
    | some v => nextE v s
  | .entry it => match opv T it with
    | none => none
    | some v => entryE v s
  | .extract t i => match opv T t with
    | some (.tup vs) => match nth vs i with
      | none => none
      | some v => some (v, s)
    | _ => none
  | .call { callee := .builtin b, args, argTypes } => match opvs T args.toList with
    | none => none
    | some vs => builtinE P b argTypes.toList vs s
  | _ => none
inductive XR where
  | normal
  | exit (id : Nat)
  | ret
inductive Req where
  | code (rd : Option Nat) (c : Code) (T : Tr AV) (n : Nat) (mk : List Nat)
  | call (f : Nat) (args : List AV)
  | yield (k : Nat) (args : List AV)
inductive Res where
  | code (x : XR) (T : Tr AV) (mk : List Nat)
  | val (v : AV)
/-- A call by an operation. -/
def callE (ih : Req → E Res) (T : Tr AV) (c : Call) : E AV := fun s => match c.callee with
  | .value f => match opv T f, opvs T c.args.toList with
    | some (.fn g a b), some vs => match ih (.call g (a ++ vs ++ b)) s with
      | some (.val v, s1) => some (v, s1)
      | _ => none
    | some (.yld k), some vs => match ih (.yield k vs) s with
      | some (.val v, s1) => some (v, s1)
      | _ => none
    | _, _ => none
  | _ => none
def operE (ih : Req → E Res) (P : Program) (T : Tr AV) (o : Op) : E AV := match o with
  | .call c => match c.callee with
    | .value _ => callE ih T c
    | _ => opE P T o
  | _ => opE P T o
/-- Is an operation wanted? -/
def wantE (ops : Array Oper) (T : Tr AV) (o : Oper) : Option Bool := match o.guard with
  | none => some true
  | some (j, want) => match (ops[j]?).bind (·.dst) with
    | none => none
    | some d => match T.get d with
      | some (.bool b) => some (b == want)
      | some (.tup []) => some false
      | _ => none
def putT (n : Nat) (T : Tr AV) (d : Option Tmp) (v : AV) : Option (Tr AV) := match d with
  | none => some T
  | some d => match Nat.blt d n && Nat.blt d 1000 with
    | true => some (Tr.put 10 T d (some v))
    | false => none
def opsE (ih : Req → E Res) (P : Program) (ops : Array Oper) (n : Nat) : List Oper → Tr AV → E (Tr AV)
  | [], T => fun s => some (T, s)
  | o :: os, T => fun s => match wantE ops T o with
    | none => none
    | some false => match putT n T o.dst (.tup []) with
      | none => none
      | some T' => opsE ih P ops n os T' s
    | some true => match operE ih P T o.op s with
      | none => none
      | some (v, s1) => match putT n T o.dst v with
        | none => none
        | some T' => opsE ih P ops n os T' s1
/-- Which operations come before one, by their numbers. -/
def befE (acc : List Nat) : List Edge → Nat
  | [] => 0
  | e :: es => match Region.binds .any e with
    | true => Nat.lor (Nat.lor (bit e.on) (acc.getD e.on 0)) (befE acc es)
    | false => befE acc es
def tmpsOf : List Operand → Nat
  | [] => 0
  | .tmp t :: os => Nat.lor (bit t) (tmpsOf os)
  | _ :: os => tmpsOf os
structure Log where
  i : Nat
  rd : Nat
  wr : Nat
  use : Nat
  dst : Nat
def guardTmp (ops : Array Oper) (o : Oper) : Nat := match o.guard with
  | none => 0
  | some (j, _) => match (ops[j]?).bind (·.dst) with
    | none => 0
    | some d => bit d
def meets (a b : Log) : Bool := Nat.beq (Nat.lor (Nat.lor (Nat.land a.wr (Nat.lor b.rd b.wr)) (Nat.land a.rd b.wr)) (Nat.lor (Nat.land a.dst (Nat.lor b.use b.dst)) (Nat.land a.use b.dst))) 0
def apart (bj : Nat) (l : Log) : List Log → Bool
  | [] => true
  | a :: as_ => match Nat.testBit bj a.i with
    | true => apart bj l as_
    | false => match meets a l with
      | true => apart bj l as_
      | false => false
/-- A region that draws its order: the operations one by one; those that are not ordered must not meet. -/
def drawE (ih : Req → E Res) (P : Program) (ops : Array Oper) (n : Nat) : List Oper → Nat → List Nat → List Log → Tr AV → E (Tr AV)
  | [], _, _, _, T => fun s => some (T, s)
  | o :: os, i, bs, ls, T => fun s => match wantE ops T o with
    | none => none
    | some w => match (match w with
        | true => operE ih P T o.op { s with rd := 0, wr := 0 }
        | false => some (.tup [], { s with rd := 0, wr := 0 })) with
      | none => none
      | some (v, s1) => match putT n T o.dst v with
        | none => none
        | some T' => match befE bs o.after.toList with
          | b => match { i, rd := s1.rd, wr := s1.wr, use := Nat.lor (guardTmp ops o) (tmpsOf o.op.operands.toList), dst := match o.dst with | none => 0 | some d => bit d : Log } with
            | l => match Nat.blt b (bit i) && apart b l ls with
              | false => none
              | true => drawE ih P ops n os (i + 1) (bs ++ [b]) (l :: ls) T' { s1 with rd := Nat.lor s.rd s1.rd, wr := Nat.lor s.wr s1.wr }
def exitCode : XR → Code
  | .normal => .skip
  | .exit id => .exit id
  | .ret => .ret
/-- The code of a jump. -/
def jumpOf : XR → Option Code
  | .normal => none
  | .exit id => some (.exit id)
  | .ret => some .ret
def loopT (n : Nat) : List Tmp → List AV → Tr AV → Option (Tr AV)
  | [], [], T => some T
  | p :: ps, v :: vs, T => match putT n T (some p) v with
    | none => none
    | some T' => loopT n ps vs T'
  | _, _, _ => none
def codeE (ih : Req → E Res) (P : Program) (rd : Option Nat) (c : Code) (T : Tr AV) (n : Nat) (mk : List Nat) : E Res := fun s => match c with
  | .skip | .label _ => some (.code .normal T mk, s)
  | .region _ ops false => match opsE ih P ops n ops.toList T s with
    | none => none
    | some (T', s1) => some (.code .normal T' mk, s1)
  | .region _ ops true => match drawE ih P ops n ops.toList 0 [] [] T s with
    | none => none
    | some (T', s1) => some (.code .normal T' mk, s1)
  | .seq a b => match ih (.code rd a T n mk) s with
    | some (.code .normal T' mk', s1) => ih (.code rd b T' n mk') s1
    | some (.code x T' mk', s1) => some (.code x T' mk', s1)
    | _ => none
  | .cond x a b => match opv T x with
    | some (.bool true) => ih (.code rd a T n mk) s
    | some (.bool false) => ih (.code rd b T n mk) s
    | _ => none
  | .block id a => match ih (.code rd a T n mk) s with
    | some (.code (.exit i) T' mk', s1) => match Nat.beq i id with
      | true => some (.code .normal T' mk', s1)
      | false => some (.code (.exit i) T' mk', s1)
    | r => r
  | .loop a => match ih (.code rd a T n mk) s with
    | some (.code .normal T' mk', s1) => ih (.code rd (.loop a) T' n mk') s1
    | some (.code x T' mk', s1) => some (.code x T' mk', s1)
    | _ => none
  | .exit id => some (.code (.exit id) T mk, s)
  | .ret => some (.code .ret T mk, s)
  | .rangeFunc f params assign body => match opv T f with
    | some (.fn g a b) => match (match rd with
        | none => match newB .dfr s with
          | none => none
          | some (d, s1) => some (d, d :: mk, s1)
        | some l => match s.heap.get l with
          | some (.loop _ _ _ _ _ _ _ d) => some (d, mk, { s with rd := Nat.lor s.rd (bit l) })
          | _ => none) with
      | none => none
      | some (d, mk', s1) => match newB (.loop .ready none T n params assign body d) s1 with
        | none => none
        | some (l, s2) => match ih (.call g (a ++ [.yld l] ++ b)) s2 with
          | some (.val _, s3) => match s3.heap.get l with
            | some (.loop st pend T' n' ps' as_' bd' d') => match st with
              | .busy => none
              | _ => match wrB l (.loop .exhausted pend T' n' ps' as_' bd' d') s3 with
                | none => none
                | some (_, s4) => match pend with
                  | none => some (.code .normal T mk', s4)
                  | some j => ih (.code rd j T n mk') s4
            | _ => none
          | _ => none
    | _ => none
  | _ => none
def argsT : Nat → Nat → List AV → Tr AV → Option (Tr AV)
  | _, _, [], T => some T
  | n, i, v :: vs, T => match putT n T (some i) v with
    | none => none
    | some T' => argsT n (i + 1) vs T'
def marksE : List Nat → E Unit
  | [] => fun s => some ((), s)
  | d :: ds => fun s => match s.heap.get d with
    | some .dfr => match killB d s with
      | none => none
      | some (_, s1) => marksE ds s1
    | _ => none
def resultsE (P : Program) (T : Tr AV) : List ResultVar → E (List AV)
  | [] => fun s => some ([], s)
  | .tmp t :: rs => fun s => match T.get t with
    | none => none
    | some v => match resultsE P T rs s with
      | none => none
      | some (vs, s1) => some (v :: vs, s1)
  | .cell a t :: rs => fun s => match T.get a with
    | some (.ptr k i) => match loadE P t k i s with
      | none => none
      | some (v, s1) => match resultsE P T rs s1 with
        | none => none
        | some (vs, s2) => some (v :: vs, s2)
    | _ => none
def oneOf : List AV → AV
  | [v] => v
  | vs => .tup vs
def funE (ih : Req → E Res) (P : Program) (f : Nat) (args : List AV) : E Res := fun s => match P.funcs[f]? with
  | none => none
  | some fn => match fn.body with
    | none => none
    | some c => match fn.name == "runtime.NumGoroutine" with
      | true => none
      | false => match argsT fn.ntmps 0 args .nil with
        | none => none
        | some T => match ih (.code none c T fn.ntmps []) s with
          | some (.code x T' mk, s1) => match x with
            | .exit _ => none
            | _ => match marksE mk s1 with
              | none => none
              | some (_, s2) => match resultsE P T' fn.results.toList s2 with
                | none => none
                | some (vs, s3) => some (.val (oneOf vs), s3)
          | _ => none
def yieldE (ih : Req → E Res) (k : Nat) (args : List AV) : E Res := fun s => match s.heap.get k with
  | some (.loop .ready pend T n ps asg body d) => match loopT n ps.toList args T with
    | none => none
    | some T1 => match ih (.code (some k) asg T1 n []) { s with rd := Nat.lor s.rd (bit k) } with
      | some (.code .normal T2 [], s1) => match s1.heap.get k with
        | some (.loop .ready pend T' n' ps' as_' bd' d') => match wrB k (.loop .busy pend T' n' ps' as_' bd' d') s1 with
          | none => none
          | some (_, s2) => match ih (.code (some k) body T2 n []) s2 with
            | some (.code x _ [], s3) => match s3.heap.get k with
              | some (.loop _ _ T3 n3 ps3 as3 bd3 d3) => match x with
                | .normal => match wrB k (.loop .ready none T3 n3 ps3 as3 bd3 d3) s3 with
                  | none => none
                  | some (_, s4) => some (.val (.bool true), s4)
                | x => match wrB k (.loop .done (jumpOf x) T3 n3 ps3 as3 bd3 d3) s3 with
                  | none => none
                  | some (_, s4) => some (.val (.bool false), s4)
              | _ => none
            | _ => none
        | _ => none
      | _ => none
  | _ => none
/-- Calls whose answers are known. -/
abbrev Hook := Nat → List AV → St → Option (AV × St)
def stepE (P : Program) (H : Hook) (ih : Req → E Res) : Req → E Res
  | .code rd c T n mk => codeE ih P rd c T n mk
  | .call f args => fun s => match H f args s with
    | some (v, s1) => some (.val v, s1)
    | none => funE ih P f args s
  | .yield k args => yieldE ih k args
def ev (P : Program) (H : Hook) : Nat → Req → E Res := Nat.rec (fun _ _ => none) (fun _ ih => stepE P H ih)
def insI (x : Int) : List Int → List Int
  | [] => [x]
  | y :: ys => match decide (x ≤ y) with
    | true => x :: y :: ys
    | false => y :: insI x ys
def sortI : List Int → List Int
  | [] => []
  | x :: xs => insI x (sortI xs)
def intKeys : List (AV × AV × Nat) → Option (List Int)
  | [] => some []
  | (.int .i64 n, _, _) :: es => match intKeys es with
    | none => none
    | some r => some (n :: r)
  | _ => none
def intsAV : List Int → List AV
  | [] => []
  | n :: ns => .int .i64 n :: intsAV ns
/-- slices.Sorted(maps.Keys(m)) of two keys to twelve. -/
def sortedH (fS fK tI : Nat) : Hook := fun f args s => match Nat.beq f fS with
  | false => none
  | true => match args with
    | [.fn g [] [.ptr b 0]] => match Nat.beq g fK with
      | false => none
      | true => match s.heap.get b with
        | some (.cells [.map m] _ _ _) => match s.heap.get m with
          | some (.map es _) => match intKeys es with
            | none => none
            | some ks => match Nat.ble 2 ks.length && Nat.ble ks.length 12 with
              | false => none
              | true => match newB (.cells (intsAV (sortI ks)) tI 1 true) { s with rd := Nat.lor (Nat.lor s.rd (bit b)) (bit m) } with
                | none => none
                | some (k, s1) => some (.slice k 0 ks.length (.unk 0), s1)
          | _ => none
        | _ => none
    | _ => none
def st0 : St := { heap := .nil, next := 0, rd := 0, wr := 0 }
def isTrue : Option (Res × St) → Bool
  | some (.val (.bool true), _) => true
  | _ => false
end Go.Proofs.YtnnalcfdeldocaaGreatDoor.X
namespace Go.Proofs.YtnnalcfdeldocaaGreatDoor.X
open Go
set_option linter.unusedVariables false
abbrev R := Option (AV × St)
structure Ev where
  code : Code → Option Nat → Tr AV → Nat → List Nat → St → (XR → Tr AV → List Nat → St → R) → R
  call : Nat → List AV → St → (AV → St → R) → R
  yield : Nat → List AV → St → (AV → St → R) → R
noncomputable def oR {α : Type} (o : Option α) (k : α → R) : R := Option.rec (motive := fun _ => R) none k o
noncomputable def o2 {α : Type} (o : Option α) (z : R) (k : α → R) : R := Option.rec (motive := fun _ => R) z k o
noncomputable def bR (b : Bool) (k : R) : R := Bool.rec (motive := fun _ => R) none k b
noncomputable def b2 (b : Bool) (f t : R) : R := Bool.rec (motive := fun _ => R) f t b
noncomputable def eR {α : Type} (o : Option (α × St)) (k : α → St → R) : R := Option.rec (motive := fun _ => R) none (fun p => Prod.rec (motive := fun _ => R) k p) o
noncomputable def getF {α : Type} (t : Tr α) : Nat → Option α :=
  Tr.rec (motive := fun _ => Nat → Option α) (fun _ => none) (fun v _ _ gl gr k => Bool.rec (motive := fun _ => Option α) (Bool.rec (motive := fun _ => Option α) (gr (Nat.sub (Nat.shiftRight k 1) 1)) (gl (Nat.shiftRight k 1)) (Nat.beq (Nat.land k 1) 1)) v (Nat.beq k 0)) t
noncomputable def putF {α : Type} (f : Nat) : Tr α → Nat → Option α → Tr α :=
  Nat.rec (motive := fun _ => Tr α → Nat → Option α → Tr α) (fun t _ _ => t) (fun _ ih t k x => Tr.rec (motive := fun _ => Tr α)
    (Bool.rec (motive := fun _ => Tr α) (Bool.rec (motive := fun _ => Tr α) (.node none .nil (ih .nil (Nat.sub (Nat.shiftRight k 1) 1) x)) (.node none (ih .nil (Nat.shiftRight k 1) x) .nil) (Nat.beq (Nat.land k 1) 1)) (.node x .nil .nil) (Nat.beq k 0))
    (fun v l r _ _ => Bool.rec (motive := fun _ => Tr α) (Bool.rec (motive := fun _ => Tr α) (.node v l (ih r (Nat.sub (Nat.shiftRight k 1) 1) x)) (.node v (ih l (Nat.shiftRight k 1) x) r) (Nat.beq (Nat.land k 1) 1)) (.node x l r) (Nat.beq k 0)) t) f
-- lists
noncomputable def nthF (l : List AV) : Nat → Option AV := List.rec (motive := fun _ => Nat → Option AV) (fun _ => none) (fun v _ ih i => Bool.rec (motive := fun _ => Option AV) (ih (Nat.sub i 1)) (some v) (Nat.beq i 0)) l
noncomputable def nthD (l : List Nat) : Nat → Nat := List.rec (motive := fun _ => Nat → Nat) (fun _ => 0) (fun v _ ih i => Bool.rec (motive := fun _ => Nat) (ih (Nat.sub i 1)) v (Nat.beq i 0)) l
noncomputable def takeF (l : List AV) : Nat → (List AV → R) → R := List.rec (motive := fun _ => Nat → (List AV → R) → R) (fun n k => b2 (Nat.beq n 0) none (k [])) (fun v _ ih n k => b2 (Nat.beq n 0) (ih (Nat.sub n 1) (fun r => k (v :: r))) (k [])) l
noncomputable def segF (l : List AV) : Nat → Nat → (List AV → R) → R := List.rec (motive := fun _ => Nat → Nat → (List AV → R) → R) (fun i n k => b2 (Nat.beq n 0) none (k [])) (fun v vs ih i n k => b2 (Nat.beq i 0) (b2 (Nat.beq n 0) (ih (Nat.sub i 1) n k) (k [])) (takeF (v :: vs) n k)) l
noncomputable def layF1 (l : List AV) : List AV → (List AV → R) → R := List.rec (motive := fun _ => List AV → (List AV → R) → R) (fun xs k => List.rec (motive := fun _ => R) (k []) (fun _ _ _ => none) xs)
  (fun v vs ih xs k => List.rec (motive := fun _ => R) (k (v :: vs)) (fun x xs _ => ih xs (fun r => k (x :: r))) xs) l
noncomputable def setSegF (l : List AV) : Nat → List AV → (List AV → R) → R := List.rec (motive := fun _ => Nat → List AV → (List AV → R) → R) (fun i xs k => List.rec (motive := fun _ => R) (k []) (fun _ _ _ => none) xs)
  (fun v vs ih i xs k => b2 (Nat.beq i 0) (List.rec (motive := fun _ => R) (k (v :: vs)) (fun _ _ _ => ih (Nat.sub i 1) xs (fun r => k (v :: r))) xs) (layF1 (v :: vs) xs k)) l
noncomputable def lenF (l : List AV) : Nat := List.rec (motive := fun _ => Nat) 0 (fun _ _ ih => Nat.succ ih) l
-- values
noncomputable def oneF (v : AV) : Bool := AV.casesOn (motive_1 := fun _ => Bool) v (fun _ => true) (fun _ _ => true) (fun _ => true) true (fun _ _ => true) true (fun _ _ _ _ => true) true (fun _ => true) (fun _ _ _ => true) (fun _ => true) true true (fun _ _ => true) (fun _ => false) (fun _ => false) (fun _ _ _ => true) (fun _ => true)
noncomputable def onesF (l : List AV) : Bool := List.rec (motive := fun _ => Bool) true (fun v _ ih => Bool.rec (motive := fun _ => Bool) false ih (oneF v)) l
noncomputable def cellsF (v : AV) : List AV := AV.casesOn (motive_1 := fun _ => List AV) v (fun _ => [v]) (fun _ _ => [v]) (fun _ => [v]) [v] (fun _ _ => [v]) [v] (fun _ _ _ _ => [v]) [v] (fun _ => [v]) (fun _ _ _ => [v]) (fun _ => [v]) [v] [v] (fun _ _ => [v]) (fun cs => cs) (fun _ => [v]) (fun _ _ _ => [v]) (fun _ => [v])
noncomputable def avBool (v : AV) (k : Bool → R) : R := AV.casesOn (motive_1 := fun _ => R) v k (fun _ _ => none) (fun _ => none) none (fun _ _ => none) none (fun _ _ _ _ => none) none (fun _ => none) (fun _ _ _ => none) (fun _ => none) none none (fun _ _ => none) (fun _ => none) (fun _ => none) (fun _ _ _ => none) (fun _ => none)
noncomputable def avPtr (v : AV) (k : Nat → Nat → R) : R := AV.casesOn (motive_1 := fun _ => R) v (fun _ => none) (fun _ _ => none) (fun _ => none) none k none (fun _ _ _ _ => none) none (fun _ => none) (fun _ _ _ => none) (fun _ => none) none none (fun _ _ => none) (fun _ => none) (fun _ => none) (fun _ _ _ => none) (fun _ => none)
noncomputable def avInt (v : AV) (z : R) (k : IntKind → Int → R) : R := AV.casesOn (motive_1 := fun _ => R) v (fun _ => z) k (fun _ => z) z (fun _ _ => z) z (fun _ _ _ _ => z) z (fun _ => z) (fun _ _ _ => z) (fun _ => z) z z (fun _ _ => z) (fun _ => z) (fun _ => z) (fun _ _ _ => z) (fun _ => z)
noncomputable def avTup (v : AV) (k : List AV → R) : R := AV.casesOn (motive_1 := fun _ => R) v (fun _ => none) (fun _ _ => none) (fun _ => none) none (fun _ _ => none) none (fun _ _ _ _ => none) none (fun _ => none) (fun _ _ _ => none) (fun _ => none) none none (fun _ _ => none) (fun _ => none) k (fun _ _ _ => none) (fun _ => none)
noncomputable def avFn (v : AV) (k : Nat → List AV → List AV → R) (y : Nat → R) : R := AV.casesOn (motive_1 := fun _ => R) v (fun _ => none) (fun _ _ => none) (fun _ => none) none (fun _ _ => none) none (fun _ _ _ _ => none) none (fun _ => none) k y none none (fun _ _ => none) (fun _ => none) (fun _ => none) (fun _ _ _ => none) (fun _ => none)
noncomputable def avNil (v : AV) (k : R) : R := AV.casesOn (motive_1 := fun _ => R) v (fun _ => none) (fun _ _ => none) (fun _ => none) none (fun _ _ => k) none (fun _ _ _ _ => none) none (fun _ => none) (fun _ _ _ => k) (fun _ => k) none none (fun _ _ => none) (fun _ => none) (fun _ => none) (fun _ _ _ => none) (fun _ => none)
noncomputable def absF (v : Value) (k : AV → R) : R := Value.casesOn (motive_1 := fun _ => R) v (fun b => k (.bool b)) (fun i n => k (.int i n)) (fun _ _ => none) (fun _ _ _ => none) (fun b => oR (absV (.string b)) k) (fun a => oR (absV (.pointer a)) k) (fun a l c => oR (absV (.slice a l c)) k) (fun r => oR (absV (.map r)) k) (fun _ => none) (fun _ _ _ => none) (k .fn0) (fun _ _ => none) (k .iface0) (fun cs => oR (absV (.agg cs)) k) (fun cs => oR (absV (.tuple cs)) k)
noncomputable def opvF (o : Operand) : Tr AV → (AV → R) → R := Operand.rec (motive := fun _ => Tr AV → (AV → R) → R) (fun t T k => oR (getF T t) k) (fun v T k => absF v k) (fun _ _ _ => none) (fun f T k => k (.fn f [] [])) o
noncomputable def opvsF (l : List Operand) : Tr AV → (List AV → R) → R := List.rec (motive := fun _ => Tr AV → (List AV → R) → R) (fun _ k => k []) (fun o _ ih T k => opvF o T (fun v => ih T (fun vs => k (v :: vs)))) l
noncomputable def partsF (l : List (Nat × Operand)) : Tr AV → (List (Nat × AV) → R) → R := List.rec (motive := fun _ => Tr AV → (List (Nat × AV) → R) → R) (fun _ k => k []) (fun p _ ih T k => Prod.rec (motive := fun _ => R) (fun i o => opvF o T (fun v => ih T (fun vs => k ((i, v) :: vs)))) p) l
-- blocks
noncomputable def cellsK (b : ABlk) (k : List AV → Nat → Nat → Bool → R) : R := ABlk.rec (motive := fun _ => R) k (fun _ _ => none) (fun _ _ _ _ => none) (fun _ _ _ _ _ _ _ _ => none) none b
noncomputable def newF (b : ABlk) (s : St) (k : Nat → St → R) : R := St.rec (motive := fun _ => R) (fun h n r w => bR (Nat.ble (Nat.succ n) 1000000) (o2 (getF h n) (k n (St.mk (putF 20 h n (some b)) (Nat.succ n) r (Nat.lor w (Nat.shiftLeft 1 n)))) (fun _ => none))) s
noncomputable def loadF (P : Program) (t : TypeId) (kk i : Nat) (s : St) (k : AV → St → R) : R := St.rec (motive := fun _ => R) (fun h n r w => oR (getF h kk) (fun b => cellsK b (fun c _ _ _ => oR (isAggT P t) (fun ag => Bool.rec (motive := fun _ => R)
  (oR (nthF c i) (fun v => k v (St.mk h n (Nat.lor r (Nat.shiftLeft 1 kk)) w)))
  (oR (sizeT P t) (fun z => segF c i z (fun q => k (.agg q) (St.mk h n (Nat.lor r (Nat.shiftLeft 1 kk)) w)))) ag)))) s
noncomputable def putKF (kk i : Nat) (xs : List AV) (s : St) (k : St → R) : R := St.rec (motive := fun _ => R) (fun h n r w => oR (getF h kk) (fun b => cellsK b (fun c e z u => setSegF c i xs (fun c' => bR (Nat.ble (Nat.succ kk) 1000000) (bR (onesF xs) (k (St.mk (putF 20 h kk (some (.cells c' e z u))) n r (Nat.lor w (Nat.shiftLeft 1 kk)))))))) ) s
noncomputable def storeF (P : Program) (t : TypeId) (kk i : Nat) (v : AV) (s : St) (k : St → R) : R := oR (sizeT P t) (fun n => bR (Nat.beq n (lenF (cellsF v))) (putKF kk i (cellsF v) s k))
-- numbers
noncomputable def limK (k : IntKind) : Nat := IntKind.rec (motive := fun _ => Nat) 128 32768 2147483648 9223372036854775808 256 65536 4294967296 18446744073709551616 k
noncomputable def idxK (k : IntKind) : Nat := IntKind.rec (motive := fun _ => Nat) 0 1 2 3 4 5 6 7 k
noncomputable def fitN (k : IntKind) (n : Nat) (z : R) (c : AV → R) : R := b2 (Nat.ble (Nat.succ n) (limK k)) z (c (.int k (.ofNat n)))
noncomputable def bothN (k : IntKind) (a b : Nat) (z y : R) : R := b2 (Nat.ble (Nat.succ a) (limK k)) z (b2 (Nat.ble (Nat.succ b) (limK k)) z y)
noncomputable def arithF (op : BinOp) : IntKind → Nat → Nat → R → (AV → R) → R := BinOp.rec (motive := fun _ => IntKind → Nat → Nat → R → (AV → R) → R)
  (fun k a b z c => fitN k (Nat.add a b) z c)
  (fun k a b z c => b2 (Nat.ble b a) z (fitN k (Nat.sub a b) z c))
  (fun k a b z c => fitN k (Nat.mul a b) z c)
  (fun k a b z c => z)
  (fun k a b z c => z)
  (fun k a b z c => bothN k a b z (c (.int k (.ofNat (Nat.land a b)))))
  (fun k a b z c => bothN k a b z (c (.int k (.ofNat (Nat.lor a b)))))
  (fun k a b z c => bothN k a b z (c (.int k (.ofNat (Nat.xor a b)))))
  (fun k a b z c => z)
  (fun k a b z c => z)
  (fun k a b z c => z)
  (fun k a b z c => c (.bool (Nat.beq a b)))
  (fun k a b z c => c (.bool (Bool.rec (motive := fun _ => Bool) true false (Nat.beq a b))))
  (fun k a b z c => c (.bool (Nat.ble (Nat.succ a) b)))
  (fun k a b z c => c (.bool (Nat.ble a b)))
  (fun k a b z c => c (.bool (Nat.ble (Nat.succ b) a)))
  (fun k a b z c => c (.bool (Nat.ble b a))) op
noncomputable def shiftF (op : BinOp) : IntKind → Nat → Nat → R → (AV → R) → R := BinOp.rec (motive := fun _ => IntKind → Nat → Nat → R → (AV → R) → R)
  (fun k a b z c => z) (fun k a b z c => z) (fun k a b z c => z) (fun k a b z c => z) (fun k a b z c => z) (fun k a b z c => z) (fun k a b z c => z) (fun k a b z c => z)
  (fun k a b z c => b2 (Nat.ble b 8) z (fitN k (Nat.mul a (Nat.pow 2 b)) z c))
  (fun k a b z c => b2 (Nat.ble b 8) z (c (.int k (.ofNat (Nat.div a (Nat.pow 2 b))))))
  (fun k a b z c => z) (fun k a b z c => z) (fun k a b z c => z) (fun k a b z c => z) (fun k a b z c => z) (fun k a b z c => z) (fun k a b z c => z) op
noncomputable def intF (n : Int) (z : R) (k : Nat → R) : R := Int.rec (motive := fun _ => R) k (fun _ => z) n
noncomputable def binF (P : Program) (op : BinOp) (t : TypeId) (x y : AV) (c : AV → R) : R := avInt x (oR (binE P op t x y) c) (fun k1 n1 => avInt y (oR (binE P op t x y) c) (fun k2 n2 => intF n1 (oR (binE P op t x y) c) (fun a => intF n2 (oR (binE P op t x y) c) (fun b =>
  b2 (Nat.beq (idxK k1) (idxK k2)) (shiftF op k1 a b (oR (binE P op t x y) c) c) (arithF op k1 a b (shiftF op k1 a b (oR (binE P op t x y) c) c) c)))))
noncomputable def unF (P : Program) (op : UnOp) (x : AV) (c : AV → R) : R := UnOp.rec (motive := fun _ => R) (oR (unE P .neg x) c) (oR (unE P .xor x) c) (avBool x (fun b => c (.bool (Bool.rec (motive := fun _ => Bool) true false b)))) (oR (unE P .plus x) c) op
-- operations
noncomputable def slowF (o : Op) (ev : Ev) (P : Program) (T : Tr AV) (s : St) (k : AV → St → R) : R := eR (opE P T o s) k
noncomputable def moveF (x : Operand) (ev : Ev) (P : Program) (T : Tr AV) (s : St) (k : AV → St → R) : R := opvF x T (fun v => k v s)
noncomputable def pickF (c a b : Operand) (ev : Ev) (P : Program) (T : Tr AV) (s : St) (k : AV → St → R) : R := opvF c T (fun v => avBool v (fun q => b2 q (opvF b T (fun v => k v s)) (opvF a T (fun v => k v s))))
noncomputable def allocKF (e : TypeId) (v : AV) (s : St) (k : AV → St → R) : R := newF (.cells (cellsF v) e 1 false) s (fun n s1 => k (.ptr n 0) s1)
noncomputable def allocF (e : TypeId) (ev : Ev) (P : Program) (T : Tr AV) (s : St) (k : AV → St → R) : R := oR (zeroT P e) (fun z => allocKF e z s k)
noncomputable def boxF (e : TypeId) (x : Operand) (ev : Ev) (P : Program) (T : Tr AV) (s : St) (k : AV → St → R) : R := opvF x T (fun v => allocKF e v s k)
noncomputable def buildF (t : TypeId) (ps : Array (Nat × Operand)) (ev : Ev) (P : Program) (T : Tr AV) (s : St) (k : AV → St → R) : R := partsF ps.toList T (fun l => oR (buildE P t l) (fun v => k v s))
noncomputable def loadOpF (t : TypeId) (x : Operand) (ev : Ev) (P : Program) (T : Tr AV) (s : St) (k : AV → St → R) : R := opvF x T (fun v => avPtr v (fun n i => loadF P t n i s k))
noncomputable def storeOpF (t : TypeId) (x y : Operand) (ev : Ev) (P : Program) (T : Tr AV) (s : St) (k : AV → St → R) : R := opvF x T (fun a => avPtr a (fun n i => opvF y T (fun v => storeF P t n i v s (fun s1 => k (.tup []) s1))))
noncomputable def nilF (x : Operand) (ev : Ev) (P : Program) (T : Tr AV) (s : St) (k : AV → St → R) : R := opvF x T (fun v => avNil v (k v s))
noncomputable def binOpF (op : BinOp) (t : TypeId) (x y : Operand) (u : TypeId) (ev : Ev) (P : Program) (T : Tr AV) (s : St) (k : AV → St → R) : R := opvF x T (fun a => opvF y T (fun b => binF P op t a b (fun v => k v s)))
noncomputable def unOpF (op : UnOp) (t : TypeId) (x : Operand) (ev : Ev) (P : Program) (T : Tr AV) (s : St) (k : AV → St → R) : R := opvF x T (fun a => unF P op a (fun v => k v s))
/-- What kind of numbers a conversion makes. -/
def convK (P : Program) (a d : TypeId) : Option IntKind := match P.underlying a with
  | none => none
  | some _ => match P.underlying d with
    | some (.int k) => some k
    | _ => none
noncomputable def convF (a d : TypeId) (x : Operand) (ev : Ev) (P : Program) (T : Tr AV) (s : St) (k : AV → St → R) : R := opvF x T (fun v => o2 (convK P a d) (eR (convE P a d v s) k) (fun q => avInt v (eR (convE P a d v s) k) (fun _ n => intF n (eR (convE P a d v s) k) (fun m => fitN q m (eR (convE P a d v s) k) (fun v => k v s)))))
noncomputable def makeFuncF (fn : Fn) (x y : Array Operand) (ev : Ev) (P : Program) (T : Tr AV) (s : St) (k : AV → St → R) : R := o2 (match fn with | .func f => some f | _ => none) none (fun f => opvsF x.toList T (fun u => opvsF y.toList T (fun w => k (.fn f u w) s)))
def offOf (P : Program) (t : TypeId) (f : Nat) : Option Nat := match fieldOf P t f with
  | none => none
  | some fl => match sizeT P fl.type with
    | some (_ + 1) => some fl.offset
    | _ => none
noncomputable def fieldAddrF (t : TypeId) (x : Operand) (f : Nat) (ev : Ev) (P : Program) (T : Tr AV) (s : St) (k : AV → St → R) : R := opvF x T (fun v => avPtr v (fun n i => oR (offOf P t f) (fun o => k (.ptr n (Nat.add i o)) s)))
noncomputable def fieldF (t : TypeId) (x : Operand) (f : Nat) (ev : Ev) (P : Program) (T : Tr AV) (s : St) (k : AV → St → R) : R := opvF x T (fun v => oR (fieldE P t v f) (fun r => k r s))
noncomputable def indexAddrF (t : TypeId) (x y : Operand) (ev : Ev) (P : Program) (T : Tr AV) (s : St) (k : AV → St → R) : R := opvF x T (fun v => opvF y T (fun w => oR (indexAddrE P t v w) (fun r => k r s)))
noncomputable def extractF (x : Operand) (i : Nat) (ev : Ev) (P : Program) (T : Tr AV) (s : St) (k : AV → St → R) : R := opvF x T (fun v => avTup v (fun vs => oR (nthF vs i) (fun r => k r s)))
noncomputable def callF (c : Call) (ev : Ev) (P : Program) (T : Tr AV) (s : St) (k : AV → St → R) : R := Call.rec (motive := fun _ => R) (fun callee args ats => Callee.rec (motive := fun _ => R)
  (fun f => opvF f T (fun v => opvsF args.toList T (fun vs => avFn v (fun g a b => ev.call g (a ++ vs ++ b) s k) (fun y => ev.yield y vs s k))))
  (fun _ _ => none)
  (fun b => opvsF args.toList T (fun vs => eR (builtinE P b ats.toList vs s) k)) callee) c
noncomputable def opF (o : Op) : Ev → Program → Tr AV → St → (AV → St → R) → R :=
  Op.rec (motive := fun _ => Ev → Program → Tr AV → St → (AV → St → R) → R)
    moveF
    moveF
    pickF
    allocF
    boxF
    buildF
    (fun a b c => slowF (.buildSlice a b c))
    (fun a b c d => slowF (.insert a b c d))
    loadOpF
    storeOpF
    (fun a => slowF (.ready a))
    (fun a => slowF (.waits a))
    nilF
    binOpF
    unOpF
    convF
    (fun a b => slowF (.sliceToArrayPointer a b))
    (fun a b => slowF (.makeInterface a b))
    makeFuncF
    (fun a b => slowF (.makeMap a b))
    (fun a b => slowF (.makeChan a b))
    (fun a b c => slowF (.makeSlice a b c))
    (fun a b c d e => slowF (.slice a b c d e))
    fieldAddrF
    fieldF
    indexAddrF
    (fun a b c => slowF (.index a b c))
    (fun a b c d => slowF (.lookup a b c d))
    (fun a b c d => slowF (.mapUpdate a b c d))
    (fun a b c => slowF (.mapEntry a b c))
    (fun a b c d => slowF (.entryStore a b c d))
    (fun a b => slowF (.range a b))
    (fun a b => slowF (.next a b))
    (fun a => slowF (.entry a))
    (fun a b c d => slowF (.typeAssert a b c d))
    extractF
    callF
    (fun a => slowF (.go a))
    (fun a => slowF (.defer a))
    (fun a => slowF (.panic a))
    (fun a b => slowF (.send a b))
    (fun a b c => slowF (.recv a b c))
    (fun a b => slowF (.select a b))
    o
-- regions
noncomputable def putTF (n : Nat) (T : Tr AV) (d : Option Tmp) (v : AV) (k : Tr AV → R) : R := o2 d (k T) (fun d => bR (Nat.ble (Nat.succ d) n) (bR (Nat.ble (Nat.succ d) 1000) (k (putF 10 T d (some v)))))
noncomputable def opsF (ev : Ev) (P : Program) (ops : Array Oper) (n : Nat) (os : List Oper) : Tr AV → St → (Tr AV → St → R) → R := List.rec (motive := fun _ => Tr AV → St → (Tr AV → St → R) → R) (fun T s k => k T s)
  (fun o _ ih T s k => Oper.rec (motive := fun _ => R) (fun dst op type pos after guard => Option.rec (motive := fun _ => R)
    (opF op ev P T s (fun v s1 => putTF n T dst v (fun T1 => ih T1 s1 k)))
    (fun _ => oR (wantE ops T o) (fun w => b2 w (putTF n T dst (.tup []) (fun T1 => ih T1 s k)) (opF op ev P T s (fun v s1 => putTF n T dst v (fun T1 => ih T1 s1 k))))) guard) o) os
noncomputable def bindsF (g : Ground) : Bool := Ground.rec (motive := fun _ => Bool) true true true true (fun _ => false) (fun _ => false) g
noncomputable def befF (acc : List Nat) (es : List Edge) : Nat := List.rec (motive := fun _ => Nat) 0 (fun e _ ih => Edge.rec (motive := fun _ => Nat) (fun on g => Bool.rec (motive := fun _ => Nat) ih (Nat.lor (Nat.lor (Nat.shiftLeft 1 on) (nthD acc on)) ih) (bindsF g)) e) es
noncomputable def meetsF (a b : Log) : Bool := Log.rec (motive := fun _ => Bool) (fun _ rd wr use dst => Log.rec (motive := fun _ => Bool) (fun _ rd' wr' use' dst' => Nat.beq (Nat.lor (Nat.lor (Nat.land wr (Nat.lor rd' wr')) (Nat.land rd wr')) (Nat.lor (Nat.land dst (Nat.lor use' dst')) (Nat.land use dst'))) 0) b) a
noncomputable def apartF (bj : Nat) (l : Log) (ls : List Log) : Bool := List.rec (motive := fun _ => Bool) true (fun a _ ih => Bool.rec (motive := fun _ => Bool) (Bool.rec (motive := fun _ => Bool) false ih (meetsF a l)) ih (Nat.beq (Nat.land (Nat.shiftRight bj a.i) 1) 1)) ls
/-- The temporaries that an operation names. -/
def tmpsMask (o : Op) : Nat := tmpsOf o.operands.toList
noncomputable def drawStep (i : Nat) (bs : List Nat) (ls : List Log) (ops : Array Oper) (o : Oper) (s s1 : St) (k : List Nat → List Log → St → R) : R := St.rec (motive := fun _ => R) (fun h n r w => St.rec (motive := fun _ => R) (fun _ _ r0 w0 =>
  bR (Nat.ble (Nat.succ (befF bs o.after.toList)) (Nat.shiftLeft 1 i)) (bR (apartF (befF bs o.after.toList) { i, rd := r, wr := w, use := Nat.lor (guardTmp ops o) (tmpsMask o.op), dst := match o.dst with | none => 0 | some d => bit d } ls)
    (k (bs ++ [befF bs o.after.toList]) ({ i, rd := r, wr := w, use := Nat.lor (guardTmp ops o) (tmpsMask o.op), dst := match o.dst with | none => 0 | some d => bit d } :: ls) (St.mk h n (Nat.lor r0 r) (Nat.lor w0 w))))) s) s1
noncomputable def zeroS (s : St) : St := St.rec (motive := fun _ => St) (fun h n _ _ => St.mk h n 0 0) s
noncomputable def drawF (ev : Ev) (P : Program) (ops : Array Oper) (n : Nat) (os : List Oper) : Nat → List Nat → List Log → Tr AV → St → (Tr AV → St → R) → R := List.rec (motive := fun _ => Nat → List Nat → List Log → Tr AV → St → (Tr AV → St → R) → R) (fun _ _ _ T s k => k T s)
  (fun o _ ih i bs ls T s k => oR (wantE ops T o) (fun w => b2 w
    (putTF n T o.dst (.tup []) (fun T1 => drawStep i bs ls ops o s (zeroS s) (fun bs ls s2 => ih (Nat.succ i) bs ls T1 s2 k)))
    (opF o.op ev P T (zeroS s) (fun v s1 => putTF n T o.dst v (fun T1 => drawStep i bs ls ops o s s1 (fun bs ls s2 => ih (Nat.succ i) bs ls T1 s2 k)))))) os
-- code
abbrev CodeK := Ev → Program → Option Nat → Tr AV → Nat → List Nat → St → (XR → Tr AV → List Nat → St → R) → R
noncomputable def xF (x : XR) (n : R) (e : Nat → R) (r : R) : R := XR.rec (motive := fun _ => R) n e r x
noncomputable def regionF (ops : Array Oper) (draw : Bool) : CodeK := fun ev P rd T n mk s k => b2 draw (opsF ev P ops n ops.toList T s (fun T1 s1 => k .normal T1 mk s1)) (drawF ev P ops n ops.toList 0 [] [] T s (fun T1 s1 => k .normal T1 mk s1))
noncomputable def seqF (a b : Code) : CodeK := fun ev P rd T n mk s k => ev.code a rd T n mk s (fun x T1 mk1 s1 => xF x (ev.code b rd T1 n mk1 s1 k) (fun i => k (.exit i) T1 mk1 s1) (k .ret T1 mk1 s1))
noncomputable def condF (x : Operand) (a b : Code) : CodeK := fun ev P rd T n mk s k => opvF x T (fun v => avBool v (fun q => b2 q (ev.code b rd T n mk s k) (ev.code a rd T n mk s k)))
noncomputable def blockF (id : Nat) (a : Code) : CodeK := fun ev P rd T n mk s k => ev.code a rd T n mk s (fun x T1 mk1 s1 => xF x (k .normal T1 mk1 s1) (fun i => b2 (Nat.beq i id) (k (.exit i) T1 mk1 s1) (k .normal T1 mk1 s1)) (k .ret T1 mk1 s1))
noncomputable def loopF (a : Code) : CodeK := fun ev P rd T n mk s k => ev.code a rd T n mk s (fun x T1 mk1 s1 => xF x (ev.code (.loop a) rd T1 n mk1 s1 k) (fun i => k (.exit i) T1 mk1 s1) (k .ret T1 mk1 s1))
def enterE (rd : Option Nat) (mk : List Nat) (s : St) : Option ((Nat × List Nat) × St) := match rd with
  | none => match newB .dfr s with
    | none => none
    | some (d, s1) => some ((d, d :: mk), s1)
  | some l => match s.heap.get l with
    | some (.loop _ _ _ _ _ _ _ d) => some ((d, mk), { s with rd := Nat.lor s.rd (bit l) })
    | _ => none
def leaveE (l : Nat) (s : St) : Option (Option Code × St) := match s.heap.get l with
  | some (.loop st pend T' n' ps' as' bd' d') => match st with
    | .busy => none
    | _ => match wrB l (.loop .exhausted pend T' n' ps' as' bd' d') s with
      | none => none
      | some (_, s1) => some (pend, s1)
  | _ => none
noncomputable def rangeF (f : Operand) (ps : Array Tmp) (asg body : Code) : CodeK := fun ev P rd T n mk s k => opvF f T (fun v => avFn v (fun g a b => eR (enterE rd mk s) (fun dm s1 => Prod.rec (motive := fun _ => R) (fun d mk1 => newF (.loop .ready none T n ps asg body d) s1 (fun l s2 =>
  ev.call g (a ++ [.yld l] ++ b) s2 (fun _ s3 => eR (leaveE l s3) (fun pend s4 => o2 pend (k .normal T mk1 s4) (fun j => ev.code j rd T n mk1 s4 k))))) dm)) (fun _ => none))
noncomputable def codeF (c : Code) : CodeK := Code.rec (motive := fun _ => CodeK)
  (fun ev P rd T n mk s k => k .normal T mk s)
  (fun _ ops draw => regionF ops draw)
  (fun a b _ _ => seqF a b)
  (fun x a b _ _ => condF x a b)
  (fun id a _ => blockF id a)
  (fun a _ => loopF a)
  (fun f ps asg body _ _ => rangeF f ps asg body)
  (fun id ev P rd T n mk s k => k (.exit id) T mk s)
  (fun _ _ _ _ _ _ _ _ _ _ => none)
  (fun _ ev P rd T n mk s k => k .normal T mk s)
  (fun _ _ _ _ _ _ _ _ _ => none)
  (fun ev P rd T n mk s k => k .ret T mk s)
  (fun _ _ _ _ _ _ _ _ _ => none) c
noncomputable def argsF (vs : List AV) : Nat → Nat → Tr AV → (Tr AV → R) → R := List.rec (motive := fun _ => Nat → Nat → Tr AV → (Tr AV → R) → R) (fun _ _ T k => k T) (fun v _ ih n i T k => putTF n T (some i) v (fun T1 => ih n (Nat.succ i) T1 k)) vs
/-- A function's body, its temporaries, its results. -/
def bodyOf (P : Program) (f : Nat) : Option (Code × Nat × List ResultVar) := match P.funcs[f]? with
  | none => none
  | some fn => match fn.body with
    | none => none
    | some c => match fn.name == "runtime.NumGoroutine" with
      | true => none
      | false => some (c, fn.ntmps, fn.results.toList)
noncomputable def resF (T : Tr AV) (rs : List ResultVar) : Program → St → (List AV → St → R) → R := List.rec (motive := fun _ => Program → St → (List AV → St → R) → R) (fun _ s k => k [] s)
  (fun r _ ih P s k => ResultVar.rec (motive := fun _ => R) (fun t => oR (getF T t) (fun v => ih P s (fun vs s1 => k (v :: vs) s1))) (fun a t => oR (getF T a) (fun v => avPtr v (fun n i => loadF P t n i s (fun v s1 => ih P s1 (fun vs s2 => k (v :: vs) s2))))) r) rs
noncomputable def oneV (vs : List AV) (k : AV → R) : R := List.rec (motive := fun _ => R) (k (.tup [])) (fun v r _ => List.rec (motive := fun _ => R) (k v) (fun _ _ _ => k (.tup vs)) r) vs
noncomputable def endF (P : Program) (rs : List ResultVar) (T : Tr AV) (mk : List Nat) (s : St) (k : AV → St → R) : R := List.rec (motive := fun _ => R) (resF T rs P s (fun vs s1 => oneV vs (fun v => k v s1))) (fun _ _ _ => eR (marksE mk s) (fun _ s1 => resF T rs P s1 (fun vs s2 => oneV vs (fun v => k v s2)))) mk
noncomputable def funF (ev : Ev) (P : Program) (f : Nat) (args : List AV) (s : St) (k : AV → St → R) : R := oR (bodyOf P f) (fun p => Prod.rec (motive := fun _ => R) (fun c q => Prod.rec (motive := fun _ => R) (fun n rs => argsF args n 0 .nil (fun T => ev.code c none T n [] s (fun x T1 mk s1 => xF x (endF P rs T1 mk s1 k) (fun _ => none) (endF P rs T1 mk s1 k)))) q) p)
def begE (k : Nat) (args : List AV) (s : St) : Option ((Tr AV × Nat × Code × Code) × St) := match s.heap.get k with
  | some (.loop .ready pend T n ps asg body d) => match loopT n ps.toList args T with
    | none => none
    | some T1 => some ((T1, n, asg, body), { s with rd := Nat.lor s.rd (bit k) })
  | _ => none
def busyE (k : Nat) (s : St) : Option (Unit × St) := match s.heap.get k with
  | some (.loop .ready pend T' n' ps' as' bd' d') => wrB k (.loop .busy pend T' n' ps' as' bd' d') s
  | _ => none
def doneE (k : Nat) (x : XR) (s : St) : Option (Bool × St) := match s.heap.get k with
  | some (.loop _ _ T3 n3 ps3 as3 bd3 d3) => match x with
    | .normal => match wrB k (.loop .ready none T3 n3 ps3 as3 bd3 d3) s with
      | none => none
      | some (_, s4) => some (true, s4)
    | x => match wrB k (.loop .done (jumpOf x) T3 n3 ps3 as3 bd3 d3) s with
      | none => none
      | some (_, s4) => some (false, s4)
  | _ => none
noncomputable def nilL (l : List Nat) (k : R) : R := List.rec (motive := fun _ => R) k (fun _ _ _ => none) l
noncomputable def yieldF (ev : Ev) (k : Nat) (args : List AV) (s : St) (c : AV → St → R) : R := eR (begE k args s) (fun p s0 => Prod.rec (motive := fun _ => R) (fun T1 q => Prod.rec (motive := fun _ => R) (fun n q => Prod.rec (motive := fun _ => R) (fun asg body =>
  ev.code asg (some k) T1 n [] s0 (fun x T2 mk s1 => xF x (nilL mk (eR (busyE k s1) (fun _ s2 => ev.code body (some k) T2 n [] s2 (fun x _ mk s3 => nilL mk (eR (doneE k x s3) (fun b s4 => c (.bool b) s4)))))) (fun _ => none) none)) q) q) p)
noncomputable def stepF (P : Program) (H : Hook) (ev : Ev) : Ev where
  code := fun c => codeF c ev P
  call := fun f args s k => Option.rec (motive := fun _ => R) (funF ev P f args s k) (fun p => Prod.rec (motive := fun _ => R) k p) (H f args s)
  yield := fun k args s c => yieldF ev k args s c
noncomputable def evF (P : Program) (H : Hook) (n : Nat) : Ev := Nat.rec (motive := fun _ => Ev) { code := fun _ _ _ _ _ _ _ => none, call := fun _ _ _ _ => none, yield := fun _ _ _ _ => none } (fun _ ih => stepF P H ih) n
end Go.Proofs.YtnnalcfdeldocaaGreatDoor.X
