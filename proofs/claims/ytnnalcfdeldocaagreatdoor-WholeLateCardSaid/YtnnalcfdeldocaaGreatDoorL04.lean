/- A walk by the kernel: comparisons and sums are as the model has them. -/
import Derived.Test.YtnnalcfdeldocaaGreatDoorL03
import Derived.Laws.Strings
import Derived.Laws.Concat
namespace Go.Proofs.YtnnalcfdeldocaaGreatDoor.X
open Go
set_option linter.unusedVariables false
set_option linter.unusedSimpArgs false
theorem ofNat_inj {a b : Nat} (ha : a < 256) (hb : b < 256) (h : UInt8.ofNat a = UInt8.ofNat b) : a = b := by
  have := congrArg UInt8.toNat h
  simp at this
  omega
theorem bytesOf_toList (s : List Nat) : (bytesOf s).toList = s.map UInt8.ofNat := by
  unfold bytesOf
  exact ByteArray.toList_mk _
theorem bytesOf_size (s : List Nat) : (bytesOf s).size = s.length := by
  unfold bytesOf
  simp [ByteArray.size]
theorem strOk_cons {a : Nat} {s : List Nat} : strOk (a :: s) = true ↔ a < 256 ∧ strOk s = true := by
  unfold strOk
  rw [List.all_cons, Bool.and_eq_true, blt_iff]
theorem strEq_ok : ∀ {a b : List Nat}, strOk a = true → strOk b = true → (a.map UInt8.ofNat == b.map UInt8.ofNat) = strEq a b
  | [], [], _, _ => rfl
  | [], _ :: _, _, _ => rfl
  | _ :: _, [], _, _ => rfl
  | a :: x, b :: y, ha, hb => by
    obtain ⟨a1, a2⟩ := strOk_cons.1 ha
    obtain ⟨b1, b2⟩ := strOk_cons.1 hb
    have ih := strEq_ok a2 b2
    simp only [List.map_cons, strEq]
    cases q : Nat.beq a b with
    | true =>
      have := beq_iff.1 q; subst this
      simp only [List.cons_beq_cons, beq_self_eq_true, Bool.true_and]
      exact ih
    | false =>
      have hne : ¬ a = b := fun e => by subst e; rw [beq_iff.2 rfl] at q; cases q
      have : (UInt8.ofNat a == UInt8.ofNat b) = false := beq_eq_false_iff_ne.2 (fun e => hne (ofNat_inj a1 b1 e))
      simp only [List.cons_beq_cons, this, Bool.false_and]
theorem strLt_ok : ∀ {a b : List Nat}, strOk a = true → strOk b = true → Op.bytesLess (a.map UInt8.ofNat) (b.map UInt8.ofNat) = strLt a b
  | [], [], _, _ => rfl
  | [], _ :: _, _, _ => rfl
  | _ :: _, [], _, _ => rfl
  | a :: x, b :: y, ha, hb => by
    obtain ⟨a1, a2⟩ := strOk_cons.1 ha
    obtain ⟨b1, b2⟩ := strOk_cons.1 hb
    have ih := strLt_ok a2 b2
    have hlt : (UInt8.ofNat a < UInt8.ofNat b) ↔ a < b := by
      rw [UInt8.lt_iff_toNat_lt]
      simp
      omega
    simp only [List.map_cons, strLt, Op.bytesLess]
    cases q : Nat.blt a b with
    | true =>
      have := blt_iff.1 q
      rw [decide_eq_true (hlt.2 this)]
      rfl
    | false =>
      have hn : ¬ a < b := fun e => by rw [blt_iff.2 e] at q; cases q
      rw [decide_eq_false (fun e => hn (hlt.1 e)), Bool.false_or]
      cases q2 : Nat.beq a b with
      | true =>
        have := beq_iff.1 q2; subst this
        simp only [beq_self_eq_true, Bool.true_and]
        exact ih
      | false =>
        have hne : ¬ a = b := fun e => by subst e; rw [beq_iff.2 rfl] at q2; cases q2
        have : (UInt8.ofNat a == UInt8.ofNat b) = false := beq_eq_false_iff_ne.2 (fun e => hne (ofNat_inj a1 b1 e))
        simp only [this, Bool.false_and]
theorem strOk_append {a b : List Nat} (ha : strOk a = true) (hb : strOk b = true) : strOk (a ++ b) = true := by
  unfold strOk at *
  rw [List.all_append, ha, hb]
  rfl
theorem bytesOf_append (a b : List Nat) : bytesOf a ++ bytesOf b = bytesOf (a ++ b) := by
  apply ByteArray.ext
  simp [bytesOf]
theorem conc_str {ν : Nu} {s : List Nat} {V : Value} (h : conc ν (.str s) = some V) : strOk s = true ∧ V = .string (bytesOf s) := by
  simp only [conc] at h
  split at h
  · next q => cases h; exact ⟨q, rfl⟩
  · cases h
theorem conc_str_of {ν : Nu} {s : List Nat} (h : strOk s = true) : conc ν (.str s) = some (.string (bytesOf s)) := by
  simp only [conc]
  rw [if_pos h]
section
variable {P : Program} {ν : Nu} {W : World}
theorem strOp_ok {op : BinOp} {t : Nat} {a b : List Nat} {v : AV} (hev : strOp op a b = some v) (ha : strOk a = true) (hb : strOk b = true) :
    ∃ V, (Go.binOp op t (.string (bytesOf a)) (.string (bytesOf b))).run P W = .ok V W ∧ conc ν v = some V := by
  have h1 := strEq_ok ha hb
  have h2 := strLt_ok ha hb
  cases op <;> simp only [strOp, Option.some.injEq] at hev <;> try (cases hev)
  case add =>
    cases q : Nat.blt (a.length + b.length) 1000000 with
    | false => rw [q] at hev; cases hev
    | true =>
      rw [q] at hev
      cases hev
      have := blt_iff.1 q
      refine ⟨.string (bytesOf a ++ bytesOf b), ?_, by rw [bytesOf_append]; exact conc_str_of (strOk_append ha hb)⟩
      exact run_string_add_sum (P := P) (w := W) _ _ (by rw [bytesOf_size, bytesOf_size]; omega)
  all_goals refine ⟨_, ?_, by simp only [conc]; rfl⟩
  all_goals simp [Go.binOp, Op.stringOp, bytesOf_toList, h1, h2]
end
end Go.Proofs.YtnnalcfdeldocaaGreatDoor.X
