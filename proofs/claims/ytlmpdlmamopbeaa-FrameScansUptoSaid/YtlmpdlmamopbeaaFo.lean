/- What came in, opened for the walk, and how large it is. -/
import Derived.Test.YtlmpdlmamopbeaaFh
import Derived.Test.YtlmpdlmamopbeaaRows
import Derived.WalkKit
import Derived.ProofKit
import Derived.OpenShut
import Derived.ShutString
import Derived.ChangeOld
import Derived.ChangeSlices
import Derived.SliceStrings
import Derived.Below
import Derived.SizedLaws
import Derived.Lib.SmallJoins
namespace Go.Proofs.Ytlmpdlmamopbeaa.P
open Go.RowKit Go.Proofs.YtlmpdlmamopbeaaW.PrintWords Go.Proofs.YtlmpdlmamopbeaaW.PrintLast Go.Proofs.YtlmpdlmamopbeaaW.PrintMore
set_option linter.unusedVariables false
set_option linter.unusedSimpArgs false
theorem bulkAll_lits {H : Type} (k : IntKind) : ∀ zs : List Int, Rows.uptoBulkAll (Go.ChangeShapes.lits (H := H) k zs) = zs.length
  | [] => rfl
  | z :: r => by
    show Rows.uptoBulk (DataW.lit (.int k z)) + Rows.uptoBulkAll (Go.ChangeShapes.lits k r) = _
    rw [bulkAll_lits k r, List.length_cons, show Rows.uptoBulk (H := H) (.lit (.int k z)) = 1 from rfl]
    omega
/-- A slice of bytes that came in. -/
theorem open_bytes {H : Type} {enc : TypeId × Value → H} {P : Program} {W : World} {base : Nat} {spare : Nat → Bool} {held : Bool} {t e : TypeId} {a : Option Addr} {len cap : Nat} {d : DataW H} {ps : List MemPlace}
    (hu : P.underlying t = some (.slice e)) (he : P.underlying e = some (.int .u8)) (hc : P.cellsOf e = 1) (h : DataW.Trod enc P W base spare held t (.slice a len cap) d ps) :
    ∃ l : List Int, len = l.length ∧ Kd.C (Kd.int .u8) W a l.length l ∧ l.length ≤ cap ∧ Bts l ∧ l.length ≤ Rows.uptoBulk d := by
  obtain ⟨fuel, hf⟩ := h
  rcases Go.ChangeShapes.open_ints hu he hc hf with ⟨hcs, hx⟩ | ⟨x, l, c, zs, hcs, _, hl, hm, hz, hx, hcell, hwz⟩
  · simp [Value.cells] at hcs
    obtain ⟨rfl, rfl, rfl⟩ := hcs
    exact ⟨[], rfl, Kd.C_nil _ _, Nat.le_refl _, fun _ h => absurd h (by simp), Nat.zero_le _⟩
  · simp [Value.cells] at hcs
    obtain ⟨rfl, rfl, rfl⟩ := hcs
    have hl2 : len ≤ zs.length := by
      rw [hz]
      split
      · exact hl
      · exact Nat.le_refl _
    have hlen : (zs.take len).length = len := by rw [List.length_take]; omega
    refine ⟨zs.take len, hlen.symm, ?_, by omega, fun y hy => ?_, ?_⟩
    · refine Kd.C_of_reads (d := (0 : Int)) (h1 := fun _ => rfl) ⟨rfl, by simp only [maxLen] at hm; omega, fun _ => ⟨x, rfl, fun j hj => ?_⟩⟩
      rw [hlen] at hj
      rw [hcell j (by omega)]
      congr 2
      rw [List.getD_eq_getElem?_getD, List.getD_eq_getElem?_getD, List.getElem?_take_of_lt hj]
    · have := hwz y (List.mem_of_mem_take hy)
      simp only [Lit.wf, IntKind.min, IntKind.max, IntKind.signed, IntKind.bits, Bool.and_eq_true, decide_eq_true_eq] at this
      simp at this
      omega
    · simp only [Prod.mk.injEq] at hx
      rw [hx.1]
      show _ ≤ Rows.uptoBulkAll (Go.ChangeShapes.lits .u8 (zs.take len)) + Rows.uptoBulkAll (Go.ChangeShapes.lits .u8 (zs.drop len)) + 1
      rw [bulkAll_lits]
      omega
def sizesS (l : List ByteArray) : Nat := (l.map fun s => s.size + 1).sum
theorem bulkAll_strs {H : Type} : ∀ l : List ByteArray, Rows.uptoBulkAll (Go.ChangeShapes.strs (H := H) l) = sizesS l
  | [] => rfl
  | s :: r => by
    show Rows.uptoBulk (DataW.lit (.string s.data.toList)) + Rows.uptoBulkAll (Go.ChangeShapes.strs r) = _
    rw [bulkAll_strs r, show Rows.uptoBulk (H := H) (.lit (.string s.data.toList)) = s.data.toList.length + 1 from rfl, Go.Proofs.YtlmpdlmamopbeaaW.PrintWords.data_length]
    simp [sizesS]
/-- A slice of strings that came in. -/
theorem open_strs {H : Type} {enc : TypeId × Value → H} {P : Program} {W : World} {base : Nat} {spare : Nat → Bool} {held : Bool} {t e : TypeId} {a : Option Addr} {len cap : Nat} {d : DataW H} {ps : List MemPlace}
    (hu : P.underlying t = some (.slice e)) (he : P.underlying e = some .string) (hc : P.cellsOf e = 1) (h : DataW.Trod enc P W base spare held t (.slice a len cap) d ps) :
    ∃ l : List ByteArray, len = l.length ∧ Kd.C Kd.string W a l.length l ∧ l.length ≤ cap ∧ (∀ s ∈ l, s.size ≤ maxLen) ∧ sizesS l ≤ Rows.uptoBulk d := by
  obtain ⟨fuel, hf⟩ := h
  rcases Go.ChangeShapes.open_strings hu he hc hf with ⟨hcs, hx⟩ | ⟨x, l, c, zs, hcs, _, hl, hm, hz, hx, hcell, hwz⟩
  · simp [Value.cells] at hcs
    obtain ⟨rfl, rfl, rfl⟩ := hcs
    exact ⟨[], rfl, Kd.C_nil _ _, Nat.le_refl _, fun _ h => absurd h (by simp), Nat.zero_le _⟩
  · simp [Value.cells] at hcs
    obtain ⟨rfl, rfl, rfl⟩ := hcs
    have hl2 : len ≤ zs.length := by
      rw [hz]
      split
      · exact hl
      · exact Nat.le_refl _
    have hlen : (zs.take len).length = len := by rw [List.length_take]; omega
    refine ⟨zs.take len, hlen.symm, ?_, by omega, fun y hy => hwz y (List.mem_of_mem_take hy), ?_⟩
    · refine Kd.C_of_reads (enc := Value.string) (d := ByteArray.empty) (h1 := fun _ => rfl) ⟨rfl, by simp only [maxLen] at hm; omega, fun _ => ⟨x, rfl, fun j hj => ?_⟩⟩
      rw [hlen] at hj
      rw [hcell j (by omega)]
      congr 2
      rw [List.getD_eq_getElem?_getD, List.getD_eq_getElem?_getD, List.getElem?_take_of_lt hj]
    · simp only [Prod.mk.injEq] at hx
      rw [hx.1]
      show _ ≤ Rows.uptoBulkAll (Go.ChangeShapes.strs (zs.take len)) + Rows.uptoBulkAll (Go.ChangeShapes.strs (zs.drop len)) + 1
      have := bulkAll_strs (H := H) (zs.take len)
      omega
/-- How large each of two, three arguments is. -/
theorem small_mem {H : Type} {ds : List (DataW H)} (h : Rows.uptoSmall H ds = true) : ∀ d ∈ ds, Rows.uptoBulk d ≤ 1048576 := by
  have h1 : Rows.uptoBulkAll ds ≤ 1048576 := of_decide_eq_true h
  clear h
  induction ds with
  | nil => exact fun d hd => absurd hd (by simp)
  | cons x r ih =>
    have h2 : Rows.uptoBulk x + Rows.uptoBulkAll r ≤ 1048576 := h1
    intro d hd
    rcases List.mem_cons.1 hd with rfl | hd
    · omega
    · exact ih (by omega) d hd
theorem str_small {H : Type} {s : ByteArray} (h : Rows.uptoBulk (H := H) (.lit (.string s.data.toList)) ≤ 1048576) : s.size ≤ 1048576 := by
  have h1 : s.data.toList.length + 1 ≤ 1048576 := h
  rw [Go.Proofs.YtlmpdlmamopbeaaW.PrintWords.data_length] at h1
  omega
end Go.Proofs.Ytlmpdlmamopbeaa.P
