/- The card: the program starts no goroutine. -/
import Derived.Test.YtnnalcfdeldocaaGreatDoorCards
import Derived.JoinedOf
import Derived.SevenTiedAt
import Derived.KernelRfl
namespace Go.Proofs.YtnnalcfdeldocaaGreatDoor.X
open Go
theorem nogo : Tryz.prog.funcs.any Func.goes = false := by kernel_rfl
theorem goes_none {P : Program} (h : P.funcs.any Func.goes = false) (name : String) : P.goesAt .entering name = false := by
  have h1 : ∀ g : Nat, (P.funcs[g]?).any Func.goes = false := fun g => by
    cases q : P.funcs[g]? with
    | none => rfl
    | some fn =>
      rw [Array.any_eq_false'] at h
      have := h fn (Array.mem_of_getElem? q)
      simpa using this
  have h2 : ∀ f, P.goes f = false := fun f => by
    unfold Program.goes
    rw [h, Bool.and_false, Bool.or_false, List.any_eq_false]
    intro g _
    rw [h1 g]
    simp
  unfold Program.goesAt Program.goesFrom
  cases P.funcNamed name with
  | none => rfl
  | some f => simp [h2 f]
theorem card_goes : false = Rows.wholeLateRow.goesBy Tryz.pinned.checked.prog := (goes_none (P := Tryz.prog) nogo "pannier/panniertop.WholeLate").symm
end Go.Proofs.YtnnalcfdeldocaaGreatDoor.X
