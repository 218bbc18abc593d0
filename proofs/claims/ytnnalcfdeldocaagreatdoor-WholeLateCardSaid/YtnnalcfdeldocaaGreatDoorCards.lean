/-
  DERIVED. GIVEN WITH THE SEED: THE CARDS: each row of YtnnalcfdeldocaaGreatDoorRows.lean that lists a variable, with what it lists TIED to the program's text (the seventh form; the later family's looks); each row that meets fmt, with fmt's text TOLD by the authors' own Lean function (tested against real Go, not proved from fmt's source: count such statements apart). THE CARD IS WHAT COUNTS. Prove the row's statement (the work); the ties are given (YtnnalcfdeldocaaGreatDoorTie.lean); close each card by the builder's one call (the guide's Derived/Test/ToyasCard.lean, 'card_holds'). Laid BY PROGRAM, IN A SANDBOX (cutbox-door.mjs). By AI agents, Wed Nov 11 2026. No macro, syntax, notation, axiom, sorry.
-/
import Derived.Test.YtnnalcfdeldocaaGreatDoorRows
import GoSem.ClaimSeven
namespace Go.Proofs.YtnnalcfdeldocaaGreatDoor
namespace Rows

/-- THE TIED CARD OF 'panniertop.WholeLate'. -/
def wholeLateCard : Claim7 := { stood := { row := wholeLateRow, standIns := [], harness := (true, "9cfeef1ef2a2dd5e8525ca65c26f922a1023fb751f012cd2256ca6296dbe6fd8"), looks := true }, kinds := [], alts := [], laidByText := true, laidKinds := [.sentinel, .sentinel, .data, .data, .data, .pinned, .data], laidTests := true, laidLooks := .later }
def WholeLateCardSaid : Prop := Claim7.holds Tryz.pinned (.plain (OpenSpec.ofChange wholeLateSpec)) wholeLateCard

/-- THE TIED CARD OF 'panniertop.TopNames'. -/
def topNamesCard : Claim7 := { stood := { row := topNamesRow, standIns := [], harness := (true, "9cfeef1ef2a2dd5e8525ca65c26f922a1023fb751f012cd2256ca6296dbe6fd8"), looks := true }, kinds := [], alts := [], laidByText := true, laidKinds := [.sentinel, .sentinel, .data, .data, .data, .pinned, .data], laidTests := true, laidLooks := .later }
def TopNamesCardSaid : Prop := Claim7.holds Tryz.pinned (.plain (OpenSpec.ofChange topNamesSpec)) topNamesCard

/-- THE SECOND FORM's CARD OF 'panniertop.WholeLate'. -/
def wholeLateUptoCard : Claim7 := { stood := { row := wholeLateUptoRow, standIns := [], harness := (true, "9cfeef1ef2a2dd5e8525ca65c26f922a1023fb751f012cd2256ca6296dbe6fd8"), looks := true }, kinds := [], alts := [], laidByText := true, laidKinds := [.sentinel, .sentinel, .data, .data, .data, .pinned, .data], laidTests := true, laidLooks := .later }
def WholeLateUptoCardSaid : Prop := Claim7.holds Tryz.pinned (.plain (OpenSpec.upto wholeLateSpec)) wholeLateUptoCard

/-- THE SECOND FORM's CARD OF 'panniertop.TopNames'. -/
def topNamesUptoCard : Claim7 := { stood := { row := topNamesUptoRow, standIns := [], harness := (true, "9cfeef1ef2a2dd5e8525ca65c26f922a1023fb751f012cd2256ca6296dbe6fd8"), looks := true }, kinds := [], alts := [], laidByText := true, laidKinds := [.sentinel, .sentinel, .data, .data, .data, .pinned, .data], laidTests := true, laidLooks := .later }
def TopNamesUptoCardSaid : Prop := Claim7.holds Tryz.pinned (.plain (OpenSpec.upto topNamesSpec)) topNamesUptoCard
end Rows
end Go.Proofs.YtnnalcfdeldocaaGreatDoor
