/-
  No cell of these rows narrows 'for every input' (looked for: loops, veiled, ifaces, maps, wideKeys, modest, calm, conditions, laid).
  DERIVED. THE GIVEN ROWS OF THIS SEAT. 4 by the template 'for every input the law returns true; each argument reads behind the call as it read before'; 0 by the template 'total and deterministic' (their statements: YtmijalplheoekaaTotals.lean).
  GIVEN WITH THE SEED: the statements are not yours to turn. If you find one false, say at which input.
  Laid BY PROGRAM, IN A SANDBOX (cutbox-rows.mjs): the forced cells as the released guide's own fill.sh prints them over the translation 3536a7bc393b7241… (all of the seat's roots in one cut). By AI agents, Wed Nov 11 2026. No macro, syntax, notation, axiom, sorry.
-/
import Derived.Test.YtmijalplheoekaaChecked
import GoSem.Claim
import GoSem.ClaimJoined
import GoSem.ClaimMapViews
import Derived.JoinedTies
import Derived.KernelRfl
namespace Go.Proofs.Ytmijalplheoekaa
/- THE CELL 'sum', in the pinned program and in every row, IS THE sha256 OF THE DUMP (.gsa) THAT YtmijalplheoekaaProg.lean LOADS. Nothing in Lean hashes anything: it is a label: what it is worth is what the hold of that sum in a sandbox is worth. -/
noncomputable def Try.pinned : Pinned := { name := "ytmijalplheoekaa", sum := "3536a7bc393b7241961e34ecb90e946ba10948240fb48b326bd3333b65be6226", checked := Try.checked }
namespace Rows
def none {H : Type} : Left H := { results := [], args := [] }

/-- 'pannierlaw25.LinRows': WHATEVER THE INPUT: true; the input reads as it did. -/
def linRowsSpec : ChangeSpec := { name := "linRows", fn := fun _ => fun
  | [d1, d2] => { results := [.lit (.bool true)], args := [d1, d2] }
  | _ => none }
def linRowsRow : OpenClaim := { program := "ytmijalplheoekaa", sum := "3536a7bc393b7241961e34ecb90e946ba10948240fb48b326bd3333b65be6226", func := "pannier/pannierlaw25.LinRows", spec := "linRows", unfollowed := true, recurses := true, apart := false }
def LinRowsSaid : Prop := linRowsRow.holds Try.pinned (OpenSpec.ofChange linRowsSpec)

/-- ITS FALSE NEIGHBOUR: 'it returns false'. Refute it at one input. -/
def linRowsWrong : ChangeSpec := { name := "linRows", fn := fun _ => fun
  | [d1, d2] => { results := [.lit (.bool false)], args := [d1, d2] }
  | _ => none }
def LinRowsWrongFalsely : Prop := linRowsRow.holds Try.pinned (OpenSpec.ofChange linRowsWrong)

/-- 'pannierlaw25.LinFewer': WHATEVER THE INPUT: true; the input reads as it did. -/
def linFewerSpec : ChangeSpec := { name := "linFewer", fn := fun _ => fun
  | [d1, d2, d3] => { results := [.lit (.bool true)], args := [d1, d2, d3] }
  | _ => none }
def linFewerRow : OpenClaim := { program := "ytmijalplheoekaa", sum := "3536a7bc393b7241961e34ecb90e946ba10948240fb48b326bd3333b65be6226", func := "pannier/pannierlaw25.LinFewer", spec := "linFewer", unfollowed := true, recurses := true, apart := false }
def LinFewerSaid : Prop := linFewerRow.holds Try.pinned (OpenSpec.ofChange linFewerSpec)

/-- ITS FALSE NEIGHBOUR: 'it returns false'. Refute it at one input. -/
def linFewerWrong : ChangeSpec := { name := "linFewer", fn := fun _ => fun
  | [d1, d2, d3] => { results := [.lit (.bool false)], args := [d1, d2, d3] }
  | _ => none }
def LinFewerWrongFalsely : Prop := linFewerRow.holds Try.pinned (OpenSpec.ofChange linFewerWrong)

/-- 'pannierlaw25.LinSerial': WHATEVER THE INPUT: true; the input reads as it did. -/
def linSerialSpec : ChangeSpec := { name := "linSerial", fn := fun _ => fun
  | [d] => { results := [.lit (.bool true)], args := [d] }
  | _ => none }
def linSerialRow : OpenClaim := { program := "ytmijalplheoekaa", sum := "3536a7bc393b7241961e34ecb90e946ba10948240fb48b326bd3333b65be6226", func := "pannier/pannierlaw25.LinSerial", spec := "linSerial", unfollowed := true, recurses := true, apart := false }
def LinSerialSaid : Prop := linSerialRow.holds Try.pinned (OpenSpec.ofChange linSerialSpec)

/-- ITS FALSE NEIGHBOUR: 'it returns false'. Refute it at one input. -/
def linSerialWrong : ChangeSpec := { name := "linSerial", fn := fun _ => fun
  | [d] => { results := [.lit (.bool false)], args := [d] }
  | _ => none }
def LinSerialWrongFalsely : Prop := linSerialRow.holds Try.pinned (OpenSpec.ofChange linSerialWrong)

/-- 'pannierlaw25.LinLooser': WHATEVER THE INPUT: true; the input reads as it did. -/
def linLooserSpec : ChangeSpec := { name := "linLooser", fn := fun _ => fun
  | [d1, d2, d3, d4] => { results := [.lit (.bool true)], args := [d1, d2, d3, d4] }
  | _ => none }
def linLooserRow : OpenClaim := { program := "ytmijalplheoekaa", sum := "3536a7bc393b7241961e34ecb90e946ba10948240fb48b326bd3333b65be6226", func := "pannier/pannierlaw25.LinLooser", spec := "linLooser", unfollowed := true, recurses := true, apart := false }
def LinLooserSaid : Prop := linLooserRow.holds Try.pinned (OpenSpec.ofChange linLooserSpec)

/-- ITS FALSE NEIGHBOUR: 'it returns false'. Refute it at one input. -/
def linLooserWrong : ChangeSpec := { name := "linLooser", fn := fun _ => fun
  | [d1, d2, d3, d4] => { results := [.lit (.bool false)], args := [d1, d2, d3, d4] }
  | _ => none }
def LinLooserWrongFalsely : Prop := linLooserRow.holds Try.pinned (OpenSpec.ofChange linLooserWrong)

/- THE SECOND FORM. 'bulk': how many values and letters a reading holds, each counted each time it is reached (what is shared counts as often as it is met; a slice's spare places count too). A statement '..UptoSaid' is the law's where the arguments, and the package variables that the reading takes, are together of bulk at most 1048576: NARROWER than '..Said'. Prove '..Said' where nothing that the law and all that it calls make is longer than what came in: it says more and counts as full. Else prove '..UptoSaid'. A law counts once. -/
mutual
def uptoBulk {H : Type} : DataW H → Nat
  | .lit (.string bytes) => bytes.length + 1
  | .lit _ => 1
  | .nil => 1
  | .ptr d => uptoBulk d + 1
  | .slice elems spare => uptoBulkAll elems + uptoBulkAll spare + 1
  | .agg parts => uptoBulkAll parts + 1
  | .iface _ d => uptoBulk d + 1
  | .map entries => uptoBulkEntries entries + 1
  | .held _ => 1
def uptoBulkAll {H : Type} : List (DataW H) → Nat
  | [] => 0
  | d :: r => uptoBulk d + uptoBulkAll r
def uptoBulkEntries {H : Type} : List (Lit × DataW H) → Nat
  | [] => 0
  | x :: r => uptoBulkEntry x + uptoBulkEntries r
def uptoBulkEntry {H : Type} : Lit × DataW H → Nat
  | (.string bytes, d) => bytes.length + uptoBulk d + 1
  | (_, d) => uptoBulk d + 1
 end
def uptoSmall : (H : Type) → List (DataW H) → Bool := fun _ ds => decide (uptoBulkAll ds ≤ 1048576)
def OpenSpec.upto (s : _root_.Go.ChangeSpec) : _root_.Go.OpenSpec := { _root_.Go.OpenSpec.ofChange s with cond := some uptoSmall }

/-- 'pannierlaw25.LinRows', WHERE WHAT IT READS IS OF BULK AT MOST 1048576: true; the input reads as it did. -/
def linRowsUptoRow : OpenClaim := { program := "ytmijalplheoekaa", sum := "3536a7bc393b7241961e34ecb90e946ba10948240fb48b326bd3333b65be6226", func := "pannier/pannierlaw25.LinRows", spec := "linRows", unfollowed := true, recurses := true, apart := false, narrowed := true }
def LinRowsUptoSaid : Prop := linRowsUptoRow.holds Try.pinned (OpenSpec.upto linRowsSpec)

/-- 'pannierlaw25.LinFewer', WHERE WHAT IT READS IS OF BULK AT MOST 1048576: true; the input reads as it did. -/
def linFewerUptoRow : OpenClaim := { program := "ytmijalplheoekaa", sum := "3536a7bc393b7241961e34ecb90e946ba10948240fb48b326bd3333b65be6226", func := "pannier/pannierlaw25.LinFewer", spec := "linFewer", unfollowed := true, recurses := true, apart := false, narrowed := true }
def LinFewerUptoSaid : Prop := linFewerUptoRow.holds Try.pinned (OpenSpec.upto linFewerSpec)

/-- 'pannierlaw25.LinSerial', WHERE WHAT IT READS IS OF BULK AT MOST 1048576: true; the input reads as it did. -/
def linSerialUptoRow : OpenClaim := { program := "ytmijalplheoekaa", sum := "3536a7bc393b7241961e34ecb90e946ba10948240fb48b326bd3333b65be6226", func := "pannier/pannierlaw25.LinSerial", spec := "linSerial", unfollowed := true, recurses := true, apart := false, narrowed := true }
def LinSerialUptoSaid : Prop := linSerialUptoRow.holds Try.pinned (OpenSpec.upto linSerialSpec)

/-- 'pannierlaw25.LinLooser', WHERE WHAT IT READS IS OF BULK AT MOST 1048576: true; the input reads as it did. -/
def linLooserUptoRow : OpenClaim := { program := "ytmijalplheoekaa", sum := "3536a7bc393b7241961e34ecb90e946ba10948240fb48b326bd3333b65be6226", func := "pannier/pannierlaw25.LinLooser", spec := "linLooser", unfollowed := true, recurses := true, apart := false, narrowed := true }
def LinLooserUptoSaid : Prop := linLooserUptoRow.holds Try.pinned (OpenSpec.upto linLooserSpec)

end Rows
end Go.Proofs.Ytmijalplheoekaa
