/-
  No cell of these rows narrows 'for every input' (looked for: loops, veiled, ifaces, maps, wideKeys, modest, calm, conditions, laid).
  DERIVED. THE GIVEN ROWS OF THIS SEAT. 6 by the template 'for every input the law returns true; each argument reads behind the call as it read before'; 0 by the template 'total and deterministic' (their statements: YtnmjhagmobcdkaaTotals.lean).
  GIVEN WITH THE SEED: the statements are not yours to turn. If you find one false, say at which input.
  Laid BY PROGRAM, IN A SANDBOX (cutbox-rows.mjs): the forced cells as the released guide's own fill.sh prints them over the translation 6568351c4bbfcbb4… (all of the seat's roots in one cut). By AI agents, Wed Nov 11 2026. No macro, syntax, notation, axiom, sorry.
-/
import Derived.Test.YtnmjhagmobcdkaaChecked
import GoSem.Claim
import GoSem.ClaimJoined
import GoSem.ClaimMapViews
import Derived.JoinedTies
import Derived.KernelRfl
namespace Go.Proofs.Ytnmjhagmobcdkaa
/- THE CELL 'sum', in the pinned program and in every row, IS THE sha256 OF THE DUMP (.gsa) THAT YtnmjhagmobcdkaaProg.lean LOADS. Nothing in Lean hashes anything: it is a label: what it is worth is what the hold of that sum in a sandbox is worth. -/
noncomputable def Try.pinned : Pinned := { name := "ytnmjhagmobcdkaa", sum := "6568351c4bbfcbb4ecc4074cac98adac5b8a67c41a5856c7692f0e7f8ab869a4", checked := Try.checked }
namespace Rows
def none {H : Type} : Left H := { results := [], args := [] }

/-- 'pannierlaw08.VvPairs': WHATEVER THE INPUT: true; the input reads as it did. -/
def vvPairsSpec : ChangeSpec := { name := "vvPairs", fn := fun _ => fun
  | [d1, d2] => { results := [.lit (.bool true)], args := [d1, d2] }
  | _ => none }
def vvPairsRow : OpenClaim := { program := "ytnmjhagmobcdkaa", sum := "6568351c4bbfcbb4ecc4074cac98adac5b8a67c41a5856c7692f0e7f8ab869a4", func := "pannier/pannierlaw08.VvPairs", spec := "vvPairs", unfollowed := true, recurses := true, apart := false }
def VvPairsSaid : Prop := vvPairsRow.holds Try.pinned (OpenSpec.ofChange vvPairsSpec)

/-- ITS FALSE NEIGHBOUR: 'it returns false'. Refute it at one input. -/
def vvPairsWrong : ChangeSpec := { name := "vvPairs", fn := fun _ => fun
  | [d1, d2] => { results := [.lit (.bool false)], args := [d1, d2] }
  | _ => none }
def VvPairsWrongFalsely : Prop := vvPairsRow.holds Try.pinned (OpenSpec.ofChange vvPairsWrong)

/-- 'pannierlaw08.VvOrder': WHATEVER THE INPUT: true; the input reads as it did. -/
def vvOrderSpec : ChangeSpec := { name := "vvOrder", fn := fun _ => fun
  | [d1, d2, d3] => { results := [.lit (.bool true)], args := [d1, d2, d3] }
  | _ => none }
def vvOrderRow : OpenClaim := { program := "ytnmjhagmobcdkaa", sum := "6568351c4bbfcbb4ecc4074cac98adac5b8a67c41a5856c7692f0e7f8ab869a4", func := "pannier/pannierlaw08.VvOrder", spec := "vvOrder", unfollowed := true, recurses := true, apart := false }
def VvOrderSaid : Prop := vvOrderRow.holds Try.pinned (OpenSpec.ofChange vvOrderSpec)

/-- ITS FALSE NEIGHBOUR: 'it returns false'. Refute it at one input. -/
def vvOrderWrong : ChangeSpec := { name := "vvOrder", fn := fun _ => fun
  | [d1, d2, d3] => { results := [.lit (.bool false)], args := [d1, d2, d3] }
  | _ => none }
def VvOrderWrongFalsely : Prop := vvOrderRow.holds Try.pinned (OpenSpec.ofChange vvOrderWrong)

/-- 'pannierlaw08.VvMerges': WHATEVER THE INPUT: true; the input reads as it did. -/
def vvMergesSpec : ChangeSpec := { name := "vvMerges", fn := fun _ => fun
  | [d1, d2, d3] => { results := [.lit (.bool true)], args := [d1, d2, d3] }
  | _ => none }
def vvMergesRow : OpenClaim := { program := "ytnmjhagmobcdkaa", sum := "6568351c4bbfcbb4ecc4074cac98adac5b8a67c41a5856c7692f0e7f8ab869a4", func := "pannier/pannierlaw08.VvMerges", spec := "vvMerges", unfollowed := true, recurses := true, apart := false }
def VvMergesSaid : Prop := vvMergesRow.holds Try.pinned (OpenSpec.ofChange vvMergesSpec)

/-- ITS FALSE NEIGHBOUR: 'it returns false'. Refute it at one input. -/
def vvMergesWrong : ChangeSpec := { name := "vvMerges", fn := fun _ => fun
  | [d1, d2, d3] => { results := [.lit (.bool false)], args := [d1, d2, d3] }
  | _ => none }
def VvMergesWrongFalsely : Prop := vvMergesRow.holds Try.pinned (OpenSpec.ofChange vvMergesWrong)

/-- 'pannierlaw08.VvDots': WHATEVER THE INPUT: true; the input reads as it did. -/
def vvDotsSpec : ChangeSpec := { name := "vvDots", fn := fun _ => fun
  | [d1, d2, d3] => { results := [.lit (.bool true)], args := [d1, d2, d3] }
  | _ => none }
def vvDotsRow : OpenClaim := { program := "ytnmjhagmobcdkaa", sum := "6568351c4bbfcbb4ecc4074cac98adac5b8a67c41a5856c7692f0e7f8ab869a4", func := "pannier/pannierlaw08.VvDots", spec := "vvDots", unfollowed := true, recurses := true, apart := false }
def VvDotsSaid : Prop := vvDotsRow.holds Try.pinned (OpenSpec.ofChange vvDotsSpec)

/-- ITS FALSE NEIGHBOUR: 'it returns false'. Refute it at one input. -/
def vvDotsWrong : ChangeSpec := { name := "vvDots", fn := fun _ => fun
  | [d1, d2, d3] => { results := [.lit (.bool false)], args := [d1, d2, d3] }
  | _ => none }
def VvDotsWrongFalsely : Prop := vvDotsRow.holds Try.pinned (OpenSpec.ofChange vvDotsWrong)

/-- 'pannierlaw08.VvAsks': WHATEVER THE INPUT: true; the input reads as it did. -/
def vvAsksSpec : ChangeSpec := { name := "vvAsks", fn := fun _ => fun
  | [d1, d2, d3, d4] => { results := [.lit (.bool true)], args := [d1, d2, d3, d4] }
  | _ => none }
def vvAsksRow : OpenClaim := { program := "ytnmjhagmobcdkaa", sum := "6568351c4bbfcbb4ecc4074cac98adac5b8a67c41a5856c7692f0e7f8ab869a4", func := "pannier/pannierlaw08.VvAsks", spec := "vvAsks", unfollowed := true, recurses := true, apart := false }
def VvAsksSaid : Prop := vvAsksRow.holds Try.pinned (OpenSpec.ofChange vvAsksSpec)

/-- ITS FALSE NEIGHBOUR: 'it returns false'. Refute it at one input. -/
def vvAsksWrong : ChangeSpec := { name := "vvAsks", fn := fun _ => fun
  | [d1, d2, d3, d4] => { results := [.lit (.bool false)], args := [d1, d2, d3, d4] }
  | _ => none }
def VvAsksWrongFalsely : Prop := vvAsksRow.holds Try.pinned (OpenSpec.ofChange vvAsksWrong)

/-- 'pannierlaw08.VvGrows': WHATEVER THE INPUT: true; the input reads as it did. -/
def vvGrowsSpec : ChangeSpec := { name := "vvGrows", fn := fun _ => fun
  | [d1, d2] => { results := [.lit (.bool true)], args := [d1, d2] }
  | _ => none }
def vvGrowsRow : OpenClaim := { program := "ytnmjhagmobcdkaa", sum := "6568351c4bbfcbb4ecc4074cac98adac5b8a67c41a5856c7692f0e7f8ab869a4", func := "pannier/pannierlaw08.VvGrows", spec := "vvGrows", unfollowed := true, recurses := true, apart := false }
def VvGrowsSaid : Prop := vvGrowsRow.holds Try.pinned (OpenSpec.ofChange vvGrowsSpec)

/-- ITS FALSE NEIGHBOUR: 'it returns false'. Refute it at one input. -/
def vvGrowsWrong : ChangeSpec := { name := "vvGrows", fn := fun _ => fun
  | [d1, d2] => { results := [.lit (.bool false)], args := [d1, d2] }
  | _ => none }
def VvGrowsWrongFalsely : Prop := vvGrowsRow.holds Try.pinned (OpenSpec.ofChange vvGrowsWrong)

/- THE SECOND FORM. 'bulk': how many values and letters a reading holds, each counted each time it is reached (what is shared counts as often as it is met; a slice's spare places count too). A statement '..UptoSaid' is the law's where the arguments, and the package variables that the reading takes, are together of bulk at most 1048576: NARROWER than '..Said'. Prove '..Said' where nothing that the law and all that it calls make is longer than what came in: it says more and counts as full. Else prove '..UptoSaid'. A law counts once. -/
mutual
def uptoBulk {H : Type} : DataW H → Nat
  | .lit (.string bytes) => bytes.length + 1
  | .lit _ => 1
  | .nil => 1
  | .ptr d => uptoBulk d + 1
  | .slice elems spare => uptoBulkAll elems + uptoBulkAll spare + 1
  | .agg parts => uptoBulkAll parts + 1
  | .iface _ d => uptoBulk d + 1
  | .map entries => uptoBulkEntries entries + 1
  | .held _ => 1
def uptoBulkAll {H : Type} : List (DataW H) → Nat
  | [] => 0
  | d :: r => uptoBulk d + uptoBulkAll r
def uptoBulkEntries {H : Type} : List (Lit × DataW H) → Nat
  | [] => 0
  | x :: r => uptoBulkEntry x + uptoBulkEntries r
def uptoBulkEntry {H : Type} : Lit × DataW H → Nat
  | (.string bytes, d) => bytes.length + uptoBulk d + 1
  | (_, d) => uptoBulk d + 1
 end
def uptoSmall : (H : Type) → List (DataW H) → Bool := fun _ ds => decide (uptoBulkAll ds ≤ 1048576)
def OpenSpec.upto (s : _root_.Go.ChangeSpec) : _root_.Go.OpenSpec := { _root_.Go.OpenSpec.ofChange s with cond := some uptoSmall }

/-- 'pannierlaw08.VvPairs', WHERE WHAT IT READS IS OF BULK AT MOST 1048576: true; the input reads as it did. -/
def vvPairsUptoRow : OpenClaim := { program := "ytnmjhagmobcdkaa", sum := "6568351c4bbfcbb4ecc4074cac98adac5b8a67c41a5856c7692f0e7f8ab869a4", func := "pannier/pannierlaw08.VvPairs", spec := "vvPairs", unfollowed := true, recurses := true, apart := false, narrowed := true }
def VvPairsUptoSaid : Prop := vvPairsUptoRow.holds Try.pinned (OpenSpec.upto vvPairsSpec)

/-- 'pannierlaw08.VvOrder', WHERE WHAT IT READS IS OF BULK AT MOST 1048576: true; the input reads as it did. -/
def vvOrderUptoRow : OpenClaim := { program := "ytnmjhagmobcdkaa", sum := "6568351c4bbfcbb4ecc4074cac98adac5b8a67c41a5856c7692f0e7f8ab869a4", func := "pannier/pannierlaw08.VvOrder", spec := "vvOrder", unfollowed := true, recurses := true, apart := false, narrowed := true }
def VvOrderUptoSaid : Prop := vvOrderUptoRow.holds Try.pinned (OpenSpec.upto vvOrderSpec)

/-- 'pannierlaw08.VvMerges', WHERE WHAT IT READS IS OF BULK AT MOST 1048576: true; the input reads as it did. -/
def vvMergesUptoRow : OpenClaim := { program := "ytnmjhagmobcdkaa", sum := "6568351c4bbfcbb4ecc4074cac98adac5b8a67c41a5856c7692f0e7f8ab869a4", func := "pannier/pannierlaw08.VvMerges", spec := "vvMerges", unfollowed := true, recurses := true, apart := false, narrowed := true }
def VvMergesUptoSaid : Prop := vvMergesUptoRow.holds Try.pinned (OpenSpec.upto vvMergesSpec)

/-- 'pannierlaw08.VvDots', WHERE WHAT IT READS IS OF BULK AT MOST 1048576: true; the input reads as it did. -/
def vvDotsUptoRow : OpenClaim := { program := "ytnmjhagmobcdkaa", sum := "6568351c4bbfcbb4ecc4074cac98adac5b8a67c41a5856c7692f0e7f8ab869a4", func := "pannier/pannierlaw08.VvDots", spec := "vvDots", unfollowed := true, recurses := true, apart := false, narrowed := true }
def VvDotsUptoSaid : Prop := vvDotsUptoRow.holds Try.pinned (OpenSpec.upto vvDotsSpec)

/-- 'pannierlaw08.VvAsks', WHERE WHAT IT READS IS OF BULK AT MOST 1048576: true; the input reads as it did. -/
def vvAsksUptoRow : OpenClaim := { program := "ytnmjhagmobcdkaa", sum := "6568351c4bbfcbb4ecc4074cac98adac5b8a67c41a5856c7692f0e7f8ab869a4", func := "pannier/pannierlaw08.VvAsks", spec := "vvAsks", unfollowed := true, recurses := true, apart := false, narrowed := true }
def VvAsksUptoSaid : Prop := vvAsksUptoRow.holds Try.pinned (OpenSpec.upto vvAsksSpec)

/-- 'pannierlaw08.VvGrows', WHERE WHAT IT READS IS OF BULK AT MOST 1048576: true; the input reads as it did. -/
def vvGrowsUptoRow : OpenClaim := { program := "ytnmjhagmobcdkaa", sum := "6568351c4bbfcbb4ecc4074cac98adac5b8a67c41a5856c7692f0e7f8ab869a4", func := "pannier/pannierlaw08.VvGrows", spec := "vvGrows", unfollowed := true, recurses := true, apart := false, narrowed := true }
def VvGrowsUptoSaid : Prop := vvGrowsUptoRow.holds Try.pinned (OpenSpec.upto vvGrowsSpec)

end Rows
end Go.Proofs.Ytnmjhagmobcdkaa
