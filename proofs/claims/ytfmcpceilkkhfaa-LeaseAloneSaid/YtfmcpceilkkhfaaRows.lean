/-
  No cell of these rows narrows 'for every input' (looked for: loops, veiled, ifaces, maps, wideKeys, modest, calm, conditions, laid).
  DERIVED. THE GIVEN ROWS OF THIS SEAT. 9 by the template 'for every input the law returns true; each argument reads behind the call as it read before'; 0 by the template 'total and deterministic' (their statements: YtfmcpceilkkhfaaTotals.lean).
  GIVEN WITH THE SEED: the statements are not yours to turn. If you find one false, say at which input.
  Laid BY PROGRAM, IN A SANDBOX (cutbox-rows.mjs): the forced cells as the released guide's own fill.sh prints them over the translation b60a9b730a73b6a1… (all of the seat's roots in one cut). By AI agents, Wed Nov 11 2026. No macro, syntax, notation, axiom, sorry.
-/
import Derived.Test.YtfmcpceilkkhfaaChecked
import GoSem.Claim
import GoSem.ClaimJoined
import GoSem.ClaimMapViews
import Derived.JoinedTies
import Derived.KernelRfl
namespace Go.Proofs.Ytfmcpceilkkhfaa
/- THE CELL 'sum', in the pinned program and in every row, IS THE sha256 OF THE DUMP (.gsa) THAT YtfmcpceilkkhfaaProg.lean LOADS. Nothing in Lean hashes anything: it is a label: what it is worth is what the hold of that sum in a sandbox is worth. -/
noncomputable def Try.pinned : Pinned := { name := "ytfmcpceilkkhfaa", sum := "b60a9b730a73b6a1feddb7ab95f96a14b99c13163574983553ae06625a6e03e6", checked := Try.checked }
namespace Rows
def none {H : Type} : Left H := { results := [], args := [] }

/-- 'pannierlaw21.LeaseEnds': WHATEVER THE INPUT: true; the input reads as it did. -/
def leaseEndsSpec : ChangeSpec := { name := "leaseEnds", fn := fun _ => fun
  | [d1, d2, d3, d4, d5, d6] => { results := [.lit (.bool true)], args := [d1, d2, d3, d4, d5, d6] }
  | _ => none }
def leaseEndsRow : OpenClaim := { program := "ytfmcpceilkkhfaa", sum := "b60a9b730a73b6a1feddb7ab95f96a14b99c13163574983553ae06625a6e03e6", func := "pannier/pannierlaw21.LeaseEnds", spec := "leaseEnds", apart := false }
def LeaseEndsSaid : Prop := leaseEndsRow.holds Try.pinned (OpenSpec.ofChange leaseEndsSpec)

/-- ITS FALSE NEIGHBOUR: 'it returns false'. Refute it at one input. -/
def leaseEndsWrong : ChangeSpec := { name := "leaseEnds", fn := fun _ => fun
  | [d1, d2, d3, d4, d5, d6] => { results := [.lit (.bool false)], args := [d1, d2, d3, d4, d5, d6] }
  | _ => none }
def LeaseEndsWrongFalsely : Prop := leaseEndsRow.holds Try.pinned (OpenSpec.ofChange leaseEndsWrong)

/-- 'pannierlaw05.ClockBounds': WHATEVER THE INPUT: true; the input reads as it did. -/
def clockBoundsSpec : ChangeSpec := { name := "clockBounds", fn := fun _ => fun
  | [d1, d2, d3] => { results := [.lit (.bool true)], args := [d1, d2, d3] }
  | _ => none }
def clockBoundsRow : OpenClaim := { program := "ytfmcpceilkkhfaa", sum := "b60a9b730a73b6a1feddb7ab95f96a14b99c13163574983553ae06625a6e03e6", func := "pannier/pannierlaw05.ClockBounds", spec := "clockBounds", unfollowed := true, recurses := true, apart := false }
def ClockBoundsSaid : Prop := clockBoundsRow.holds Try.pinned (OpenSpec.ofChange clockBoundsSpec)

/-- ITS FALSE NEIGHBOUR: 'it returns false'. Refute it at one input. -/
def clockBoundsWrong : ChangeSpec := { name := "clockBounds", fn := fun _ => fun
  | [d1, d2, d3] => { results := [.lit (.bool false)], args := [d1, d2, d3] }
  | _ => none }
def ClockBoundsWrongFalsely : Prop := clockBoundsRow.holds Try.pinned (OpenSpec.ofChange clockBoundsWrong)

/-- 'pannierlaw05.ClockTrusts': WHATEVER THE INPUT: true; the input reads as it did. -/
def clockTrustsSpec : ChangeSpec := { name := "clockTrusts", fn := fun _ => fun
  | [d1, d2, d3, d4, d5] => { results := [.lit (.bool true)], args := [d1, d2, d3, d4, d5] }
  | _ => none }
def clockTrustsRow : OpenClaim := { program := "ytfmcpceilkkhfaa", sum := "b60a9b730a73b6a1feddb7ab95f96a14b99c13163574983553ae06625a6e03e6", func := "pannier/pannierlaw05.ClockTrusts", spec := "clockTrusts", unfollowed := true, recurses := true, apart := false }
def ClockTrustsSaid : Prop := clockTrustsRow.holds Try.pinned (OpenSpec.ofChange clockTrustsSpec)

/-- ITS FALSE NEIGHBOUR: 'it returns false'. Refute it at one input. -/
def clockTrustsWrong : ChangeSpec := { name := "clockTrusts", fn := fun _ => fun
  | [d1, d2, d3, d4, d5] => { results := [.lit (.bool false)], args := [d1, d2, d3, d4, d5] }
  | _ => none }
def ClockTrustsWrongFalsely : Prop := clockTrustsRow.holds Try.pinned (OpenSpec.ofChange clockTrustsWrong)

/-- 'pannierlaw05.ClockWider': WHATEVER THE INPUT: true; the input reads as it did. -/
def clockWiderSpec : ChangeSpec := { name := "clockWider", fn := fun _ => fun
  | [d1, d2, d3, d4, d5] => { results := [.lit (.bool true)], args := [d1, d2, d3, d4, d5] }
  | _ => none }
def clockWiderRow : OpenClaim := { program := "ytfmcpceilkkhfaa", sum := "b60a9b730a73b6a1feddb7ab95f96a14b99c13163574983553ae06625a6e03e6", func := "pannier/pannierlaw05.ClockWider", spec := "clockWider", unfollowed := true, recurses := true, apart := false }
def ClockWiderSaid : Prop := clockWiderRow.holds Try.pinned (OpenSpec.ofChange clockWiderSpec)

/-- ITS FALSE NEIGHBOUR: 'it returns false'. Refute it at one input. -/
def clockWiderWrong : ChangeSpec := { name := "clockWider", fn := fun _ => fun
  | [d1, d2, d3, d4, d5] => { results := [.lit (.bool false)], args := [d1, d2, d3, d4, d5] }
  | _ => none }
def ClockWiderWrongFalsely : Prop := clockWiderRow.holds Try.pinned (OpenSpec.ofChange clockWiderWrong)

/-- 'pannierlaw05.ClockTicks': WHATEVER THE INPUT: true; the input reads as it did. -/
def clockTicksSpec : ChangeSpec := { name := "clockTicks", fn := fun _ => fun
  | [d1, d2, d3, d4] => { results := [.lit (.bool true)], args := [d1, d2, d3, d4] }
  | _ => none }
def clockTicksRow : OpenClaim := { program := "ytfmcpceilkkhfaa", sum := "b60a9b730a73b6a1feddb7ab95f96a14b99c13163574983553ae06625a6e03e6", func := "pannier/pannierlaw05.ClockTicks", spec := "clockTicks", unfollowed := true, recurses := true, apart := false }
def ClockTicksSaid : Prop := clockTicksRow.holds Try.pinned (OpenSpec.ofChange clockTicksSpec)

/-- ITS FALSE NEIGHBOUR: 'it returns false'. Refute it at one input. -/
def clockTicksWrong : ChangeSpec := { name := "clockTicks", fn := fun _ => fun
  | [d1, d2, d3, d4] => { results := [.lit (.bool false)], args := [d1, d2, d3, d4] }
  | _ => none }
def ClockTicksWrongFalsely : Prop := clockTicksRow.holds Try.pinned (OpenSpec.ofChange clockTicksWrong)

/-- 'pannierlaw05.ClockNobody': WHATEVER THE INPUT: true; the input reads as it did. -/
def clockNobodySpec : ChangeSpec := { name := "clockNobody", fn := fun _ => fun
  | [d1, d2] => { results := [.lit (.bool true)], args := [d1, d2] }
  | _ => none }
def clockNobodyRow : OpenClaim := { program := "ytfmcpceilkkhfaa", sum := "b60a9b730a73b6a1feddb7ab95f96a14b99c13163574983553ae06625a6e03e6", func := "pannier/pannierlaw05.ClockNobody", spec := "clockNobody", unfollowed := true, recurses := true, apart := false }
def ClockNobodySaid : Prop := clockNobodyRow.holds Try.pinned (OpenSpec.ofChange clockNobodySpec)

/-- ITS FALSE NEIGHBOUR: 'it returns false'. Refute it at one input. -/
def clockNobodyWrong : ChangeSpec := { name := "clockNobody", fn := fun _ => fun
  | [d1, d2] => { results := [.lit (.bool false)], args := [d1, d2] }
  | _ => none }
def ClockNobodyWrongFalsely : Prop := clockNobodyRow.holds Try.pinned (OpenSpec.ofChange clockNobodyWrong)

/-- 'pannierlaw21.LeaseDoes': WHATEVER THE INPUT: true; the input reads as it did. -/
def leaseDoesSpec : ChangeSpec := { name := "leaseDoes", fn := fun _ => fun
  | [d1, d2, d3, d4] => { results := [.lit (.bool true)], args := [d1, d2, d3, d4] }
  | _ => none }
def leaseDoesRow : OpenClaim := { program := "ytfmcpceilkkhfaa", sum := "b60a9b730a73b6a1feddb7ab95f96a14b99c13163574983553ae06625a6e03e6", func := "pannier/pannierlaw21.LeaseDoes", spec := "leaseDoes", apart := false }
def LeaseDoesSaid : Prop := leaseDoesRow.holds Try.pinned (OpenSpec.ofChange leaseDoesSpec)

/-- ITS FALSE NEIGHBOUR: 'it returns false'. Refute it at one input. -/
def leaseDoesWrong : ChangeSpec := { name := "leaseDoes", fn := fun _ => fun
  | [d1, d2, d3, d4] => { results := [.lit (.bool false)], args := [d1, d2, d3, d4] }
  | _ => none }
def LeaseDoesWrongFalsely : Prop := leaseDoesRow.holds Try.pinned (OpenSpec.ofChange leaseDoesWrong)

/-- 'pannierlaw21.LeaseNobody': WHATEVER THE INPUT: true; the input reads as it did. -/
def leaseNobodySpec : ChangeSpec := { name := "leaseNobody", fn := fun _ => fun
  | [d] => { results := [.lit (.bool true)], args := [d] }
  | _ => none }
def leaseNobodyRow : OpenClaim := { program := "ytfmcpceilkkhfaa", sum := "b60a9b730a73b6a1feddb7ab95f96a14b99c13163574983553ae06625a6e03e6", func := "pannier/pannierlaw21.LeaseNobody", spec := "leaseNobody", apart := false }
def LeaseNobodySaid : Prop := leaseNobodyRow.holds Try.pinned (OpenSpec.ofChange leaseNobodySpec)

/-- ITS FALSE NEIGHBOUR: 'it returns false'. Refute it at one input. -/
def leaseNobodyWrong : ChangeSpec := { name := "leaseNobody", fn := fun _ => fun
  | [d] => { results := [.lit (.bool false)], args := [d] }
  | _ => none }
def LeaseNobodyWrongFalsely : Prop := leaseNobodyRow.holds Try.pinned (OpenSpec.ofChange leaseNobodyWrong)

/-- 'pannierlaw21.LeaseAlone': WHATEVER THE INPUT: true; the input reads as it did. -/
def leaseAloneSpec : ChangeSpec := { name := "leaseAlone", fn := fun _ => fun
  | [d1, d2, d3, d4] => { results := [.lit (.bool true)], args := [d1, d2, d3, d4] }
  | _ => none }
def leaseAloneRow : OpenClaim := { program := "ytfmcpceilkkhfaa", sum := "b60a9b730a73b6a1feddb7ab95f96a14b99c13163574983553ae06625a6e03e6", func := "pannier/pannierlaw21.LeaseAlone", spec := "leaseAlone", unfollowed := true, recurses := true, apart := false }
def LeaseAloneSaid : Prop := leaseAloneRow.holds Try.pinned (OpenSpec.ofChange leaseAloneSpec)

/-- ITS FALSE NEIGHBOUR: 'it returns false'. Refute it at one input. -/
def leaseAloneWrong : ChangeSpec := { name := "leaseAlone", fn := fun _ => fun
  | [d1, d2, d3, d4] => { results := [.lit (.bool false)], args := [d1, d2, d3, d4] }
  | _ => none }
def LeaseAloneWrongFalsely : Prop := leaseAloneRow.holds Try.pinned (OpenSpec.ofChange leaseAloneWrong)

/- THE SECOND FORM. 'bulk': how many values and letters a reading holds, each counted each time it is reached (what is shared counts as often as it is met; a slice's spare places count too). A statement '..UptoSaid' is the law's where the arguments, and the package variables that the reading takes, are together of bulk at most 1048576: NARROWER than '..Said'. Prove '..Said' where nothing that the law and all that it calls make is longer than what came in: it says more and counts as full. Else prove '..UptoSaid'. A law counts once. -/
mutual
def uptoBulk {H : Type} : DataW H → Nat
  | .lit (.string bytes) => bytes.length + 1
  | .lit _ => 1
  | .nil => 1
  | .ptr d => uptoBulk d + 1
  | .slice elems spare => uptoBulkAll elems + uptoBulkAll spare + 1
  | .agg parts => uptoBulkAll parts + 1
  | .iface _ d => uptoBulk d + 1
  | .map entries => uptoBulkEntries entries + 1
  | .held _ => 1
def uptoBulkAll {H : Type} : List (DataW H) → Nat
  | [] => 0
  | d :: r => uptoBulk d + uptoBulkAll r
def uptoBulkEntries {H : Type} : List (Lit × DataW H) → Nat
  | [] => 0
  | x :: r => uptoBulkEntry x + uptoBulkEntries r
def uptoBulkEntry {H : Type} : Lit × DataW H → Nat
  | (.string bytes, d) => bytes.length + uptoBulk d + 1
  | (_, d) => uptoBulk d + 1
 end
def uptoSmall : (H : Type) → List (DataW H) → Bool := fun _ ds => decide (uptoBulkAll ds ≤ 1048576)
def OpenSpec.upto (s : _root_.Go.ChangeSpec) : _root_.Go.OpenSpec := { _root_.Go.OpenSpec.ofChange s with cond := some uptoSmall }

/-- 'pannierlaw21.LeaseEnds', WHERE WHAT IT READS IS OF BULK AT MOST 1048576: true; the input reads as it did. -/
def leaseEndsUptoRow : OpenClaim := { program := "ytfmcpceilkkhfaa", sum := "b60a9b730a73b6a1feddb7ab95f96a14b99c13163574983553ae06625a6e03e6", func := "pannier/pannierlaw21.LeaseEnds", spec := "leaseEnds", apart := false, narrowed := true }
def LeaseEndsUptoSaid : Prop := leaseEndsUptoRow.holds Try.pinned (OpenSpec.upto leaseEndsSpec)

/-- 'pannierlaw05.ClockBounds', WHERE WHAT IT READS IS OF BULK AT MOST 1048576: true; the input reads as it did. -/
def clockBoundsUptoRow : OpenClaim := { program := "ytfmcpceilkkhfaa", sum := "b60a9b730a73b6a1feddb7ab95f96a14b99c13163574983553ae06625a6e03e6", func := "pannier/pannierlaw05.ClockBounds", spec := "clockBounds", unfollowed := true, recurses := true, apart := false, narrowed := true }
def ClockBoundsUptoSaid : Prop := clockBoundsUptoRow.holds Try.pinned (OpenSpec.upto clockBoundsSpec)

/-- 'pannierlaw05.ClockTrusts', WHERE WHAT IT READS IS OF BULK AT MOST 1048576: true; the input reads as it did. -/
def clockTrustsUptoRow : OpenClaim := { program := "ytfmcpceilkkhfaa", sum := "b60a9b730a73b6a1feddb7ab95f96a14b99c13163574983553ae06625a6e03e6", func := "pannier/pannierlaw05.ClockTrusts", spec := "clockTrusts", unfollowed := true, recurses := true, apart := false, narrowed := true }
def ClockTrustsUptoSaid : Prop := clockTrustsUptoRow.holds Try.pinned (OpenSpec.upto clockTrustsSpec)

/-- 'pannierlaw05.ClockWider', WHERE WHAT IT READS IS OF BULK AT MOST 1048576: true; the input reads as it did. -/
def clockWiderUptoRow : OpenClaim := { program := "ytfmcpceilkkhfaa", sum := "b60a9b730a73b6a1feddb7ab95f96a14b99c13163574983553ae06625a6e03e6", func := "pannier/pannierlaw05.ClockWider", spec := "clockWider", unfollowed := true, recurses := true, apart := false, narrowed := true }
def ClockWiderUptoSaid : Prop := clockWiderUptoRow.holds Try.pinned (OpenSpec.upto clockWiderSpec)

/-- 'pannierlaw05.ClockTicks', WHERE WHAT IT READS IS OF BULK AT MOST 1048576: true; the input reads as it did. -/
def clockTicksUptoRow : OpenClaim := { program := "ytfmcpceilkkhfaa", sum := "b60a9b730a73b6a1feddb7ab95f96a14b99c13163574983553ae06625a6e03e6", func := "pannier/pannierlaw05.ClockTicks", spec := "clockTicks", unfollowed := true, recurses := true, apart := false, narrowed := true }
def ClockTicksUptoSaid : Prop := clockTicksUptoRow.holds Try.pinned (OpenSpec.upto clockTicksSpec)

/-- 'pannierlaw05.ClockNobody', WHERE WHAT IT READS IS OF BULK AT MOST 1048576: true; the input reads as it did. -/
def clockNobodyUptoRow : OpenClaim := { program := "ytfmcpceilkkhfaa", sum := "b60a9b730a73b6a1feddb7ab95f96a14b99c13163574983553ae06625a6e03e6", func := "pannier/pannierlaw05.ClockNobody", spec := "clockNobody", unfollowed := true, recurses := true, apart := false, narrowed := true }
def ClockNobodyUptoSaid : Prop := clockNobodyUptoRow.holds Try.pinned (OpenSpec.upto clockNobodySpec)

/-- 'pannierlaw21.LeaseDoes', WHERE WHAT IT READS IS OF BULK AT MOST 1048576: true; the input reads as it did. -/
def leaseDoesUptoRow : OpenClaim := { program := "ytfmcpceilkkhfaa", sum := "b60a9b730a73b6a1feddb7ab95f96a14b99c13163574983553ae06625a6e03e6", func := "pannier/pannierlaw21.LeaseDoes", spec := "leaseDoes", apart := false, narrowed := true }
def LeaseDoesUptoSaid : Prop := leaseDoesUptoRow.holds Try.pinned (OpenSpec.upto leaseDoesSpec)

/-- 'pannierlaw21.LeaseNobody', WHERE WHAT IT READS IS OF BULK AT MOST 1048576: true; the input reads as it did. -/
def leaseNobodyUptoRow : OpenClaim := { program := "ytfmcpceilkkhfaa", sum := "b60a9b730a73b6a1feddb7ab95f96a14b99c13163574983553ae06625a6e03e6", func := "pannier/pannierlaw21.LeaseNobody", spec := "leaseNobody", apart := false, narrowed := true }
def LeaseNobodyUptoSaid : Prop := leaseNobodyUptoRow.holds Try.pinned (OpenSpec.upto leaseNobodySpec)

/-- 'pannierlaw21.LeaseAlone', WHERE WHAT IT READS IS OF BULK AT MOST 1048576: true; the input reads as it did. -/
def leaseAloneUptoRow : OpenClaim := { program := "ytfmcpceilkkhfaa", sum := "b60a9b730a73b6a1feddb7ab95f96a14b99c13163574983553ae06625a6e03e6", func := "pannier/pannierlaw21.LeaseAlone", spec := "leaseAlone", unfollowed := true, recurses := true, apart := false, narrowed := true }
def LeaseAloneUptoSaid : Prop := leaseAloneUptoRow.holds Try.pinned (OpenSpec.upto leaseAloneSpec)

end Rows
end Go.Proofs.Ytfmcpceilkkhfaa
