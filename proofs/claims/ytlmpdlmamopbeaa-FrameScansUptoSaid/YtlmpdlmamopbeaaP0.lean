/- Contracts: a call of the Go function named below returns what the Lean function of that name says, in a world that keeps all that lay before; made by this session over the printer of the kit. -/
import Derived.Test.YtlmpdlmamopbeaaProg
import Derived.Below
import Derived.Deep.Draws
import Derived.Deep.AppendLies
import Derived.Maps.AppendAt
import Derived.OwnWalk
import Derived.Laws.BytesArg
import Derived.Laws.MakeOwn
import Derived.Laws.OwnMore
import Derived.Deep.OwnRows
import Derived.Tactics
import Derived.Lib.ConvBytes
import Derived.Laws.Slices
import Derived.WalkKit
import Derived.KernelRfl
import Derived.RowKit3
import Derived.Deep.LoopGhost
import Derived.Deep.QuietTactic
import Derived.BigQuiet
import Derived.WideLaws
import Derived.Deep.DeepCutAuto
import Derived.Deep.CutBlock
import Derived.Deep.RegionHeld3
import Derived.Laws.Rows
import Derived.Lib.AppendStr
import Derived.ArgAppend
import Derived.Laws.IdiomCopy
import Derived.OrdersHeld
import Derived.Laws.BitsLemmas
import Derived.RowKit
import Derived.Test.YtlmpdlmamopbeaaWWords
import Derived.Test.YtlmpdlmamopbeaaWLast
import Derived.Test.YtlmpdlmamopbeaaWTab
import Derived.Test.YtlmpdlmamopbeaaWFour
import Derived.Test.YtlmpdlmamopbeaaWQPut
import Derived.Test.YtlmpdlmamopbeaaWApart
import Derived.Test.YtlmpdlmamopbeaaWArr
import Derived.Test.YtlmpdlmamopbeaaWZeros
import Derived.Test.YtlmpdlmamopbeaaWFoot
import Derived.Test.YtlmpdlmamopbeaaWKept
import Derived.Test.YtlmpdlmamopbeaaWShare
import Derived.Test.YtlmpdlmamopbeaaWN
import Derived.Test.YtlmpdlmamopbeaaWFootNe
import Derived.Test.YtlmpdlmamopbeaaWAt
import Derived.Test.YtlmpdlmamopbeaaWEqStruct
import Derived.Test.YtlmpdlmamopbeaaWRepsOne
import Derived.Test.YtlmpdlmamopbeaaWInv
import Derived.Test.YtlmpdlmamopbeaaWInvWords
import Derived.Test.YtlmpdlmamopbeaaWGuard
import Derived.Test.YtlmpdlmamopbeaaWNEv
import Derived.Test.YtlmpdlmamopbeaaWMore
namespace Go.Proofs.Ytlmpdlmamopbeaa.P
open Go.RowKit Go.Proofs.YtlmpdlmamopbeaaW.PrintWords Go.Proofs.YtlmpdlmamopbeaaW.PrintLast Go.Proofs.YtlmpdlmamopbeaaW.PrintMore
attribute [local go_sem] max2_int min2_int max_two min_two max_three min_three max_four min_four   -- for this text's walks alone
set_option linter.unusedVariables false
set_option linter.unusedSimpArgs false



def errW : Option Int → Value
  | none => .nilIface
  | some c => .iface 0 (.int .i64 c)
theorem errW_none : errW none = .nilIface := rfl
theorem errW_some (c : Int) : errW (some c) = .iface 0 (.int .i64 c) := rfl

theorem info5 : (Try.prog.info? 5).map (fun i => (i.zero, i.size, i.bytes)) = some (some (.int .u8 0), 1, 1) := by kernel_rfl
theorem info9 : (Try.prog.info? 9).map (fun i => (i.zero, i.size, i.bytes)) = some (some (.string ⟨#[]⟩), 1, 16) := by kernel_rfl
-- the values' own types

end Go.Proofs.Ytlmpdlmamopbeaa.P
