/- TopNames: the walk's parts joined. -/
import Derived.Test.YtnnalcfdeldocaaGreatDoorL19
import Derived.Test.YtnnalcfdeldocaaGreatDoorL24
namespace Go.Proofs.YtnnalcfdeldocaaGreatDoor.X
open Go
/-- A cut holds over whatever hook. -/
theorem cut_over {P : Program} {H H' : Hook} {f n0 n1 : Nat} {args : List AV} {L0 L1 : List (Nat × ABlk)} {v : AV} (h : HookOk P (cutH f args n0 L0 v n1 L1 H)) (h' : HookOk P H') : HookOk P (cutH f args n0 L0 v n1 L1 H') := by
  intro f' args' s u s1 hh
  unfold cutH at hh
  cases q : tB (Nat.beq f' f) (tB (beqAs args args') (tB (Nat.beq s.next n0) (subB L0 s.heap))) with
  | false => rw [q] at hh; exact h' f' args' s u s1 hh
  | true => exact h f' args' s u s1 (by unfold cutH; rw [q] at hh ⊢; exact hh)
theorem n0_ok : HookOk Tryz.prog n0H := cut_over (cut_ok mixed sortH_ok n0_walk) sortH_ok
theorem n1_ok : HookOk Tryz.prog n1H := cut_over (cut_ok mixed sortH_ok n1_walk) n0_ok
theorem n2_ok : HookOk Tryz.prog n2H := cut_over (cut_ok mixed sortH_ok n2_walk) n1_ok
theorem n3_ok : HookOk Tryz.prog n3H := cut_over (cut_ok mixed sortH_ok n3_walk) n2_ok
theorem n4_ok : HookOk Tryz.prog n4H := cut_over (cut_ok mixed sortH_ok n4_walk) n3_ok
theorem n5_ok : HookOk Tryz.prog n5H := cut_over (cut_ok mixed sortH_ok n5_walk) n4_ok
theorem n6_ok : HookOk Tryz.prog n6H := cut_over (cut_ok mixed sortH_ok n6_walk) n5_ok
theorem n7_ok : HookOk Tryz.prog n7H := cut_over (cut_ok mixed sortH_ok n7_walk) n6_ok
/-- THE WALK: TopNames answers true; what lay before the call lies there as it lay. -/
theorem names_calls (W : World) : Calls Tryz.prog 4 #[] W fun e w' => e = .returned (.bool true) ∧ Go.RowKit.Below W.heap.size W w' :=
  calls_true mixed n7_ok n_walk W concs_nil
#print axioms names_calls
end Go.Proofs.YtnnalcfdeldocaaGreatDoor.X
