/- A walk by the kernel: of this program. -/
import Derived.Test.YtnnalcfdeldocaaGreatDoorL17
import Derived.Test.YtnnalcfdeldocaaGreatDoorProg
import Derived.KernelRfl
namespace Go.Proofs.YtnnalcfdeldocaaGreatDoor.X
open Go
def natKeys : List (AV × AV × Nat) → Option (List Nat)
  | [] => some []
  | (.int .i64 (.ofNat n), _, _) :: es => match natKeys es with
    | none => none
    | some r => some (n :: r)
  | _ => none
def borns : List (AV × AV × Nat) → List Nat
  | [] => []
  | (_, _, b) :: es => b :: borns es
def natsAV : List Nat → List AV
  | [] => []
  | n :: ns => .int .i64 (.ofNat n) :: natsAV ns
def insN (x : Nat) : List Nat → List Nat
  | [] => [x]
  | y :: ys => match Nat.ble x y with
    | true => x :: y :: ys
    | false => y :: insN x ys
def sortN : List Nat → List Nat
  | [] => []
  | x :: xs => insN x (sortN xs)
def notIn (x : Nat) : List Nat → Bool
  | [] => true
  | y :: ys => match Nat.beq x y with
    | true => false
    | false => notIn x ys
def apartN : List Nat → Bool
  | [] => true
  | x :: xs => match notIn x xs with
    | true => apartN xs
    | false => false
def allLt (n : Nat) : List Nat → Bool
  | [] => true
  | x :: xs => match Nat.blt x n with
    | true => allLt n xs
    | false => false
/-- slices.Sorted of maps.Keys answers at once. -/
def sortH : Hook := fun f args s => match Nat.beq f 226 with
  | false => none
  | true => match args with
    | [.fn g [] [.ptr b 0]] => match Nat.beq g 328 with
      | false => none
      | true => match s.heap.get b with
        | some (.cells [.map m] _ _ false) => match s.heap.get m with
          | some (.map es ck) => match natKeys es with
            | none => none
            | some ks => match Nat.ble 2 ks.length && (Nat.ble ks.length 64 && (apartN ks && (allLt 4611686018427387904 ks && (apartN (borns es) && allLt ck (borns es))))) with
              | false => none
              | true => match newB (.cells (natsAV (sortN ks)) 3 1 true) { s with rd := Nat.lor (Nat.lor s.rd (bit b)) (bit m) } with
                | none => none
                | some (k, s1) => some (.slice k 0 ks.length (.unk 0), s1)
          | _ => none
        | _ => none
    | _ => none
def i (n : Nat) : AV := .int .i64 (Int.ofNat n)
def u (n : Nat) : AV := .int .u8 (Int.ofNat n)
abbrev PB := Nat × ABlk
def ik (k : IntKind) (n : Int) : AV := .int k n
theorem mixed : Tryz.prog.follows .mixedOrders = true := by kernel_rfl
end Go.Proofs.YtnnalcfdeldocaaGreatDoor.X
