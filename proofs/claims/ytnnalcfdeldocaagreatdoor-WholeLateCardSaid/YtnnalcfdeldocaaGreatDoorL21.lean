/- frame.step answers some number. frame.Sum answers some number. -/
import Derived.Test.YtnnalcfdeldocaaGreatDoorProg
import Derived.Below
import Derived.Deep.Draws
import Derived.OwnWalk
import Derived.Laws.BytesArg
import Derived.Tactics
import Derived.Laws.Slices
import Derived.WalkKit
import Derived.KernelRfl
import Derived.RowKit3
import Derived.Deep.LoopGhost
import Derived.Deep.QuietTactic
import Derived.WideLaws
import Derived.Deep.DeepCutAuto
import Derived.Deep.CutBlock
import Derived.Deep.RegionHeld3
import Derived.Laws.Rows
import Derived.Laws.BitsLemmas
import Derived.WalkSpells
namespace Go.Proofs.YtnnalcfdeldocaaGreatDoor.X
open Go Go.RowKit
set_option linter.unusedVariables false
set_option linter.unusedSimpArgs false
/-- A fact that stands aside. -/
structure Asd (p : Prop) : Prop where mk :: (out : p)
theorem bits_lt (op : BinOp) (x y : Int) : 0 ≤ bits op .u32 x y ∧ bits op .u32 x y < 4294967296 := by
  unfold bits
  simp only [IntKind.wrap, IntKind.signed, IntKind.bits, Bool.false_and, Bool.false_eq_true, if_false]
  omega
set_option maxHeartbeats 8000000 in
set_option maxRecDepth 100000 in
theorem step_some (x : Int) (w : World) (h0 : 0 ≤ x) (h1 : x < 4294967296) :
    Calls Tryz.prog 478 #[.int .u32 x] w fun e w' => (∃ r : Int, e = .returned (.int .u32 r) ∧ 0 ≤ r ∧ r < 4294967296) ∧ Below w.heap.size w w' := by
  have HX : Asd (0 ≤ x ∧ x < 4294967296) := ⟨h0, h1⟩
  have HB : Asd (Below w.heap.size w w) := ⟨Below.refl _ _⟩
  clear h0 h1
  go_enter Tryz.func478, Tryz.ntmps478
  go_wp2
  go_loopg [0, 4] 8 (fun kq v0 v4 w' => ∃ (y i : Int), v0 = .int .u32 y ∧ v4 = .int .i64 i ∧ Asd (0 ≤ y ∧ y < 4294967296) ∧ Asd (0 ≤ i ∧ i + kq = 8) ∧ Asd (Below w.heap.size w w'))
  case atStart => exact ⟨x, 0, rfl, rfl, HX, ⟨by decide, by decide⟩, HB⟩
  case round =>
    clear HB HX
    obtain ⟨y, i, rfl, rfl, HY, HI, HB⟩ := hrel
    cases gk with
    | zero =>
      have c0 : decide (i < 8) = false := decide_eq_false (by have := HI.out; omega)
      go_wp2
      go_ret
      exact ⟨⟨y, rfl, HY.out⟩, HB.out⟩
    | succ m =>
      have c0 : decide (i < 8) = true := decide_eq_true (by have := HI.out; omega)
      have hw : IntKind.i64.wrap (i + 1) = i + 1 := by
        have := HI.out
        have e : (i + 1) % 18446744073709551616 = i + 1 := by omega
        simp [IntKind.wrap, IntKind.bits, IntKind.signed, e]
        omega
      by_cases c3 : (Go.bits .and .u32 y 1) = 1
      · have c3b0 : ((Go.bits .and .u32 y 1) == 1) = true := beq_iff_eq.mpr c3
        have c3b1 : ((Go.bits .and .u32 y 1) != 1) = false := bne_eq_false_iff_eq.mpr c3
        clear c3
        go_wp2
        go_roundg m
        case measure => omega
        case rel => exact ⟨_, i + 1, rfl, rfl, ⟨bits_lt _ _ _⟩, ⟨by have := HI.out; omega, by have := HI.out; omega⟩, HB⟩
      · have c3b0 : ((Go.bits .and .u32 y 1) == 1) = false := beq_eq_false_iff_ne.mpr c3
        have c3b1 : ((Go.bits .and .u32 y 1) != 1) = true := bne_iff_ne.mpr c3
        clear c3
        go_wp2
        go_roundg m
        case measure => omega
        case rel => exact ⟨_, i + 1, rfl, rfl, ⟨by have := HY.out; omega, by have := HY.out; omega⟩, ⟨by have := HI.out; omega, by have := HI.out; omega⟩, HB⟩
end Go.Proofs.YtnnalcfdeldocaaGreatDoor.X
namespace Go.Proofs.YtnnalcfdeldocaaGreatDoor.X
open Go Go.RowKit
set_option linter.unusedVariables false
set_option linter.unusedSimpArgs false
set_option maxHeartbeats 8000000 in
set_option maxRecDepth 100000 in
theorem sum_some (g o n c : Nat) (C : Array Value) (e : TypeId) (fz : Nat × Nat) (w : World) (hg : w.heap[g]? = some (.cells C e fz)) (hC : ∀ j, j < n → ∃ z : Int, C[o + j]? = some (.int .u8 z)) (hn : n < 1000000) :
    Calls Tryz.prog 419 #[.slice (some ⟨g, o, none⟩) n c] w fun e w' => (∃ r : Int, e = .returned (.int .u32 r) ∧ 0 ≤ r ∧ r < 4294967296) ∧ Below w.heap.size w w' := by
  have HC : Asd (∀ (W : World) (i : Int), Below w.heap.size w W → 0 ≤ i → i < (n : Int) → ∃ z : Int, W.cell? ⟨g, o + i.toNat, none⟩ = some (.int .u8 z)) := ⟨fun W i hb h0 h1 => by
    obtain ⟨z, hz⟩ := hC i.toNat (by omega)
    have h2 : W.heap[g]? = some (.cells C e fz) := (hb.block g (Array.getElem?_eq_some_iff.1 hg).1).trans hg
    exact ⟨z, by simp only [World.cell?, h2]; simpa using hz⟩⟩
  have HN : Asd (n < 1000000) := ⟨hn⟩
  have HS : Asd (∀ (W : World) (x : Int), 0 ≤ x → x < 4294967296 → Calls Tryz.prog 478 #[.int .u32 x] W fun e w' => (∃ r : Int, e = .returned (.int .u32 r) ∧ 0 ≤ r ∧ r < 4294967296) ∧ Below W.heap.size W w') := ⟨fun W x h0 h1 => step_some x W h0 h1⟩
  have HB : Asd (Below w.heap.size w w) := ⟨Below.refl _ _⟩
  clear hg hC hn
  go_enter Tryz.func419, Tryz.ntmps419
  go_wp2
  go_loopg [3, 8] n (fun kq v3 v8 wc => ∃ (x i : Int), v3 = .int .u32 x ∧ v8 = .int .i64 i ∧ Asd (0 ≤ x ∧ x < 4294967296) ∧ Asd (0 ≤ i ∧ i + kq = n) ∧ Asd (Below w.heap.size w wc))
  case atStart => exact ⟨4294967295, 0, rfl, rfl, ⟨by decide, by decide⟩, ⟨by omega, by omega⟩, HB⟩
  case round =>
    clear HB
    obtain ⟨x, i, rfl, rfl, HX, HI, HB⟩ := hrel
    cases gk with
    | zero =>
      have c0b : decide (i < (n : Int)) = false := decide_eq_false (by have := HI.out; omega)
      go_wp2
      go_ret
      exact ⟨⟨_, rfl, by exact bits_lt _ _ _⟩, HB.out⟩
    | succ m =>
      have c0b : decide (i < (n : Int)) = true := decide_eq_true (by have := HI.out; omega)
      have hw : IntKind.i64.wrap (i + 1) = i + 1 := by
        have := HI.out
        have := HN.out
        have e : (i + 1) % 18446744073709551616 = i + 1 := by omega
        simp [IntKind.wrap, IntKind.bits, IntKind.signed, e]
        omega
      have c1 : 0 ≤ i := by have := HI.out; omega
      have c2 : i < (n : Int) := by have := HI.out; omega
      obtain ⟨z, hz⟩ := HC.out _ i HB.out c1 c2
      replace c1 := eq_true c1
      replace c2 := eq_true c2
      go_wp2_with fail
      refine (HS.out _ _ (bits_lt _ _ _).1 (bits_lt _ _ _).2).mono ?_
      rintro e w2 ⟨⟨r, rfl, hr⟩, hb⟩
      have HB2 : Asd (Below w.heap.size w w2) := ⟨HB.out.trans (hb.mono HB.out.size)⟩
      clear hb hr
      go_wp2
      go_roundg m
      case measure => omega
      case rel => exact ⟨_, i + 1, rfl, rfl, ⟨bits_lt _ _ _⟩, ⟨by have := HI.out; omega, by have := HI.out; omega⟩, HB2⟩
end Go.Proofs.YtnnalcfdeldocaaGreatDoor.X
