/- The map of numbers: what it reads as; wrong; the iterator of slices.Backward; the law of a range that writes a map. -/
import Derived.RangeFuncNested
import Derived.RangeFuncBound
import Derived.RangeFuncCalls
import Derived.RangeFuncLeaves
import Derived.Shelf.Abstract
import Derived.Shelf.RegionOpen
import Derived.WalkKit
import Derived.OwnWalkIn
import Derived.TacticsInMore
import Derived.LoopNIn
import Derived.LoopIn
import Derived.Sort.LoopGhostIn
import Derived.Sort.CutIn
import Derived.Maps.OwnIn
import Derived.Maps.OwnOps
import Derived.Maps.Views
import Derived.Test.YtmijalplheoekaaLb
namespace Go.Proofs.Ytmijalplheoekaa.P
open Go.RowKit Go.Maps Go.WideMaps Go.Proofs.YtmijalplheoekaaW.PrintWords Go.Proofs.YtmijalplheoekaaW.PrintLast Go.Proofs.YtmijalplheoekaaW.PrintMore
attribute [local go_sem] Oper.semAt_some
set_option linter.unusedVariables false
set_option linter.unusedSimpArgs false
theorem lawK : Keyed Try.prog 9 := string_keyed Try.underlying9
theorem zeroI (w : World) : (zeroValue 3).run Try.prog w = .ok (.int .i64 0) w := by kernel_rfl
def toks (l : List ByteArray) : List (List UInt8) := l.map (·.toList)
def numAt (l : List ByteArray) (s : List UInt8) (j : Nat) : Int := if num s ((toks l).drop j) = 0 then 0 else num s ((toks l).drop j) + (j : Int)
theorem num_bound (s : List UInt8) (l : List (List UInt8)) : 0 ≤ num s l ∧ num s l ≤ l.length := by
  induction l with
  | nil => exact ⟨Int.le_refl _, Int.le_refl _⟩
  | cons x l ih =>
    unfold num
    rw [List.length_cons]
    split
    · omega
    · split <;> omega
theorem num_cons (t x : List UInt8) (xs : List (List UInt8)) : num t (x :: xs) = if x = t then 1 else (if num t xs = 0 then 0 else num t xs + 1) := rfl
theorem numAt_step {l : List ByteArray} {s : List UInt8} {j : Nat} (h : j < l.length) : numAt l s j = if l[j].toList = s then (j : Int) + 1 else numAt l s (j + 1) := by
  have hl : j < (toks l).length := by unfold toks; rw [List.length_map]; exact h
  have e : (toks l)[j] = l[j].toList := by simp [toks]
  unfold numAt
  rw [List.drop_eq_getElem_cons hl, e]
  have hn := num_bound s ((toks l).drop (j + 1))
  rw [num_cons]
  obtain ⟨N, eN⟩ : ∃ N, num s ((toks l).drop (j + 1)) = N := ⟨_, rfl⟩
  rw [eN] at hn ⊢
  by_cases c : l[j].toList = s
  · rw [if_pos c, if_pos c]
    simp only [if_neg (show ¬ (1 : Int) = 0 by omega)]
    omega
  · rw [if_neg c, if_neg c]
    by_cases q : N = 0
    · simp [q]
    · rw [if_neg q, if_neg q, if_neg (by omega)]
      omega
theorem numAt_zero (l : List ByteArray) (s : List UInt8) : numAt l s 0 = num s (toks l) := by
  unfold numAt
  rw [List.drop_zero]
  split <;> omega
theorem numAt_end (l : List ByteArray) (s : List UInt8) : numAt l s l.length = 0 := by
  unfold numAt
  rw [List.drop_of_length_le (by unfold toks; rw [List.length_map]; omega)]
  rfl
/-- The map reads as the numbers of the tokens from place j on. -/
def Reads (D : DataW Unit) (l : List ByteArray) (j : Nat) : Prop := IsMap D ∧ ∀ s : List UInt8, D.atKey (.string s) (.lit (.int .i64 0)) = .lit (.int .i64 (numAt l s j))
theorem Reads.empty (l : List ByteArray) : Reads (.map []) l l.length := ⟨isMap_empty, fun s => by rw [numAt_end]; rfl⟩
theorem Reads.put {D : DataW Unit} {l : List ByteArray} {j : Nat} (h : Reads D l (j + 1)) (hj : j < l.length) : Reads (D.put (.string l[j].data.toList) (.lit (.int .i64 ((j : Int) + 1)))) l j := by
  refine ⟨h.1.put _ _, fun s => ?_⟩
  rw [numAt_step hj]
  by_cases c : l[j].toList = s
  · rw [if_pos c, ← c, ByteArray.toList_eq, atKey_put_same h.1 (show WideAt.IsKeyLit (Lit.string _) from trivial)]
  · rw [if_neg c, atKey_put_other (fun e => c (by cases e; exact ByteArray.toList_eq _))]
    exact h.2 s
set_option maxHeartbeats 1000000 in
set_option maxRecDepth 100000 in
theorem wrong.at {b bm n : Nat} {D : DataW Unit} {l : List ByteArray} (x : S31) (w : World) (hc : w.cell? ⟨b, 0, none⟩ = some (.map (some bm))) (hown : w.ownsMap Try.prog 9 (plainElem Try.prog 3) bm n D) (hD : Reads D l 0) (hs : x.f1.size ≤ maxLen) :
    Calls Try.prog 21 #[aggS x, .pointer (some ⟨b, 0, none⟩)] w fun e w' => e = .returned (.bool (wrongB (toks l) (toSn x))) ∧ Below w.heap.size w w' := by
  obtain ⟨f0, f1, f2, f3, f4⟩ := x
  dsimp only at hs
  have hHS := Aside0.mk hs
  obtain ⟨N, eN⟩ : ∃ N, num f1.toList (toks l) = N := ⟨_, rfl⟩
  have HN : Aside0 (∀ c : Int, D.atKey (.string f1.data.toList) (.lit (.int .i64 0)) = .lit (.int .i64 c) → c = N) := ⟨fun c h => by
    rw [hD.2, numAt_zero, ← ByteArray.toList_eq, eN] at h
    cases h; rfl⟩
  obtain ⟨rb, erb⟩ : ∃ rb, wrongB (toks l) (toSn ⟨f0, f1, f2, f3, f4⟩) = rb := ⟨_, rfl⟩
  have HE : Aside0 (rb = if f3 = 0 then false else if f4 = 0 then f0 else !decide (f4 = N)) := ⟨by rw [← erb, ← eN]; rfl⟩
  rw [erb]
  obtain ⟨bo, ebo⟩ : ∃ bo, w.heap.size = bo := ⟨_, rfl⟩
  obtain ⟨w1, ew1⟩ : ∃ w1, w.alloc (.cells #[.bool f0, .string f1, .int .i64 f2, .int .i64 f3, .int .i64 f4] 31) = w1 := ⟨_, rfl⟩
  have hx : w1.heap[bo]? = some (.cells #[.bool f0, .string f1, .int .i64 f2, .int .i64 f3, .int .i64 f4] 31 (0, 0)) := by rw [← ew1, ← ebo]; exact blk_new _ _
  have HB : Aside0 (Below w.heap.size w w1) := ⟨by rw [← ew1]; exact below_alloc (Below.refl _ _) _⟩
  have HBo : Aside0 (Below bo w w1) := ⟨by rw [← ebo]; exact HB.out⟩
  have hc1 : w1.cell? ⟨b, 0, none⟩ = some (.map (some bm)) := pw_cell_below HB.out hc
  have HOW : Aside0 (w1.ownsMap Try.prog 9 (plainElem Try.prog 3) bm n D) := ⟨by rw [← ew1]; exact hown.alloc _⟩
  have o0 : w1.cell? ⟨bo, 0, none⟩ = some (.bool f0) := (blk_cell hx 0).trans rfl
  have o1 : w1.cell? ⟨bo, 1, none⟩ = some (.string f1) := (blk_cell hx 1).trans rfl
  have o3 : w1.cell? ⟨bo, 3, none⟩ = some (.int .i64 f3) := (blk_cell hx 3).trans rfl
  have o4 : w1.cell? ⟨bo, 4, none⟩ = some (.int .i64 f4) := (blk_cell hx 4).trans rfl
  clear hx erb eN hD hown hc hs
  unfold aggS
  go_enter Try.func21, Try.ntmps21
  go_upto_region 1 with (fail)
  try simp only [ew1, ebo]
  clear ew1
  by_cases k3 : f3 = 0
  · subst k3
    go_wp2
    go_ret
    exact ⟨by rw [HE.out]; simp, by first | exact HB.out | exact HBo.out⟩
  have d3 : (f3 == 0) = false := by rw [beq_eq_false_iff_ne]; exact k3
  have HK3 := Aside0.mk k3
  by_cases k4 : f4 = 0
  · subst k4
    clear k3
    go_wp2
    go_ret
    exact ⟨by rw [HE.out]; simp [HK3.out], by first | exact HB.out | exact HBo.out⟩
  have d4 : (f4 == 0) = false := by rw [beq_eq_false_iff_ne]; exact k4
  have HK4 := Aside0.mk k4
  clear k3 k4
  go_wp2_with (first | (at_lookup; (refine wpList_lookup_own_int _ rfl _ _ 43 rfl 9 3 .i64 lawK Try.underlying43 Try.underlying3 (zeroI _) bm n D rfl HOW.out _ _ rfl (keyOf_string_mk Try.underlying9 hHS.out) ?_; intro c hat hwc; have HC := Aside0.mk (HN.out c hat); clear hat hwc)))
  go_ret
  exact ⟨by rw [HE.out, HC.out]; simp [HK3.out, HK4.out, bne]; exact Bool.eq_iff_iff.2 (by simp), by first | exact HB.out | exact HBo.out⟩
theorem Backward.at (A0 : Option Addr) (n c0 : Nat) (w : World) : Calls Try.prog 20 #[.slice A0 n c0] w fun e w' => e = .returned (.func (.func 24) #[] #[.pointer (some ⟨w.heap.size, 0, none⟩)]) ∧ w'.heap[w.heap.size]? = some (.cells #[.slice A0 n c0] 23 (0, 0)) ∧ Below w.heap.size w w' := by
  have HP : Aside0 ((w.alloc (.cells #[.slice A0 n c0] 23)).heap[w.heap.size]? = some (.cells #[.slice A0 n c0] 23 (0, 0)) ∧ Below w.heap.size w (w.alloc (.cells #[.slice A0 n c0] 23))) := ⟨blk_new _ _, below_alloc (Below.refl _ _) _⟩
  go_enter Try.func20, Try.ntmps20
  go_wp2
  go_ret
  exact ⟨rfl, HP.out⟩
end Go.Proofs.Ytmijalplheoekaa.P
