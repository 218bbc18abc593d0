/- A block around a range over a function that may be broken off: one way on. -/
import Derived.Test.YtnmjhagmobcdkaaRb
namespace Go.Proofs.Ytnmjhagmobcdkaa.P
open Go.RowKit Go.Proofs.YtnmjhagmobcdkaaW.PrintWords Go.Proofs.YtnmjhagmobcdkaaW.PrintLast Go.Proofs.YtnmjhagmobcdkaaW.PrintMore
set_option linter.unusedVariables false
set_option linter.unusedSimpArgs false
theorem rangeB2 {α : Type} {P : Program} {g : Operand} {p id : Nat} {assign body : Code} {K : Act → World → Prop} {Q : Exit → Act → World → Prop} {a : Act} {w : World} (q ty gf : Nat) {lb : Array Value} (hg : a.eval g = .func (.func gf) #[] lb)
    (eg : ∀ args w, (callFunc gf args).run P w = .ok (.enter gf args) w) {enc : α → Value} (cs : α → Array Value) {T : Nat → Prop} (hT : ∀ k, w.heap.size ≤ k → T k) {S Sp : List α → Prop} {N : Nat}
    (hseq : SeqStopsK Fence.wide 4 P gf lb (fun x => #[enc x]) (fun A B => Kept A B T) S Sp N w)
    (I : List α → World → Prop) (Ix : Code → List α → World → Prop) (hI : OwnFrom w.heap.size I) (hIx : ∀ c, OwnFrom w.heap.size (Ix c)) (h0 : I [] w) (hIs : ∀ pre W, I pre W → w.heap.size ≤ W.heap.size) (Fin : World → Prop)
    (hassign : ∀ (l : Nat) (x : α) (W : World) (K : Act → World → Prop), K (actB a p q (enc x) W.heap.size) (W.alloc (.cells (cs x) ty)) → assign.wpIn (Fence.wide.inRound l) 3 P (Exit.then K (fun _ _ _ => False)) { tmps := a.tmps.setIfInBounds p (enc x), defers := [] } W)
    (hbody : ∀ (l : Nat) (pre : List α) (x : α) (Bx : Nat) (W : World), w.heap.size ≤ Bx → W.heap[Bx]? = some (.cells (cs x) ty (0, 0)) → I pre W → pre.length < N → body.wpIn (Fence.wide.inRound l) 3 P (ownPostG w.heap.size (fun A B => Kept A B T) I Ix (pre ++ [x]) W) (actB a p q (enc x) Bx) W)
    (hdone : ∀ xs W, S xs → I xs W → Fin W) (hstop : ∀ c pre W, Sp pre → Ix c pre W → c = .exit id ∧ Fin W)
    (hend : ∀ (D : Nat) (W : World), w.heap.size ≤ D → Fin W → W.heap[D]? = some (.deferred (some [])) → K { a with defers := { target := .collected D, args := #[] } :: a.defers } W) :
    (Code.rangeFunc g #[p] assign body).wp P (Exit.inBlock id (Exit.then K Q)) a w := by
  refine rangeB q ty gf hg eg cs hT hseq I Ix hI hIx h0 hIs hassign hbody ?done ?stop
  case done =>
    intro D xs W hD hS hi hK
    simp only [Exit.inBlock, Exit.then]
    exact hend D W hD (hdone xs W hS hi) hK
  case stop =>
    intro D c pre W hD hS hx hK
    obtain ⟨rfl, hf⟩ := hstop c pre W hS hx
    refine wp_exit ?_
    simp only [Exit.inBlock, Exit.then, if_true]
    exact hend D W hD hf hK
/-- The marks of loops that are over: their blocks are still there. -/
theorem leaves_marks {n : Nat} {P : Program} {fn : Func} {tm : Array Value} {R : Ending → World → Prop} : ∀ (Ds : List Nat) (W : World), (∀ W', (∀ k, k ∉ Ds → W'.heap[k]? = W.heap[k]?) → W'.heap.size = W.heap.size → W'.os = W.os ∧ W'.tape = W.tape ∧ W'.output = W.output → LeavesIn Fence.wide n P fn tm R [] .returning W') → Ds.Nodup → (∀ D ∈ Ds, W.heap[D]? = some (.deferred (some []))) →
    LeavesInM Fence.wide n P fn tm R (Ds.map fun D => { target := .collected D, args := #[] }) .returning W := by
  intro Ds
  induction Ds with
  | nil => exact fun W h _ _ => h W (fun _ _ => rfl) rfl ⟨rfl, rfl, rfl⟩
  | cons D Ds ih =>
    intro W h hnd hK
    have hD := hK D (List.mem_cons_self ..)
    have hg := grownBy_putObj' W D (.deferred none)
    have hlt := (Array.getElem?_eq_some_iff.1 hD).1
    have hother : ∀ k, k ≠ D → (W.putObj D (.deferred none)).heap[k]? = W.heap[k]? := fun k hk => World.putObj_heap_other (fun e => hk e)
    have hsz : (W.putObj D (.deferred none)).heap.size = W.heap.size := by simp [World.putObj]
    rw [List.nodup_cons] at hnd
    refine ⟨by simp, .inl ⟨_, _, rfl, run_takeDeferred hD, ih _ (fun W' h1 h2 h3 => h W' (fun k hk => ?_) (h2.trans hsz) ?_) hnd.2 (fun E hE => (hother E (fun e => hnd.1 (e ▸ hE))).trans (hK E (List.mem_cons_of_mem _ hE)))⟩⟩
    · rw [List.mem_cons, not_or] at hk
      exact (h1 k hk.2).trans (hother k hk.1)
    · exact ⟨h3.1.trans hg.os, h3.2.1.trans hg.tape, h3.2.2.trans hg.output⟩
end Go.Proofs.Ytnmjhagmobcdkaa.P
