/- A range over a function whose one loop variable is boxed: the law of the walk, at the wide fence. -/
import Derived.Test.YtnmjhagmobcdkaaIt
namespace Go.Proofs.Ytnmjhagmobcdkaa.P
open Go.RowKit Go.Proofs.YtnmjhagmobcdkaaW.PrintWords Go.Proofs.YtnmjhagmobcdkaaW.PrintLast Go.Proofs.YtnmjhagmobcdkaaW.PrintMore
set_option linter.unusedVariables false
set_option linter.unusedSimpArgs false
theorem calls_of_marks {P : Program} {f : FuncId} {fn : Func} {c : Code} {args : Array Value} {w : World} {R : Ending → World → Prop} (hf : P.funcs[f]? = some fn) (hb : fn.body = some c)
    (h : c.wp P (bodyPostM Fence.wide 5 P fn R) { tmps := args ++ Array.replicate (fn.ntmps - args.size) undef, defers := [] } w) : Calls P f args w R :=
  callsIn_wide.1 (callsIn_of_wp_marks (n := 5) hf hb trivial (wpIn_wide.2 h) rfl)
/-- What the body of the loop is walked from: the loop variable's box. -/
def actB (a : Act) (p q : Nat) (v : Value) (Bx : Nat) : Act := { tmps := (a.tmps.setIfInBounds p v).setIfInBounds q (.pointer (some ⟨Bx, 0, none⟩)), defers := [] }
theorem kept_putObj {W : World} {T : Nat → Prop} {l : Nat} {o : Obj} (hT : T l) (h : W.heap[l]? = some o) (o' : Obj) : Kept W (W.putObj l o') T := by
  have hg := grownBy_putObj' W l o'
  exact ⟨hg.size, fun i hi hn => hg.block i hi (fun e => hn (by cases e; exact hT))⟩
theorem rangeB {α : Type} {P : Program} {g : Operand} {p : Nat} {assign body : Code} {Q : Exit → Act → World → Prop} {a : Act} {w : World} (q ty gf : Nat) {lb : Array Value} (hg : a.eval g = .func (.func gf) #[] lb)
    (eg : ∀ args w, (callFunc gf args).run P w = .ok (.enter gf args) w) {enc : α → Value} (cs : α → Array Value) {T : Nat → Prop} (hT : ∀ k, w.heap.size ≤ k → T k) {S Sp : List α → Prop} {N : Nat}
    (hseq : SeqStopsK Fence.wide 4 P gf lb (fun x => #[enc x]) (fun A B => Kept A B T) S Sp N w)
    (I : List α → World → Prop) (Ix : Code → List α → World → Prop) (hI : OwnFrom w.heap.size I) (hIx : ∀ c, OwnFrom w.heap.size (Ix c)) (h0 : I [] w) (hIs : ∀ pre W, I pre W → w.heap.size ≤ W.heap.size)
    (hassign : ∀ (l : Nat) (x : α) (W : World) (K : Act → World → Prop), K (actB a p q (enc x) W.heap.size) (W.alloc (.cells (cs x) ty)) → assign.wpIn (Fence.wide.inRound l) 3 P (Exit.then K (fun _ _ _ => False)) { tmps := a.tmps.setIfInBounds p (enc x), defers := [] } W)
    (hbody : ∀ (l : Nat) (pre : List α) (x : α) (Bx : Nat) (W : World), w.heap.size ≤ Bx → W.heap[Bx]? = some (.cells (cs x) ty (0, 0)) → I pre W → pre.length < N → body.wpIn (Fence.wide.inRound l) 3 P (ownPostG w.heap.size (fun A B => Kept A B T) I Ix (pre ++ [x]) W) (actB a p q (enc x) Bx) W)
    (hdone : ∀ (D : Nat) (xs : List α) (W : World), w.heap.size ≤ D → S xs → I xs W → W.heap[D]? = some (.deferred (some [])) → Q .normal { a with defers := { target := .collected D, args := #[] } :: a.defers } W)
    (hstop : ∀ (D : Nat) (c : Code) (pre : List α) (W : World), w.heap.size ≤ D → Sp pre → Ix c pre W → W.heap[D]? = some (.deferred (some [])) → c.wp P Q { a with defers := { target := .collected D, args := #[] } :: a.defers } W) :
    (Code.rangeFunc g #[p] assign body).wp P Q a w := by
  refine (wpIn_wide (n := 5)).1 ?_
  refine wpIn_rangeFunc_ownH (F := Fence.wide) (n := 5) rfl (by omega) hg trivial eg hseq (fun h k => h.then_ k (fun _ h => .inl h)) (fun W l o o' hl h _ _ => kept_putObj (hT l hl) h o') (Below.refl _ _) (fun _ => rfl)
    I Ix hI hIx h0 (fun x a' W => ∃ Bx, w.heap.size ≤ Bx ∧ W.heap[Bx]? = some (.cells (cs x) ty (0, 0)) ∧ a' = actB a p q (enc x) Bx) ?hAx ?assign ?body hdone ?stop
  case hAx =>
    rintro x a' s A B row ⟨Bx, h1, h2, h3⟩ hgr hr
    exact ⟨Bx, h1, (hgr.block Bx (blk_lt h2) (fun e => by obtain ⟨_, o, ho, hc⟩ := hr Bx e.symm; rw [h2] at ho; cases ho; cases hc)).trans h2, h3⟩
  case assign =>
    intro l pre x W K hi hK
    have e : ((#[p] : Array Tmp).zip (#[enc x] : Array Value)).foldl (fun t (p, v) => t.setIfInBounds p v) a.tmps = a.tmps.setIfInBounds p (enc x) := by simp
    have h := hassign l x W K (hK _ _ ((KeepsOthers.alloc W _).from _) (Kept.alloc (Kept.refl _ _) _) (hI.alloc _ hi) ⟨W.heap.size, hIs _ _ hi, blk_new W _, rfl⟩)
    rw [← e] at h
    exact h
  case body =>
    rintro l pre x a' W hl hr hi ⟨Bx, h1, h2, rfl⟩ hlt
    exact hbody l pre x Bx W h1 h2 hi hlt
  case stop => exact fun D c pre W hD hs hx hk => wpIn_wide.2 (hstop D c pre W hD hs hx hk)
end Go.Proofs.Ytnmjhagmobcdkaa.P
