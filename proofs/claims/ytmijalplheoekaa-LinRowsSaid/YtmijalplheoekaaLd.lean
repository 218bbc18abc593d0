/- The iterator of slices.Backward; the law of a range whose body writes a map made ahead of it. -/
import Derived.Test.YtmijalplheoekaaLc
namespace Go.Proofs.Ytmijalplheoekaa.P
open Go.RowKit Go.Maps Go.WideMaps Go.Proofs.YtmijalplheoekaaW.PrintWords Go.Proofs.YtmijalplheoekaaW.PrintLast Go.Proofs.YtmijalplheoekaaW.PrintMore
attribute [local go_sem] Oper.semAt_some
set_option linter.unusedVariables false
set_option linter.unusedSimpArgs false
theorem rdOf_size {l : List ByteArray} (h : ∀ t ∈ l, t.size ≤ maxLen) (i : Int) : (rdOf ByteArray.empty l i).size ≤ maxLen := by
  unfold rdOf
  rw [List.getD_eq_getElem?_getD]
  by_cases q : i.toNat < l.length
  · rw [List.getElem?_eq_getElem q]
    exact h _ (List.getElem_mem q)
  · rw [List.getElem?_eq_none (by omega)]
    exact Nat.zero_le _
/-- A place and what stands there. -/
structure Tk where
  i : Int
  s : ByteArray
  h : s.size ≤ maxLen
def mkTk (l : List ByteArray) (h : ∀ t ∈ l, t.size ≤ maxLen) (i : Int) : Tk := ⟨i, rdOf ByteArray.empty l i, rdOf_size h i⟩
/-- The first k that Backward goes over: from the back. -/
def bw (l : List ByteArray) (h : ∀ t ∈ l, t.size ≤ maxLen) (k : Nat) : List Tk := (List.range k).map fun i => mkTk l h ((l.length - 1 - i : Nat) : Int)
theorem bw_succ (l : List ByteArray) (h : ∀ t ∈ l, t.size ≤ maxLen) (k : Nat) : bw l h (k + 1) = bw l h k ++ [mkTk l h ((l.length - 1 - k : Nat) : Int)] := by simp [bw, List.range_succ]
theorem bw_len (l : List ByteArray) (h : ∀ t ∈ l, t.size ≤ maxLen) (k : Nat) : (bw l h k).length = k := by simp [bw]
def encB (d : Tk) : Array Value := #[.int .i64 d.i, .string d.s]
set_option maxHeartbeats 8000000 in
set_option maxRecDepth 100000 in
theorem Bwd.in_ (n : Nat) (hn : 1 ≤ n) (T : Nat → Prop) (l1 : List ByteArray) (hs : ∀ t ∈ l1, t.size ≤ maxLen) (bx : Nat) (A1 : Option Addr) (c1 : Nat) (l : Nat) (J Jx : List Tk → World → Prop)
    (hY : ∀ pre x W, J pre W → pre.length < l1.length → YieldAt Fence.wide (n - 1) Try.prog l (encB x) W fun e W' => (e = .returned (.bool true) ∧ J (pre ++ [x]) W' ∧ Kept W W' T) ∨ (e = .returned (.bool false) ∧ Jx (pre ++ [x]) W'))
    (W : World) (hx : W.cell? ⟨bx, 0, none⟩ = some (.slice A1 l1.length c1)) (hTx : ¬ T bx)
    (hr1 : ∀ W', Kept W W' T → Kd.C Kd.string W' A1 l1.length l1) (hl1 : l1.length < 17592186044416) (h0 : J [] W) :
    CallsIn Fence.wide n Try.prog 24 #[.func (.yield l) #[] #[], .pointer (some ⟨bx, 0, none⟩)] W fun e W' => (∃ v, e = .returned v) ∧ (J (bw l1 hs l1.length) W' ∨ (∃ pre, Jx pre W')) := by
  have HY := Aside0.mk hY
  have HX := Aside0.mk hx
  have HT := Aside0.mk hTx
  have HR1 := Aside0.mk hr1
  have HL := Aside0.mk hl1
  have H0 := Aside0.mk h0
  have es0 : IntKind.i64.wrap ((l1.length : Int) - 1) = (l1.length : Int) - 1 := by rw [i64_w]; unfold wrap64; omega
  clear hY hTx hr1 hl1 h0
  refine callsIn_of_wp Try.func24 rfl trivial ?_ rfl
  simp only [Try.ntmps24, List.size_toArray, List.length_cons, List.length_nil, Nat.reduceAdd, Nat.reduceSub, Array.replicate_succ, Array.replicate_zero, List.push_toArray, List.append_toArray, List.nil_append, List.cons_append]
  gi_wp2
  clear hx es0
  gi_loopg [3] l1.length (fun kq v3 wr => ∃ x : Int, v3 = .int .i64 x ∧ Aside0 (x = (kq : Int) - 1 ∧ kq ≤ l1.length ∧ J (bw l1 hs (l1.length - kq)) wr) ∧ Aside0 (Kept W wr T))
  case atStart => exact ⟨_, rfl, ⟨rfl, by omega, by rw [Nat.sub_self]; exact H0.out⟩, ⟨Kept.refl _ _⟩⟩
  case round =>
    obtain ⟨x, rfl, HO, HK⟩ := hrel
    cases gk with
    | zero =>
      have c0b : decide (0 ≤ x) = false := decide_eq_false (by have := HO.out.1; omega)
      have HE : Aside0 (J (bw l1 hs l1.length) wr) := ⟨by
        have := HO.out.2.2
        rw [Nat.sub_zero] at this
        exact this⟩
      gi_wp2
      go_end0
      exact ⟨⟨_, rfl⟩, .inl HE.out⟩
    | succ m =>
      have c0b : decide (0 ≤ x) = true := decide_eq_true (by have := HO.out.1; omega)
      have hx1 : IntKind.i64.wrap (x - 1) = x - 1 := by rw [i64_w]; unfold wrap64; have := HO.out.1; have := HO.out.2.1; have := HL.out; omega
      have p0 : 0 ≤ x := by have := HO.out.1; omega
      have p1 : x < (l1.length : Int) := by have := HO.out.1; have := HO.out.2.1; omega
      obtain ⟨ad, rfl, q0⟩ := Kd.at_string (HR1.out _ HK.out) x p0 p1
      have q1 := Go.Proofs.YtmijalplheoekaaW.PrintWords.cell_kept HX.out HK.out HT.out
      have HPe : Aside0 (bw l1 hs (l1.length - m) = bw l1 hs (l1.length - (m + 1)) ++ [mkTk l1 hs x]) := ⟨by
        have h1 := HO.out.1
        have h2 := HO.out.2.1
        rw [show l1.length - m = (l1.length - (m + 1)) + 1 by omega, bw_succ, show ((l1.length - 1 - (l1.length - (m + 1)) : Nat) : Int) = x by omega]⟩
      obtain ⟨fn, tmps, assign, body, hy, hR⟩ := HY.out _ (mkTk l1 hs x) wr HO.out.2.2 (by rw [bw_len]; have := HO.out.2.1; omega)
      dsimp only [encB, mkTk] at hy
      replace p0 := eq_true p0
      replace p1 := eq_true p1
      gi_wp2
      refine hR.mono ?_
      rintro e W3 (⟨rfl, hJ3, hk3⟩ | ⟨rfl, hJx3⟩)
      · have HJ4 := Aside0.mk hJ3
        have HK4 : Aside0 (Kept W W3 T) := ⟨HK.out.then_ hk3 (fun _ h => .inl h)⟩
        clear hJ3 hk3 hy hR q0 q1
        gi_wp2
        gi_roundg m
        case measure => omega
        case rel => exact ⟨x - 1, rfl, ⟨by have := HO.out.1; omega, by have := HO.out.2.1; omega, by rw [HPe.out]; exact HJ4.out⟩, HK4⟩
      · have HJ4 := Aside0.mk hJx3
        clear hJx3 hy hR q0 q1
        gi_wp2
        refine bodyPost_ret (results_none rfl _ _ _) rfl ?_
        exact ⟨⟨_, rfl⟩, .inr ⟨_, HJ4.out⟩⟩
theorem Bwd.stops (n : Nat) (hn : 1 ≤ n) (T : Nat → Prop) (l1 : List ByteArray) (hs : ∀ t ∈ l1, t.size ≤ maxLen) (bx : Nat) (A1 : Option Addr) (c1 : Nat) (w : World) (hx : w.cell? ⟨bx, 0, none⟩ = some (.slice A1 l1.length c1)) (hTx : ¬ T bx)
    (hr1 : ∀ W', Kept w W' T → Kd.C Kd.string W' A1 l1.length l1) (hl1 : l1.length < 17592186044416) :
    SeqStopsK Fence.wide n Try.prog 24 #[.pointer (some ⟨bx, 0, none⟩)] encB (fun A B => Kept A B T) (fun xs => xs = bw l1 hs l1.length) (fun _ => True) l1.length w := fun l J Jx W hW hJ _ hY h0 => by
  have hk : Kept w W T := Kept.of_below hW T
  refine (Bwd.in_ n hn T l1 hs bx A1 c1 l J Jx hY W (Go.Proofs.YtmijalplheoekaaW.PrintWords.cell_kept hx hk hTx) hTx (Kd.C_kept_step hr1 hk) hl1 h0).mono ?_
  rintro e W' ⟨he, hj | ⟨pre, hj⟩⟩
  · exact ⟨he, .inl ⟨_, rfl, hj⟩⟩
  · exact ⟨he, .inr ⟨pre, trivial, hj⟩⟩
theorem calls_of_marks {P : Program} {f : FuncId} {fn : Func} {c : Code} {args : Array Value} {w : World} {R : Ending → World → Prop} (hf : P.funcs[f]? = some fn) (hb : fn.body = some c)
    (h : c.wp P (bodyPostM Fence.wide 5 P fn R) { tmps := args ++ Array.replicate (fn.ntmps - args.size) undef, defers := [] } w) : Calls P f args w R :=
  callsIn_wide.1 (callsIn_of_wp_marks (n := 5) hf hb trivial (wpIn_wide.2 h) rfl)
theorem kept_putObj {W : World} {T : Nat → Prop} {l : Nat} {o : Obj} (hT : T l) (h : W.heap[l]? = some o) (o' : Obj) : Kept W (W.putObj l o') T := by
  have hg := grownBy_putObj' W l o'
  exact ⟨hg.size, fun i hi hn => hg.block i hi (fun e => hn (by cases e; exact hT))⟩
theorem rangeW {α : Type} {P : Program} {g : Operand} {ps : Array Tmp} {assign body : Code} {Q : Exit → Act → World → Prop} {a : Act} {w : World} (gf : Nat) {lb : Array Value} (hg : a.eval g = .func (.func gf) #[] lb)
    (eg : ∀ args w, (callFunc gf args).run P w = .ok (.enter gf args) w) {encs : α → Array Value} {T : Nat → Prop} (hT : ∀ k, w.heap.size ≤ k → T k) {S Sp : List α → Prop} {N : Nat}
    (hseq : SeqStopsK Fence.wide 4 P gf lb encs (fun A B => Kept A B T) S Sp N w) (hps : ∀ x, (encs x).size = ps.size)
    (I : List α → World → Prop) (hI : OwnFrom w.heap.size I) (h0 : I [] w) (a₁ : α → Act)
    (hassign : ∀ (l : Nat) (x : α) (W : World) (K : Act → World → Prop), K (a₁ x) W → assign.wpIn (Fence.wide.inRound l) 3 P (Exit.then K (fun _ _ _ => False)) { tmps := (ps.zip (encs x)).foldl (fun t (p, v) => t.setIfInBounds p v) a.tmps, defers := [] } W)
    (hbody : ∀ (l : Nat) (pre : List α) (x : α) (W : World), I pre W → pre.length < N → body.wpIn (Fence.wide.inRound l) 3 P (ownPostG w.heap.size (fun A B => Kept A B T) I (fun _ _ _ => False) (pre ++ [x]) W) (a₁ x) W)
    (hdone : ∀ (D : Nat) (xs : List α) (W : World), w.heap.size ≤ D → S xs → I xs W → W.heap[D]? = some (.deferred (some [])) → Q .normal { a with defers := { target := .collected D, args := #[] } :: a.defers } W) :
    (Code.rangeFunc g ps assign body).wp P Q a w :=
  (wpIn_wide (n := 5)).1 (wpIn_rangeFunc_ownG_of_H (F := Fence.wide) (n := 5) rfl (by omega) hg trivial eg hseq (fun h k => h.then_ k (fun _ h => .inl h)) (fun W l o o' hl h _ _ => kept_putObj (hT l hl) h o') (Below.refl _ _) hps
    I (fun _ _ _ => False) hI (fun _ _ _ _ _ h _ _ => h) h0 a₁ hassign hbody hdone (fun _ _ _ _ _ _ h _ => h.elim) (fun W => Kept.refl W _))
theorem rangeW2 {α : Type} {P : Program} {g : Operand} {p q : Nat} {assign body : Code} {Q : Exit → Act → World → Prop} {a : Act} {w : World} (gf : Nat) {lb : Array Value} (hg : a.eval g = .func (.func gf) #[] lb)
    (eg : ∀ args w, (callFunc gf args).run P w = .ok (.enter gf args) w) {e1 e2 : α → Value} {T : Nat → Prop} (hT : ∀ k, w.heap.size ≤ k → T k) {S Sp : List α → Prop} {N : Nat}
    (hseq : SeqStopsK Fence.wide 4 P gf lb (fun x => #[e1 x, e2 x]) (fun A B => Kept A B T) S Sp N w)
    (I : List α → World → Prop) (hI : OwnFrom w.heap.size I) (h0 : I [] w) (a₁ : α → Act)
    (hassign : ∀ (l : Nat) (x : α) (W : World) (K : Act → World → Prop), K (a₁ x) W → assign.wpIn (Fence.wide.inRound l) 3 P (Exit.then K (fun _ _ _ => False)) { tmps := (a.tmps.setIfInBounds p (e1 x)).setIfInBounds q (e2 x), defers := [] } W)
    (hbody : ∀ (l : Nat) (pre : List α) (x : α) (W : World), I pre W → pre.length < N → body.wpIn (Fence.wide.inRound l) 3 P (ownPostG w.heap.size (fun A B => Kept A B T) I (fun _ _ _ => False) (pre ++ [x]) W) (a₁ x) W)
    (hdone : ∀ (D : Nat) (xs : List α) (W : World), w.heap.size ≤ D → S xs → I xs W → W.heap[D]? = some (.deferred (some [])) → Q .normal { a with defers := { target := .collected D, args := #[] } :: a.defers } W) :
    (Code.rangeFunc g #[p, q] assign body).wp P Q a w :=
  rangeW gf hg eg hT hseq (fun _ => rfl) I hI h0 a₁ (fun l x W K hK => by
    have e : ((#[p, q] : Array Tmp).zip (#[e1 x, e2 x] : Array Value)).foldl (fun t (p, v) => t.setIfInBounds p v) a.tmps = (a.tmps.setIfInBounds p (e1 x)).setIfInBounds q (e2 x) := by simp
    show Code.wpIn _ _ _ _ _ { tmps := ((#[p, q] : Array Tmp).zip (#[e1 x, e2 x] : Array Value)).foldl (fun t (p, v) => t.setIfInBounds p v) a.tmps, defers := [] } _
    rw [e]
    exact hassign l x W K hK) hbody hdone
end Go.Proofs.Ytmijalplheoekaa.P
