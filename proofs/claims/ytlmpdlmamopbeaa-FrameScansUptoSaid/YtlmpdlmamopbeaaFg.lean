/- All and Scan, in plain words: all frames of bytes. -/
import Derived.Test.YtlmpdlmamopbeaaFf
namespace Go.Proofs.Ytlmpdlmamopbeaa.P
open Go.RowKit Go.Proofs.YtlmpdlmamopbeaaW.PrintWords Go.Proofs.YtlmpdlmamopbeaaW.PrintLast Go.Proofs.YtlmpdlmamopbeaaW.PrintMore
attribute [local go_sem] Oper.semAt_some
set_option linter.unusedVariables false
set_option linter.unusedSimpArgs false
set_option maxHeartbeats 2000000 in
set_option maxRecDepth 100000 in
theorem All.at (A0 : Option Addr) (c0 : Nat) (b : List Int) (w : World) (hr : Kd.C (Kd.int .u8) w A0 b.length b) (hl : b.length ≤ 70368744177664) :
    Calls Try.prog 17 #[.slice A0 b.length c0] w fun e w' => ∃ (bx : Nat) (A : Option Addr) (c : Nat), e = .returned (.func (.func 23) #[] #[.pointer (some ⟨bx, 0, none⟩)]) ∧ w'.heap[bx]? = some (.cells #[.slice A b.length c] 22 (0, 0)) ∧ RB w' w.heap.size (.slice A b.length c) b ∧ w.heap.size ≤ bx ∧ Below w.heap.size w w' := by
  have HR := Aside0.mk hr
  have HL := Aside0.mk hl
  clear hr hl
  have HB := Aside0.mk (Below.refl w.heap.size w)
  go_enter Try.func17, Try.ntmps17
  go_wp2_with fail
  refine (Clone.at A0 c0 b w HR.out (by have := HL.out; omega)).mono ?_
  rintro e w1 ⟨v, rfl, ho, hb⟩
  obtain ⟨A, c, rfl⟩ := Kd.R_slice ho
  have HO : Aside0 (RB w1 w.heap.size (.slice A b.length c) b) := ⟨ho⟩
  have HB1 := Aside0.mk hb
  have HP : Aside0 ((w1.alloc (.cells #[.slice A b.length c] 22)).heap[w1.heap.size]? = some (.cells #[.slice A b.length c] 22 (0, 0)) ∧ Below w1.heap.size w1 (w1.alloc (.cells #[.slice A b.length c] 22))) := ⟨blk_new _ _, below_alloc (Below.refl _ _) _⟩
  clear ho hb
  go_wp2
  go_ret
  exact ⟨w1.heap.size, A, c, rfl, HP.out.1, RB.below HO.out HP.out.2, HB1.out.size, below_step HB1.out HP.out.2⟩
theorem calls_of_marks {P : Program} {f : FuncId} {fn : Func} {c : Code} {args : Array Value} {w : World} {R : Ending → World → Prop} (hf : P.funcs[f]? = some fn) (hb : fn.body = some c)
    (h : c.wp P (bodyPostM Fence.wide 5 P fn R) { tmps := args ++ Array.replicate (fn.ntmps - args.size) undef, defers := [] } w) : Calls P f args w R :=
  callsIn_wide.1 (callsIn_of_wp_marks (n := 5) hf hb trivial (wpIn_wide.2 h) rfl)
theorem kept_putObj {W : World} {T : Nat → Prop} {l : Nat} {o : Obj} (hT : T l) (h : W.heap[l]? = some o) (o' : Obj) : Kept W (W.putObj l o') T := by
  have hg := grownBy_putObj' W l o'
  exact ⟨hg.size, fun i hi hn => hg.block i hi (fun e => hn (by cases e; exact hT))⟩
theorem rangeW {α : Type} {P : Program} {g : Operand} {ps : Array Tmp} {assign body : Code} {Q : Exit → Act → World → Prop} {a : Act} {w : World} (gf : Nat) {lb : Array Value} (hg : a.eval g = .func (.func gf) #[] lb)
    (eg : ∀ args w, (callFunc gf args).run P w = .ok (.enter gf args) w) {encs : α → Array Value} {T : Nat → Prop} (hT : ∀ k, w.heap.size ≤ k → T k) {S Sp : List α → Prop} {N : Nat}
    (hseq : SeqStopsK Fence.wide 4 P gf lb encs (fun A B => Kept A B T) S Sp N w) (hps : ∀ x, (encs x).size = ps.size)
    (I : List α → World → Prop) (hI : OwnFrom w.heap.size I) (h0 : I [] w) (a₁ : α → Act)
    (hassign : ∀ (l : Nat) (x : α) (W : World) (K : Act → World → Prop), K (a₁ x) W → assign.wpIn (Fence.wide.inRound l) 3 P (Exit.then K (fun _ _ _ => False)) { tmps := (ps.zip (encs x)).foldl (fun t (p, v) => t.setIfInBounds p v) a.tmps, defers := [] } W)
    (hbody : ∀ (l : Nat) (pre : List α) (x : α) (W : World), I pre W → pre.length < N → body.wpIn (Fence.wide.inRound l) 3 P (ownPostG w.heap.size (fun A B => Kept A B T) I (fun _ _ _ => False) (pre ++ [x]) W) (a₁ x) W)
    (hdone : ∀ (D : Nat) (xs : List α) (W : World), w.heap.size ≤ D → S xs → I xs W → W.heap[D]? = some (.deferred (some [])) → Q .normal { a with defers := { target := .collected D, args := #[] } :: a.defers } W) :
    (Code.rangeFunc g ps assign body).wp P Q a w :=
  (wpIn_wide (n := 5)).1 (wpIn_rangeFunc_ownG_of_H (F := Fence.wide) (n := 5) rfl (by omega) hg trivial eg hseq (fun h k => h.then_ k (fun _ h => .inl h)) (fun W l o o' hl h _ _ => kept_putObj (hT l hl) h o') (Below.refl _ _) hps
    I (fun _ _ _ => False) hI (fun _ _ _ _ _ h _ _ => h) h0 a₁ hassign hbody hdone (fun _ _ _ _ _ _ h _ => h.elim) (fun W => Kept.refl W _))
theorem rangeW2 {α : Type} {P : Program} {g : Operand} {p q : Nat} {assign body : Code} {Q : Exit → Act → World → Prop} {a : Act} {w : World} (gf : Nat) {lb : Array Value} (hg : a.eval g = .func (.func gf) #[] lb)
    (eg : ∀ args w, (callFunc gf args).run P w = .ok (.enter gf args) w) {e1 e2 : α → Value} {T : Nat → Prop} (hT : ∀ k, w.heap.size ≤ k → T k) {S Sp : List α → Prop} {N : Nat}
    (hseq : SeqStopsK Fence.wide 4 P gf lb (fun x => #[e1 x, e2 x]) (fun A B => Kept A B T) S Sp N w)
    (I : List α → World → Prop) (hI : OwnFrom w.heap.size I) (h0 : I [] w) (a₁ : α → Act)
    (hassign : ∀ (l : Nat) (x : α) (W : World) (K : Act → World → Prop), K (a₁ x) W → assign.wpIn (Fence.wide.inRound l) 3 P (Exit.then K (fun _ _ _ => False)) { tmps := (a.tmps.setIfInBounds p (e1 x)).setIfInBounds q (e2 x), defers := [] } W)
    (hbody : ∀ (l : Nat) (pre : List α) (x : α) (W : World), I pre W → pre.length < N → body.wpIn (Fence.wide.inRound l) 3 P (ownPostG w.heap.size (fun A B => Kept A B T) I (fun _ _ _ => False) (pre ++ [x]) W) (a₁ x) W)
    (hdone : ∀ (D : Nat) (xs : List α) (W : World), w.heap.size ≤ D → S xs → I xs W → W.heap[D]? = some (.deferred (some [])) → Q .normal { a with defers := { target := .collected D, args := #[] } :: a.defers } W) :
    (Code.rangeFunc g #[p, q] assign body).wp P Q a w :=
  rangeW gf hg eg hT hseq (fun _ => rfl) I hI h0 a₁ (fun l x W K hK => by
    have e : ((#[p, q] : Array Tmp).zip (#[e1 x, e2 x] : Array Value)).foldl (fun t (p, v) => t.setIfInBounds p v) a.tmps = (a.tmps.setIfInBounds p (e1 x)).setIfInBounds q (e2 x) := by simp
    show Code.wpIn _ _ _ _ _ { tmps := ((#[p, q] : Array Tmp).zip (#[e1 x, e2 x] : Array Value)).foldl (fun t (p, v) => t.setIfInBounds p v) a.tmps, defers := [] } _
    rw [e]
    exact hassign l x W K hK) hbody hdone
/-- Where the last of frames ends, as it is reckoned. -/
def endOf (l : List Fr) : Int := match l.getLast? with | none => 0 | some d => wrap64 (wrap64 (d.i + 8) + d.s.size)
theorem endOf_snoc (l : List Fr) (d : Fr) : endOf (l ++ [d]) = wrap64 (wrap64 (d.i + 8) + d.s.size) := by unfold endOf; rw [List.getLast?_append]; rfl
theorem frL_length : ∀ (f : Nat) (b : List Int) (a : Nat), (frL f b a).length ≤ f
  | 0, _, _ => Nat.le_refl _
  | f + 1, b, a => by
    unfold frL
    cases firstL (b.drop a) with
    | none => exact Nat.zero_le _
    | some p => exact Nat.succ_le_succ (frL_length f b _)
def paysOf (l : List Fr) : List ByteArray := l.map (·.s)
theorem paysOf_snoc (l : List Fr) (d : Fr) : paysOf (l ++ [d]) = paysOf l ++ [d.s] := by simp [paysOf]
def ScanI (w w2 : World) (b4 b5 : Nat) (T : Nat → Prop) (pre : List Fr) (W : World) : Prop :=
  ∃ (A : Option Addr) (c : Nat), W.heap[b4]? = some (.cells #[.slice A pre.length c] 30 (0, 0)) ∧ W.heap[b5]? = some (.cells #[.int .i64 (endOf pre)] 3 (0, 0)) ∧ Kd.string.R 9 W w2.heap.size (fun _ => True) (.slice A pre.length c) (paysOf pre) ∧ Kept w2 W T ∧ Below w.heap.size w W
theorem ScanI.own {w w2 : World} {b4 b5 : Nat} {T : Nat → Prop} (hT : ∀ k, w2.heap.size ≤ k → T k) (h4 : b4 < w2.heap.size) (h5 : b5 < w2.heap.size) (hw : w.heap.size ≤ w2.heap.size) : OwnFrom w2.heap.size (ScanI w w2 b4 b5 T) := by
  rintro s A B row ⟨Aa, c, x1, x2, x3, x4, x5⟩ hg hr
  have hne : ∀ k cells t, A.heap[k]? = some (.cells cells t (0, 0)) → some k ≠ row := fun k cells t h e => by
    obtain ⟨_, o, h1, h2⟩ := hr k e.symm
    rw [h] at h1
    injection h1 with h1
    rw [← h1] at h2
    exact absurd h2 (by simp [Obj.isCells])
  refine ⟨Aa, c, (hg.block b4 (blk_lt x1) (hne _ _ _ x1)).trans x1, (hg.block b5 (blk_lt x2) (hne _ _ _ x2)).trans x2, ?_, x4.of_grown hg (fun k hk => .inl (hT k (hr k hk).1)), x5.grown hg x5.size (fun k e => by have := (hr k e).1; omega)⟩
  exact Kd.R_mono (Kd.R_step (Kd.R_bound x3) (fun k hk hlt => hg.block k hlt (by obtain ⟨_, _, _, q, _, cells, hc⟩ := hk; exact hne _ _ _ hc))) (fun _ _ => trivial)
theorem keepsFrom_row {B : Nat} {W W1 : World} {v : Value} {base : Nat} {xs : List ByteArray} (h : Kd.string.R 9 W base (fun _ => True) v xs) (hg : W.grownBy W1 v.ownBlock) : KeepsFrom B W W1 :=
  ⟨hg.size, fun k o _ hk ho => (hg.block k (blk_lt hk) (fun e => by
    obtain ⟨cells, hc⟩ := Kd.R_typed h k e.symm
    rw [hk] at hc
    injection hc with hc
    rw [hc] at ho
    exact absurd ho (by simp [Obj.isCells]))).trans hk⟩
theorem keepsFrom_set {B : Nat} {W : World} {g j : Nat} {u : Value} (h : g < B) : KeepsFrom B W (W.setCell ⟨g, j, none⟩ u) :=
  ⟨by simp, fun k o hB hk _ => (Below.heap_setCell W ⟨g, j, none⟩ u k (by show k ≠ g; omega)).trans hk⟩
theorem grown_alloc_then {W w3 : World} {o : Obj} {row : Option Nat} (h : (W.alloc o).grownBy w3 row) : W.grownBy w3 row :=
  ⟨h.os, h.tape, h.output, Nat.le_trans (by simp) h.size, fun i hi hn => (h.block i (by simp; omega) hn).trans (Below.heap_alloc W o i hi)⟩
theorem scan_app {w w2 W w3 : World} {b4 b5 : Nat} {T : Nat → Prop} {pre : List Fr} {x : Fr} {Av : Option Addr} {cv : Nat} {v3 : Value} (hne : b4 ≠ b5) (hw : w.heap.size ≤ b4 ∧ w.heap.size ≤ b5) (h2 : b4 < w2.heap.size ∧ b5 < w2.heap.size) (hT : ∀ k, w2.heap.size ≤ k → T k) (hT4 : T b4 ∧ T b5)
    (h : W.heap[b4]? = some (.cells #[.slice Av pre.length cv] 30 (0, 0)) ∧ W.heap[b5]? = some (.cells #[.int .i64 (endOf pre)] 3 (0, 0)) ∧ Kd.string.R 9 W w2.heap.size (fun _ => True) (.slice Av pre.length cv) (paysOf pre) ∧ Kept w2 W T ∧ Below w.heap.size w W)
    (hown : w3.ownsRow w2.heap.size 9 1 v3 (pre.length + 1) (encs Value.string (paysOf pre) ++ [.string x.s])) (hgrow : (W.alloc (.cells #[.string x.s] 9)).grownBy w3 (Value.slice Av pre.length cv).ownBlock) :
    ∃ (A' : Option Addr) (c' : Nat), v3 = .slice A' (pre.length + 1) c' ∧ w3.heap[b4]? = some (.cells #[.slice Av pre.length cv] 30 (0, 0)) ∧ w3.heap[b5]? = some (.cells #[.int .i64 (endOf pre)] 3 (0, 0)) ∧
      (KeepsFrom w2.heap.size W ((w3.setCell ⟨b4, 0, none⟩ v3).setCell ⟨b5, 0, none⟩ (.int .i64 (endOf (pre ++ [x])))) ∧ Kept W ((w3.setCell ⟨b4, 0, none⟩ v3).setCell ⟨b5, 0, none⟩ (.int .i64 (endOf (pre ++ [x])))) T ∧ ScanI w w2 b4 b5 T (pre ++ [x]) ((w3.setCell ⟨b4, 0, none⟩ v3).setCell ⟨b5, 0, none⟩ (.int .i64 (endOf (pre ++ [x]))))) := by
  obtain ⟨x1, x2, x3, x4, x5⟩ := h
  have hg := grown_alloc_then hgrow
  have y1 := (hg.block b4 (blk_lt x1) (Kd.R_ne x3 x1 (by decide))).trans x1
  have y2 := (hg.block b5 (blk_lt x2) (Kd.R_ne x3 x2 (by decide))).trans x2
  have hl : pre.length + 1 = (paysOf (pre ++ [x])).length := by simp [paysOf]
  have hrow : Kd.string.R 9 w3 w2.heap.size (fun _ => True) v3 (paysOf (pre ++ [x])) := by
    refine Kd.R_of_own ?_ (fun _ _ => trivial)
    rw [← hl, paysOf_snoc, show encs Value.string (paysOf pre ++ [x.s]) = encs Value.string (paysOf pre) ++ [.string x.s] by simp [encs]]
    exact hown
  obtain ⟨A', c', rfl⟩ := Kd.R_slice hrow
  rw [← hl] at hrow ⊢
  have z1 : ((w3.setCell ⟨b4, 0, none⟩ (.slice A' (pre.length + 1) c')).setCell ⟨b5, 0, none⟩ (.int .i64 (endOf (pre ++ [x])))).heap[b4]? = some (.cells #[.slice A' (pre.length + 1) c'] 30 (0, 0)) := by
    rw [Below.heap_setCell _ _ _ b4 (by show b4 ≠ b5; exact hne)]
    simpa using blk_set y1 0 (.slice A' (pre.length + 1) c')
  have z2 : ((w3.setCell ⟨b4, 0, none⟩ (.slice A' (pre.length + 1) c')).setCell ⟨b5, 0, none⟩ (.int .i64 (endOf (pre ++ [x])))).heap[b5]? = some (.cells #[.int .i64 (endOf (pre ++ [x]))] 3 (0, 0)) := by
    have : (w3.setCell ⟨b4, 0, none⟩ (.slice A' (pre.length + 1) c')).heap[b5]? = some (.cells #[.int .i64 (endOf pre)] 3 (0, 0)) := (Below.heap_setCell _ _ _ b5 (by show b5 ≠ b4; exact fun e => hne e.symm)).trans y2
    simpa using blk_set this 0 (.int .i64 (endOf (pre ++ [x])))
  have zr : Kd.string.R 9 ((w3.setCell ⟨b4, 0, none⟩ (.slice A' (pre.length + 1) c')).setCell ⟨b5, 0, none⟩ (.int .i64 (endOf (pre ++ [x])))) w2.heap.size (fun _ => True) (.slice A' (pre.length + 1) c') (paysOf (pre ++ [x])) := by
    have := Kd.R_set hrow y1 (by decide) 0 (.slice A' (pre.length + 1) c')
    exact Kd.R_set this ((Below.heap_setCell _ _ _ b5 (by show b5 ≠ b4; exact fun e => hne e.symm)).trans y2) (by decide) 0 _
  have hk : Kept W ((w3.setCell ⟨b4, 0, none⟩ (.slice A' (pre.length + 1) c')).setCell ⟨b5, 0, none⟩ (.int .i64 (endOf (pre ++ [x])))) T :=
    ((Kept.refl W T).of_grown hg (fun k e => .inl (hT k (Kd.R_base x3 k e)))).setCell (p := ⟨b4, 0, none⟩) (.inl hT4.1) _ |>.setCell (p := ⟨b5, 0, none⟩) (.inl hT4.2) _
  have hb : Below w.heap.size w ((w3.setCell ⟨b4, 0, none⟩ (.slice A' (pre.length + 1) c')).setCell ⟨b5, 0, none⟩ (.int .i64 (endOf (pre ++ [x])))) :=
    below_set (below_set (x5.grown hg x5.size (fun k e => by have := Kd.R_base x3 k e; omega)) hw.1) hw.2
  refine ⟨A', c', rfl, y1, y2, ((keepsFrom_row x3 hg).trans (keepsFrom_set h2.1)).trans (keepsFrom_set h2.2), hk, A', c', ?_, z2, ?_, x4.then_ hk (fun _ h => .inl h), hb⟩
  · rw [show (pre ++ [x]).length = pre.length + 1 by simp]; exact z1
  · rw [show (pre ++ [x]).length = pre.length + 1 by simp]; exact zr
theorem R_putObj {W : World} {base D : Nat} {v : Value} {xs : List ByteArray} {o o' : Obj} (h : Kd.string.R 9 W base (fun _ => True) v xs) (hD : W.heap[D]? = some o) (ho : o.isCells = false) : Kd.string.R 9 (W.putObj D o') base (fun _ => True) v xs :=
  Kd.R_mono (Kd.R_step (Kd.R_bound h) (fun k hk hlt => (grownBy_putObj' W D o').block k hlt (fun e => by
    obtain ⟨_, _, _, q, _, cells, hc⟩ := hk
    injection e with e
    rw [e, hD] at hc
    injection hc with hc
    rw [hc] at ho
    exact absurd ho (by simp [Obj.isCells])))) (fun _ _ => trivial)
set_option maxHeartbeats 4000000 in
set_option maxRecDepth 100000 in
theorem Scan.at (A0 : Option Addr) (c0 : Nat) (b : List Int) (w : World) (hr : Kd.C (Kd.int .u8) w A0 b.length b) (hb : Bts b) (hl : b.length ≤ 1099511627776) :
    Calls Try.prog 14 #[.slice A0 b.length c0] w fun e w' => ∃ v : Value, e = .returned (.tuple #[v, .int .i64 (endOf (frames b))]) ∧ Kd.string.R 9 w' w.heap.size (fun _ => True) v (paysOf (frames b)) ∧ Below w.heap.size w w' := by
  have HR := Aside0.mk hr
  have HBt := Aside0.mk hb
  have HL := Aside0.mk hl
  clear hr hb hl
  refine calls_of_marks Try.func14 rfl ?_
  simp only [Try.ntmps14, List.size_toArray, List.length_cons, List.length_nil, Nat.reduceAdd, Nat.reduceSub, Array.replicate_succ, Array.replicate_zero, List.push_toArray, List.append_toArray, List.nil_append, List.cons_append]
  go_upto_region 3 with (fail)
  obtain ⟨b4, e4⟩ : ∃ b4, w.heap.size = b4 := ⟨_, rfl⟩
  obtain ⟨w1, ew1⟩ : ∃ w1, (w.alloc (Obj.cells #[.slice none 0 0] 30)).alloc (Obj.cells #[.int .i64 0] 3) = w1 := ⟨_, rfl⟩
  have X4 : w1.heap[b4]? = some (.cells #[.slice none 0 0] 30 (0, 0)) := by rw [← ew1, ← e4]; exact blk_alloc (blk_new _ _) _
  have X5 : w1.heap[b4 + 1]? = some (.cells #[.int .i64 0] 3 (0, 0)) := by
    have := blk_new (w.alloc (Obj.cells #[.slice none 0 0] 30)) (.cells #[.int .i64 0] 3)
    rw [World.size_alloc, e4] at this
    rw [← ew1]; exact this
  have B1 : Below w.heap.size w w1 := by rw [← ew1]; exact below_alloc (below_alloc (Below.refl _ _) _) _
  simp only [e4, ew1]
  have HX4 := Aside0.mk X4
  have HX5 := Aside0.mk X5
  have HB1 := Aside0.mk B1
  have HW1 : Aside0 (b4 + 1 < w1.heap.size) := ⟨blk_lt X5⟩
  have HE4 := Aside0.mk e4
  clear X4 X5 B1 ew1 e4
  go_wp2_with fail
  refine (All.at A0 c0 b w1 (Kd.C_below HR.out HB1.out) (by have := HL.out; omega)).mono ?_
  rintro e w2 ⟨bx, A, c, rfl, hbx, ho, hle, hb⟩
  have X4 := blk_below HX4.out hb
  have X5 := blk_below HX5.out hb
  have HB2 := Aside0.mk (below_step HB1.out hb)
  have HS : Aside0 (b4 + 1 < bx ∧ bx < w2.heap.size) := ⟨by have := blk_lt HX5.out; have := blk_lt hbx; omega⟩
  have HO := Aside0.mk ho
  have HC : Aside0 (b.length ≤ c) := ⟨(Kd.R_reads' ho).2.1⟩
  clear HX4 HX5 hb ho hle
  have HX4 := Aside0.mk X4
  have HX5 := Aside0.mk X5
  have HBX := Aside0.mk hbx
  clear X4 X5 hbx
  go_wp2
  obtain ⟨T, eT⟩ : ∃ T : Nat → Prop, T = fun k => k = b4 ∨ k = b4 + 1 ∨ w2.heap.size ≤ k := ⟨_, rfl⟩
  have HT1 : Aside0 (∀ k, w2.heap.size ≤ k → T k) := ⟨fun k h => by rw [eT]; exact .inr (.inr h)⟩
  have HT4 : Aside0 (T b4 ∧ T (b4 + 1)) := ⟨by rw [eT]; exact ⟨.inl rfl, .inr (.inl rfl)⟩⟩
  have HTn : Aside0 (∀ k, k < w2.heap.size → k ≠ b4 → k ≠ b4 + 1 → ¬ T k) := ⟨fun k h1 h2 h3 h4 => by rw [eT] at h4; rcases h4 with h | h | h <;> omega⟩
  have HOk : Aside0 (∀ W', Kept w2 W' T → Kd.C (Kd.int .u8) W' A b.length b) := ⟨fun W' hk => by
    have h := Kd.R_bound HO.out
    have h2 := Kd.R_step h (fun k hk2 hlt => hk.2 k hlt (HTn.out k hlt (by have := hk2.2.1; have := HW1.out; omega) (by have := hk2.2.1; have := HW1.out; omega)))
    exact (Kd.R_reads' h2).2.2⟩
  have HFl : Aside0 ((frames b).length ≤ b.length + 1) := ⟨frL_length _ _ _⟩
  obtain ⟨i0, hi0, hz0, hz1, hz2⟩ := info_parts info9
  clear eT
  refine rangeW2 (gf := 23) (lb := #[.pointer (some ⟨bx, 0, none⟩)]) rfl (enters_of Try.func23 (by kernel_rfl) rfl) (e1 := fun d : Fr => .int .i64 d.i) (e2 := fun d : Fr => .string d.s) (T := T) HT1.out
    (All.stops 4 (by omega) T b HBt.out (by have := HL.out; omega) bx A c HC.out w2 ((blk_cell HBX.out 0).trans rfl) (HTn.out bx HS.out.2 (by have := HS.out.1; omega) (by have := HS.out.1; omega)) HOk.out)
    (ScanI w w2 b4 (b4 + 1) T) (ScanI.own HT1.out (by have := HS.out; omega) (by have := HS.out; omega) (by have := HB2.out.size; omega)) ⟨none, 0, HX4.out, HX5.out, Kd.R_nil _ _ _ _ _, Kept.refl _ _, HB2.out⟩ ?a1 ?assign ?body ?done
  case assign =>
    intro l x W K hK
    simp only [List.setIfInBounds_toArray, List.set_cons_zero, List.set_cons_succ]
    gi_wp2
    exact hK
  case body =>
    rintro l pre x W ⟨Av, cv, x1, x2, x3, x4, x5⟩ hlt
    have q4 : W.cell? ⟨b4, 0, none⟩ = some (.slice Av pre.length cv) := (blk_cell x1 0).trans rfl
    have q5 : W.cell? ⟨b4 + 1, 0, none⟩ = some (.int .i64 (endOf pre)) := (blk_cell x2 0).trans rfl
    have f4 : W.frozen? ⟨b4, 0, none⟩ = false := blk_frozen x1 _
    have HI := Aside0.mk (And.intro x1 (And.intro x2 (And.intro x3 (And.intro x4 x5))))
    have HPl : Aside0 (pre.length + 1 ≤ 1099511627777) := ⟨by have := HFl.out; have := HL.out; omega⟩
    have hown := Kd.own_of_R x3
    rw [show (paysOf pre).length = pre.length by simp [paysOf]] at hown
    have HOw := Aside0.mk hown
    clear x1 x2 x3 x4 x5 hlt hown
    gi_wp2_with (gi_at_builtin; refine wpListIn_append_own _ rfl _ _ 30 rfl w2.heap.size 9 i0 (.string ⟨#[]⟩) 1 16 Try.underlying30 hi0 hz0 hz1 hz2 rfl (by decide) _ _ _ rfl (HOw.out.alloc _) ⟨W.heap.size, 0, none⟩ 1 1 [.string x.s] rfl rfl (cell_one_new _ _ _) (by simp [Value.oneCell']) (by have := HPl.out; unfold maxLen; omega) (by have := HPl.out; omega) (by have := HI.out.2.2.2.1.1; simp; omega) ?_; intro v3 w3 hown3 hgrow3 _; obtain ⟨A3, c3, rfl, y1, y2, hend⟩ := scan_app (x := x) (by omega) (by have := HE4.out; omega) (by have := HS.out; omega) HT1.out HT4.out HI.out hown3 hgrow3; have HEnd := Aside0.mk hend; have HYs := Aside0.mk (And.intro y1 y2); have p4 : w3.cell? ⟨b4, 0, none⟩ = some (.slice Av pre.length cv) := (blk_cell y1 0).trans rfl; have p5 : w3.cell? ⟨b4 + 1, 0, none⟩ = some (.int .i64 (endOf pre)) := (blk_cell y2 0).trans rfl; have g4 : w3.frozen? ⟨b4, 0, none⟩ = false := blk_frozen y1 _; have g5 : w3.frozen? ⟨b4 + 1, 0, none⟩ = false := blk_frozen y2 _; clear hown3 hgrow3 y1 y2 hend)
    have h := HEnd.out
    rw [endOf_snoc] at h
    exact h
  case done =>
    rintro D xs W hD hS ⟨Av, cv, x1, x2, x3, x4, x5⟩ hK
    subst hS
    have q4 : W.cell? ⟨b4, 0, none⟩ = some (.slice Av (frames b).length cv) := (blk_cell x1 0).trans rfl
    have q5 : W.cell? ⟨b4 + 1, 0, none⟩ = some (.int .i64 (endOf (frames b))) := (blk_cell x2 0).trans rfl
    have HI := Aside0.mk (And.intro x3 x5)
    have HKD := Aside0.mk (And.intro hK hD)
    clear x1 x2 x3 x4 x5 hK hD
    go_wp2
    repeat (go_quiet (fail); try go_wp2)
    have hKD : (W.drewN nq).heap[D]? = some (.deferred (some [])) := HKD.out.1
    have hR4 : Kd.string.R 9 (W.drewN nq) w.heap.size (fun _ => True) (.slice Av (frames b).length cv) (paysOf (frames b)) := Kd.R_drewN (Kd.R_lower HI.out.1 HB2.out.size) _
    refine ⟨by simp, .inl ⟨_, _, rfl, run_takeDeferred hKD, ?_⟩⟩
    refine ⟨_, by simp [results, Try.f14, go_sem], .slice Av (frames b).length cv, rfl, R_putObj hR4 hKD rfl, ?_⟩
    exact (pw_below_drewN HI.out.2 nq).trans (belowK_b (w := w) (Nat.le_refl _) _ D _ _ (by have := HKD.out.2; have := HB2.out.size; omega) hKD rfl rfl)
end Go.Proofs.Ytlmpdlmamopbeaa.P
