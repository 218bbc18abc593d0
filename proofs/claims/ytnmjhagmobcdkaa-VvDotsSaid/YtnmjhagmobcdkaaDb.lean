/- VvDots: the bodies of its loops over iterators, each walked once (written by db.py). -/
import Derived.Test.YtnmjhagmobcdkaaRb2
import Derived.Test.YtnmjhagmobcdkaaDl
import Derived.Test.YtnmjhagmobcdkaaGr
namespace Go.Proofs.Ytnmjhagmobcdkaa.P
open Go.RowKit Go.Proofs.YtnmjhagmobcdkaaW.PrintWords Go.Proofs.YtnmjhagmobcdkaaW.PrintLast Go.Proofs.YtnmjhagmobcdkaaW.PrintMore
attribute [local go_sem] Oper.semAt_some
attribute [local go_sem] max2_int min2_int max_two min_two
set_option linter.unusedVariables false
set_option linter.unusedSimpArgs false
/-- What lies in the boxes of VvDots: b, the result, n. -/
structure DS (w W : World) (s : Nat) (A1 : Option Addr) (n1 c1 : Nat) (n : Int) : Prop where
  s4 : Boxed W s 22 (.slice A1 n1 c1)
  s6 : Boxed W (s + 1) 4 (.bool false)
  s7 : Boxed W (s + 1 + 1) 3 (.int .i64 n)
  below : Below w.heap.size w W
  size : w.heap.size = s
theorem DS.step {w W W' : World} {s : Nat} {A1 : Option Addr} {n1 c1 : Nat} {n : Int} (h : DS w W s A1 n1 c1 n) (hb : Below W.heap.size W W') : DS w W' s A1 n1 c1 n :=
  ⟨blk_below h.s4 hb, blk_below h.s6 hb, blk_below h.s7 hb, below_step h.below hb, h.size⟩
theorem DS.lt {w W : World} {s : Nat} {A1 : Option Addr} {n1 c1 : Nat} {n : Int} (h : DS w W s A1 n1 c1 n) : s + 1 + 1 < W.heap.size := blk_lt h.s7
/-- One loop: i counts what has come; b's box, n's and the list's lie as they lay. -/
structure DI (w w0 W : World) (T : Nat → Prop) (s b9 : Nat) (i : Nat) : Prop where
  i9 : Boxed W b9 3 (.int .i64 (i : Int))
  i6 : Boxed W (s + 1) 4 (.bool false)
  kept : Kept w0 W T
  below : Below w.heap.size w W
theorem DI.own {w w0 A B : World} {T : Nat → Prop} {s b9 i : Nat} {row : Option Nat} (h : DI w w0 A T s b9 i) (hg : A.grownBy B row) (hw : w.heap.size ≤ w0.heap.size) (hT : ∀ k, w0.heap.size ≤ k → T k) (hr : ∀ r, row = some r → w0.heap.size ≤ r ∧ ∃ o : Obj, A.heap[r]? = some o ∧ o.isCells = false) : DI w w0 B T s b9 i :=
  ⟨boxed_own b9 3 (fun _ : Unit => .int .i64 (i : Int)) () A B row h.i9 hg (fun r e => (hr r e).2), boxed_own (s + 1) 4 (fun _ : Unit => .bool false) () A B row h.i6 hg (fun r e => (hr r e).2), h.kept.of_grown hg (fun k hk => .inl (hT k (hr k hk).1)), h.below.grown hg h.below.size (fun k e => Nat.le_trans hw (hr k e).1)⟩
theorem DS.of {w w0 W : World} {s : Nat} {A1 : Option Addr} {n1 c1 : Nat} {n : Int} {T : Nat → Prop} {b9 i : Nat} (h : DS w w0 s A1 n1 c1 n) (k : DI w w0 W T s b9 i) (h4 : ¬ T s) (h7 : ¬ T (s + 1 + 1)) : DS w W s A1 n1 c1 n :=
  ⟨blk_kept h.s4 k.kept h4, k.i6, blk_kept h.s7 k.kept h7, k.below, h.size⟩
/-- Dots: the iterator over boxes of its own. -/
theorem Dots.new (A1 : Option Addr) (c1 : Nat) (l1 : List Int) (w : World) (hr1 : Kd.C (Kd.int .i64) w A1 l1.length l1) (hc1 : l1.length ≤ c1) (hl1 : l1.length < 17592186044416) :
    Calls Try.prog 26 #[.slice A1 l1.length c1] w (BtwNew [] l1 w) := by
  have H := Aside0.mk (Btw.new none 0 [] A1 c1 l1 w (Kd.C_nil _ _) (Nat.le_refl _) hr1 hc1 (by simp) hl1)
  clear hr1 hc1 hl1
  go_enter Try.func26, Try.ntmps26
  go_wp2_with fail
  refine H.out.mono ?_
  rintro e w1 ⟨bx, bz, A0, A1, c0, c1, rfl, h⟩
  have HH := Aside0.mk h
  clear h H
  go_wp2
  go_ret
  exact ⟨bx, bz, A0, A1, c0, c1, rfl, HH.out⟩
theorem DI.next {w w0 W : World} {T : Nat → Prop} {s b9 i : Nat} {iv : Int} (h : DI w w0 W T s b9 i) (hT : T b9) (hne : s + 1 ≠ b9) (hw : w.heap.size ≤ b9) (e : iv = (i : Int)) : DI w w0 ((W.setCell ⟨b9, 0, none⟩ (.int .i64 (iv + 1))).drew) T s b9 (i + 1) := by
  have e2 : iv + 1 = ((i + 1 : Nat) : Int) := by omega
  rw [e2]
  exact ⟨box_set h.i9 _, blk_far h.i6 (p := ⟨b9, 0, none⟩) hne _, (h.kept.setCell (p := ⟨b9, 0, none⟩) (.inl hT) _).drew, Below.drew (h.below.setCell (p := ⟨b9, 0, none⟩) hw _)⟩
/-- Parts of a function's code. -/
def cL : Code → Code
  | .seq a _ => a
  | .block _ a => a
  | .loop a => a
  | .rangeFunc _ _ _ b => b
  | c => c
def cR : Code → Code
  | .seq _ b => b
  | c => c
theorem take_get {l0 l1 : List Int} {m : Nat} {L : List S31} {i : Nat} (hL : L = ((dots l0 l1).take m).map toS) (h : i < L.length) : ∃ h2 : i < (dots l0 l1).length, rd_T31 L (i : Int) = toS ((dots l0 l1)[i]) := by
  subst hL
  rw [List.length_map, List.length_take] at h
  refine ⟨by omega, ?_⟩
  unfold rd_T31
  rw [Int.toNat_natCast, List.getD_eq_getElem?_getD, List.getElem?_map, List.getElem?_take_of_lt (by omega), List.getElem?_eq_getElem (by omega)]
  rfl
theorem not_prefix_ne {D pre : List (Int × Int)} {x : Int × Int} {i : Nat} (hi : i = pre.length) (h : i < D.length) (hx : x ≠ D[i]) : ¬ pre ++ [x] <+: D := by
  rintro ⟨t, ht⟩
  apply hx
  subst hi
  have : D[pre.length]? = some x := by rw [← ht, List.append_assoc, List.getElem?_append_right (Nat.le_refl _), Nat.sub_self]; rfl
  rw [List.getElem?_eq_getElem h] at this
  exact (Option.some.inj this).symm
theorem not_prefix_len {D pre : List (Int × Int)} {x : Int × Int} (h : D.length ≤ pre.length) : ¬ pre ++ [x] <+: D := by
  intro hp
  have := hp.length_le
  rw [List.length_append, List.length_singleton] at this
  omega
set_option maxHeartbeats 64000000 in
set_option maxRecDepth 100000 in
theorem bodyA_over {T : Nat → Prop} {w w0 : World} {s b9 b10 Bx m B : Nat} {nv x0 z0 : Int} {A10 : Option Addr} {c10 : Nat} {L : List S31} {l0 l1 : List Int} {pre : List (Int × Int)} (l : Nat) (W : World) (hi : DI w w0 W T s b9 pre.length) (hpm : pre.length ≤ m) (hm : nv + 1 = (m : Int) ∧ m ≤ 1000) (q7 : W.cell? ⟨s + 1 + 1, 0, none⟩ = some (.int .i64 nv)) (q10 : W.cell? ⟨b10, 0, none⟩ = some (.slice A10 L.length c10)) (x0c : W.cell? ⟨Bx, 0, none⟩ = some (.int .i64 x0)) (x1c : W.cell? ⟨Bx, 1, none⟩ = some (.int .i64 z0)) (hC : Kd.C k31 W A10 L.length L) (hL : L = ((dots l0 l1).take m).map toS ∧ L.length = min m (dots l0 l1).length) (hT : T b9 ∧ T (s + 1)) (hb : w.heap.size ≤ b9 ∧ s + 1 ≠ b9) 
    (hk : pre.length = m) (t0 t1 t2 t3 t4 t5 t8 t12 t13 t14 t15 t16 t17 t18 t19 t20 t21 t22 t23 t24 t25 t26 t27 t28 t29 t30 t31 t32 t33 t34 t35 t36 t37 t38 t39 t40 t41 t42 t43 t44 t45 t46 t47 t48 t49 t50 t51 t52 t53 t54 t55 t56 t57 t58 t59 t60 t61 t62 t63 t64 t65 t66 t67 t68 t69 t70 t71 t72 t73 t74 t75 t76 t77 t78 t79 t80 t81 t82 t83 t84 t85 t86 t87 t88 t89 t90 t91 t92 t93 t94 t95 t96 t97 t98 t99 t100 t101 t102 t103 t104 t105 t106 : Value) (body : Code) (hbody : cL (cL (cR (cL (cR (cR (cR (cL (cL (cR (cL (cL (cR (cL (cR (cR (cR (cR (cR (Try.f6.body.getD .skip))))))))))))))))))) = body) :
    body.wpIn (Fence.wide.inRound l) 3 Try.prog (ownPostG B (fun A B => Kept A B T) (fun pre W => DI w w0 W T s b9 pre.length ∧ pre.length ≤ m) (fun c pre W => (c = .exit 2 ∧ pre.length = m + 1 ∧ DI w w0 W T s b9 m) ∨ ¬ pre <+: dots l0 l1) (pre ++ [(x0, z0)]) W) { tmps := #[t0, t1, t2, t3, t4, t5, .pointer (some ⟨s + 1, 0, none⟩), .pointer (some ⟨s + 1 + 1, 0, none⟩), t8, .pointer (some ⟨b9, 0, none⟩), .pointer (some ⟨b10, 0, none⟩), .pointer (some ⟨Bx, 0, none⟩), t12, t13, t14, t15, t16, t17, t18, t19, t20, t21, t22, t23, t24, t25, t26, t27, t28, t29, t30, t31, t32, t33, t34, t35, t36, t37, t38, t39, t40, t41, t42, t43, t44, t45, t46, t47, t48, t49, t50, t51, t52, t53, t54, t55, t56, t57, t58, t59, t60, t61, t62, t63, t64, t65, t66, t67, t68, t69, t70, t71, t72, t73, t74, t75, t76, t77, t78, t79, t80, t81, t82, t83, t84, t85, t86, t87, t88, t89, t90, t91, t92, t93, t94, t95, t96, t97, t98, t99, t100, t101, t102, t103, t104, t105, t106], defers := [] } W := by
  have hmo : Try.prog.follows .mixedOrders = true := by kernel_rfl
  obtain ⟨iv, eiv⟩ : ∃ iv : Int, iv = (pre.length : Int) := ⟨_, rfl⟩
  have HI := Aside0.mk hi
  have HIV : Aside0 (iv = (pre.length : Int) ∧ pre.length ≤ m) := ⟨eiv, hpm⟩
  have HN := Aside0.mk hm
  have HL := Aside0.mk hL
  have HT2 := Aside0.mk hT
  have HBn := Aside0.mk hb
  have HCw := Aside0.mk hC
  have HKc := Aside0.mk hk
  have q9 : W.cell? ⟨b9, 0, none⟩ = some (.int .i64 iv) := by rw [eiv]; exact hi.i9.cell
  have f9 := hi.i9.frozen
  have q6 := hi.i6.cell
  have f6 := hi.i6.frozen
  clear hi hpm eiv hm hL hT hb hC hk
  subst hbody
  simp only [cL, cR, Try.f6, Option.getD_some]
  have d1 : decide (nv < iv) = true := decide_eq_true (by have := HIV.out; have := HN.out; have := HKc.out; omega)
  gi_wp2
  exact ⟨KeepsFrom.refl _ _, .inl ⟨rfl, by rw [List.length_append, HKc.out]; rfl, by rw [← HKc.out]; exact HI.out⟩⟩
end Go.Proofs.Ytnmjhagmobcdkaa.P
