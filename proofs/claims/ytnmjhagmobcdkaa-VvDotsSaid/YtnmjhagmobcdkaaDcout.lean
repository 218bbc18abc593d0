/- VvDots: the body of its last loop: out. -/
import Derived.Test.YtnmjhagmobcdkaaDb
namespace Go.Proofs.Ytnmjhagmobcdkaa.P
open Go.RowKit Go.Proofs.YtnmjhagmobcdkaaW.PrintWords Go.Proofs.YtnmjhagmobcdkaaW.PrintLast Go.Proofs.YtnmjhagmobcdkaaW.PrintMore
attribute [local go_sem] Oper.semAt_some
attribute [local go_sem] max2_int min2_int max_two min_two
set_option linter.unusedVariables false
set_option linter.unusedSimpArgs false
set_option maxHeartbeats 64000000 in
set_option maxRecDepth 100000 in
theorem bodyB_over {T : Nat → Prop} {w w0 : World} {s b9 b10 Bx m B : Nat} {nv x0 z0 : Int} {A10 : Option Addr} {c10 : Nat} {L : List S31} {l1 : List Int} {A1 : Option Addr} {c1 : Nat} {pre : List (Int × Int)} (l : Nat) (W : World) (hi : DI w w0 W T s b9 pre.length) (hpm : pre.length ≤ m) (hm : nv + 1 = (m : Int) ∧ m ≤ 1000) (q7 : W.cell? ⟨s + 1 + 1, 0, none⟩ = some (.int .i64 nv)) (q10 : W.cell? ⟨b10, 0, none⟩ = some (.slice A10 L.length c10)) (x0c : W.cell? ⟨Bx, 0, none⟩ = some (.int .i64 x0)) (x1c : W.cell? ⟨Bx, 1, none⟩ = some (.int .i64 z0)) (hC : Kd.C k31 W A10 L.length L) (hL : L = ((dots [] l1).take m).map toS ∧ L.length = min m (dots [] l1).length) (hT : T b9 ∧ T (s + 1)) (hb : w.heap.size ≤ b9 ∧ s + 1 ≠ b9) (q4 : W.cell? ⟨s, 0, none⟩ = some (.slice A1 l1.length c1)) (hr1 : Kd.C (Kd.int .i64) W A1 l1.length l1) (hc1 : l1.length ≤ c1) 
    (hk : pre.length = m) (t0 t1 t2 t3 t5 t8 t9 t10 t11 t15 t16 t17 t18 t19 t20 t21 t22 t23 t24 t25 t26 t27 t28 t29 t30 t31 t32 t33 t34 t35 t36 t37 t38 t39 t40 t41 t42 t43 t44 t45 t46 t47 t48 t49 t50 t51 t52 t53 t54 t55 t56 t57 t58 t59 t60 t61 t62 t63 t64 t65 t66 t67 t68 t69 t70 t71 t72 t73 t74 t75 t76 t77 t78 t79 t80 t81 t82 t83 t84 t85 t86 t87 t88 t89 t90 t91 t92 t93 t94 t95 t96 t97 t98 t99 t100 t101 t102 t103 t104 t105 t106 : Value) (body : Code) (hbody : cL (cL (cR (cL (cR (cR (cR (cR (cR (cR (cR (cR (cR (Try.f6.body.getD .skip))))))))))))) = body) :
    body.wpIn (Fence.wide.inRound l) 3 Try.prog (ownPostG B (fun A B => Kept A B T) (fun pre W => DI w w0 W T s b9 pre.length ∧ pre.length ≤ m) (fun c pre W => (c = .exit 4 ∧ pre.length = m + 1 ∧ DI w w0 W T s b9 m) ∨ ¬ pre <+: dots [] l1) (pre ++ [(x0, z0)]) W) { tmps := #[t0, t1, t2, t3, .pointer (some ⟨s, 0, none⟩), t5, .pointer (some ⟨s + 1, 0, none⟩), .pointer (some ⟨s + 1 + 1, 0, none⟩), t8, t9, t10, t11, .pointer (some ⟨b9, 0, none⟩), .pointer (some ⟨b10, 0, none⟩), .pointer (some ⟨Bx, 0, none⟩), t15, t16, t17, t18, t19, t20, t21, t22, t23, t24, t25, t26, t27, t28, t29, t30, t31, t32, t33, t34, t35, t36, t37, t38, t39, t40, t41, t42, t43, t44, t45, t46, t47, t48, t49, t50, t51, t52, t53, t54, t55, t56, t57, t58, t59, t60, t61, t62, t63, t64, t65, t66, t67, t68, t69, t70, t71, t72, t73, t74, t75, t76, t77, t78, t79, t80, t81, t82, t83, t84, t85, t86, t87, t88, t89, t90, t91, t92, t93, t94, t95, t96, t97, t98, t99, t100, t101, t102, t103, t104, t105, t106], defers := [] } W := by
  have hmo : Try.prog.follows .mixedOrders = true := by kernel_rfl
  have hfn : Fence.wide.fn 21 := trivial
  obtain ⟨iv, eiv⟩ : ∃ iv : Int, iv = (pre.length : Int) := ⟨_, rfl⟩
  have HI := Aside0.mk hi
  have HIV : Aside0 (iv = (pre.length : Int) ∧ pre.length ≤ m) := ⟨eiv, hpm⟩
  have HN := Aside0.mk hm
  have HL := Aside0.mk hL
  have HT2 := Aside0.mk hT
  have HBn := Aside0.mk hb
  have HCw := Aside0.mk hC
  have HKc := Aside0.mk hk
  have q9 : W.cell? ⟨b9, 0, none⟩ = some (.int .i64 iv) := by rw [eiv]; exact hi.i9.cell
  have f9 := hi.i9.frozen
  have q6 := hi.i6.cell
  have f6 := hi.i6.frozen
  have HR1 := Aside0.mk (And.intro hr1 hc1)
  clear hi hpm eiv hm hL hT hb hC hk hr1 hc1
  subst hbody
  simp only [cL, cR, Try.f6, Option.getD_some]
  have d1 : decide (nv < iv) = true := decide_eq_true (by have := HIV.out; have := HN.out; have := HKc.out; omega)
  gi_wp2
  exact ⟨KeepsFrom.refl _ _, .inl ⟨rfl, by rw [List.length_append, HKc.out]; rfl, by rw [← HKc.out]; exact HI.out⟩⟩
set_option maxHeartbeats 64000000 in
set_option maxRecDepth 100000 in
theorem bodyB_out {T : Nat → Prop} {w w0 : World} {s b9 b10 Bx m B : Nat} {nv x0 z0 : Int} {A10 : Option Addr} {c10 : Nat} {L : List S31} {l1 : List Int} {A1 : Option Addr} {c1 : Nat} {pre : List (Int × Int)} (l : Nat) (W : World) (hi : DI w w0 W T s b9 pre.length) (hpm : pre.length ≤ m) (hm : nv + 1 = (m : Int) ∧ m ≤ 1000) (q7 : W.cell? ⟨s + 1 + 1, 0, none⟩ = some (.int .i64 nv)) (q10 : W.cell? ⟨b10, 0, none⟩ = some (.slice A10 L.length c10)) (x0c : W.cell? ⟨Bx, 0, none⟩ = some (.int .i64 x0)) (x1c : W.cell? ⟨Bx, 1, none⟩ = some (.int .i64 z0)) (hC : Kd.C k31 W A10 L.length L) (hL : L = ((dots [] l1).take m).map toS ∧ L.length = min m (dots [] l1).length) (hT : T b9 ∧ T (s + 1)) (hb : w.heap.size ≤ b9 ∧ s + 1 ≠ b9) (q4 : W.cell? ⟨s, 0, none⟩ = some (.slice A1 l1.length c1)) (hr1 : Kd.C (Kd.int .i64) W A1 l1.length l1) (hc1 : l1.length ≤ c1) 
    (hk : pre.length ≠ m ∧ ¬ pre.length < L.length) (t0 t1 t2 t3 t5 t8 t9 t10 t11 t15 t16 t17 t18 t19 t20 t21 t22 t23 t24 t25 t26 t27 t28 t29 t30 t31 t32 t33 t34 t35 t36 t37 t38 t39 t40 t41 t42 t43 t44 t45 t46 t47 t48 t49 t50 t51 t52 t53 t54 t55 t56 t57 t58 t59 t60 t61 t62 t63 t64 t65 t66 t67 t68 t69 t70 t71 t72 t73 t74 t75 t76 t77 t78 t79 t80 t81 t82 t83 t84 t85 t86 t87 t88 t89 t90 t91 t92 t93 t94 t95 t96 t97 t98 t99 t100 t101 t102 t103 t104 t105 t106 : Value) (body : Code) (hbody : cL (cL (cR (cL (cR (cR (cR (cR (cR (cR (cR (cR (cR (Try.f6.body.getD .skip))))))))))))) = body) :
    body.wpIn (Fence.wide.inRound l) 3 Try.prog (ownPostG B (fun A B => Kept A B T) (fun pre W => DI w w0 W T s b9 pre.length ∧ pre.length ≤ m) (fun c pre W => (c = .exit 4 ∧ pre.length = m + 1 ∧ DI w w0 W T s b9 m) ∨ ¬ pre <+: dots [] l1) (pre ++ [(x0, z0)]) W) { tmps := #[t0, t1, t2, t3, .pointer (some ⟨s, 0, none⟩), t5, .pointer (some ⟨s + 1, 0, none⟩), .pointer (some ⟨s + 1 + 1, 0, none⟩), t8, t9, t10, t11, .pointer (some ⟨b9, 0, none⟩), .pointer (some ⟨b10, 0, none⟩), .pointer (some ⟨Bx, 0, none⟩), t15, t16, t17, t18, t19, t20, t21, t22, t23, t24, t25, t26, t27, t28, t29, t30, t31, t32, t33, t34, t35, t36, t37, t38, t39, t40, t41, t42, t43, t44, t45, t46, t47, t48, t49, t50, t51, t52, t53, t54, t55, t56, t57, t58, t59, t60, t61, t62, t63, t64, t65, t66, t67, t68, t69, t70, t71, t72, t73, t74, t75, t76, t77, t78, t79, t80, t81, t82, t83, t84, t85, t86, t87, t88, t89, t90, t91, t92, t93, t94, t95, t96, t97, t98, t99, t100, t101, t102, t103, t104, t105, t106], defers := [] } W := by
  have hmo : Try.prog.follows .mixedOrders = true := by kernel_rfl
  have hfn : Fence.wide.fn 21 := trivial
  obtain ⟨iv, eiv⟩ : ∃ iv : Int, iv = (pre.length : Int) := ⟨_, rfl⟩
  have HI := Aside0.mk hi
  have HIV : Aside0 (iv = (pre.length : Int) ∧ pre.length ≤ m) := ⟨eiv, hpm⟩
  have HN := Aside0.mk hm
  have HL := Aside0.mk hL
  have HT2 := Aside0.mk hT
  have HBn := Aside0.mk hb
  have HCw := Aside0.mk hC
  have HKc := Aside0.mk hk
  have q9 : W.cell? ⟨b9, 0, none⟩ = some (.int .i64 iv) := by rw [eiv]; exact hi.i9.cell
  have f9 := hi.i9.frozen
  have q6 := hi.i6.cell
  have f6 := hi.i6.frozen
  have HR1 := Aside0.mk (And.intro hr1 hc1)
  clear hi hpm eiv hm hL hT hb hC hk hr1 hc1
  subst hbody
  simp only [cL, cR, Try.f6, Option.getD_some]
  have d1 : decide (nv < iv) = false := decide_eq_false (by have := HIV.out; have := HN.out; have := HKc.out.1; omega)
  have d2 : decide ((L.length : Int) ≤ iv) = true := decide_eq_true (by have := HIV.out; have := HKc.out.2; omega)
  gi_wp2
  gi_region_with_o (fail)
  all_goals gi_wp2
  all_goals (try go_bits)
  all_goals exact ⟨by first | exact ((KeepsOthers.setCell _ _ _).trans (KeepsOthers.drew _)).from _ | exact ((KeepsOthers.drew _).trans (KeepsOthers.setCell _ _ _)).from _, .inr (not_prefix_len (by have := HL.out.2; have := HKc.out; have := HIV.out; omega))⟩
end Go.Proofs.Ytnmjhagmobcdkaa.P
