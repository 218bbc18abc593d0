/- VvDots: the body of its last loop: eq. -/
import Derived.Test.YtnmjhagmobcdkaaDb
namespace Go.Proofs.Ytnmjhagmobcdkaa.P
open Go.RowKit Go.Proofs.YtnmjhagmobcdkaaW.PrintWords Go.Proofs.YtnmjhagmobcdkaaW.PrintLast Go.Proofs.YtnmjhagmobcdkaaW.PrintMore
attribute [local go_sem] Oper.semAt_some
attribute [local go_sem] max2_int min2_int max_two min_two
set_option linter.unusedVariables false
set_option linter.unusedSimpArgs false
theorem below_others {W W' : World} (h : Below W.heap.size W W') : KeepsOthers W W' := ⟨h.size, fun k o hk _ => blk_below hk h⟩
theorem DI.step {w w0 W W' : World} {T : Nat → Prop} {s b9 i : Nat} (h : DI w w0 W T s b9 i) (hb : Below W.heap.size W W') : DI w w0 W' T s b9 i := ⟨blk_below h.i9 hb, blk_below h.i6 hb, h.kept.below hb, below_step h.below hb⟩
theorem DI.next' {w w0 W : World} {T : Nat → Prop} {s b9 i : Nat} {iv : Int} (h : DI w w0 W T s b9 i) (hT : T b9) (hne : s + 1 ≠ b9) (hw : w.heap.size ≤ b9) (e : iv = (i : Int)) : DI w w0 (W.setCell ⟨b9, 0, none⟩ (.int .i64 (iv + 1))) T s b9 (i + 1) := by
  have e2 : iv + 1 = ((i + 1 : Nat) : Int) := by omega
  rw [e2]
  exact ⟨box_set h.i9 _, blk_far h.i6 (p := ⟨b9, 0, none⟩) hne _, h.kept.setCell (p := ⟨b9, 0, none⟩) (.inl hT) _, h.below.setCell (p := ⟨b9, 0, none⟩) hw _⟩
set_option maxHeartbeats 64000000 in
set_option maxRecDepth 100000 in
theorem bodyB_eq {T : Nat → Prop} {w w0 : World} {s b9 b10 Bx m B : Nat} {nv x0 z0 : Int} {A10 : Option Addr} {c10 : Nat} {L : List S31} {l1 : List Int} {A1 : Option Addr} {c1 : Nat} {pre : List (Int × Int)} (l : Nat) (W : World) (hi : DI w w0 W T s b9 pre.length) (hpm : pre.length ≤ m) (hm : nv + 1 = (m : Int) ∧ m ≤ 1000) (q7 : W.cell? ⟨s + 1 + 1, 0, none⟩ = some (.int .i64 nv)) (q10 : W.cell? ⟨b10, 0, none⟩ = some (.slice A10 L.length c10)) (x0c : W.cell? ⟨Bx, 0, none⟩ = some (.int .i64 x0)) (x1c : W.cell? ⟨Bx, 1, none⟩ = some (.int .i64 z0)) (hC : Kd.C k31 W A10 L.length L) (hL : L = ((dots [] l1).take m).map toS ∧ L.length = min m (dots [] l1).length) (hT : T b9 ∧ T (s + 1)) (hb : w.heap.size ≤ b9 ∧ s + 1 ≠ b9) (q4 : W.cell? ⟨s, 0, none⟩ = some (.slice A1 l1.length c1)) (hr1 : Kd.C (Kd.int .i64) W A1 l1.length l1) (hc1 : l1.length ≤ c1) 
    (hk : pre.length ≠ m ∧ pre.length < L.length ∧ x0 = (rd_T31 L (pre.length : Int)).f0 ∧ z0 = (rd_T31 L (pre.length : Int)).f1) (t0 t1 t2 t3 t5 t8 t9 t10 t11 t15 t16 t17 t18 t19 t20 t21 t22 t23 t24 t25 t26 t27 t28 t29 t30 t31 t32 t33 t34 t35 t36 t37 t38 t39 t40 t41 t42 t43 t44 t45 t46 t47 t48 t49 t50 t51 t52 t53 t54 t55 t56 t57 t58 t59 t60 t61 t62 t63 t64 t65 t66 t67 t68 t69 t70 t71 t72 t73 t74 t75 t76 t77 t78 t79 t80 t81 t82 t83 t84 t85 t86 t87 t88 t89 t90 t91 t92 t93 t94 t95 t96 t97 t98 t99 t100 t101 t102 t103 t104 t105 t106 : Value) (body : Code) (hbody : cL (cL (cR (cL (cR (cR (cR (cR (cR (cR (cR (cR (cR (Try.f6.body.getD .skip))))))))))))) = body) :
    body.wpIn (Fence.wide.inRound l) 3 Try.prog (ownPostG B (fun A B => Kept A B T) (fun pre W => DI w w0 W T s b9 pre.length ∧ pre.length ≤ m) (fun c pre W => (c = .exit 4 ∧ pre.length = m + 1 ∧ DI w w0 W T s b9 m) ∨ ¬ pre <+: dots [] l1) (pre ++ [(x0, z0)]) W) { tmps := #[t0, t1, t2, t3, .pointer (some ⟨s, 0, none⟩), t5, .pointer (some ⟨s + 1, 0, none⟩), .pointer (some ⟨s + 1 + 1, 0, none⟩), t8, t9, t10, t11, .pointer (some ⟨b9, 0, none⟩), .pointer (some ⟨b10, 0, none⟩), .pointer (some ⟨Bx, 0, none⟩), t15, t16, t17, t18, t19, t20, t21, t22, t23, t24, t25, t26, t27, t28, t29, t30, t31, t32, t33, t34, t35, t36, t37, t38, t39, t40, t41, t42, t43, t44, t45, t46, t47, t48, t49, t50, t51, t52, t53, t54, t55, t56, t57, t58, t59, t60, t61, t62, t63, t64, t65, t66, t67, t68, t69, t70, t71, t72, t73, t74, t75, t76, t77, t78, t79, t80, t81, t82, t83, t84, t85, t86, t87, t88, t89, t90, t91, t92, t93, t94, t95, t96, t97, t98, t99, t100, t101, t102, t103, t104, t105, t106], defers := [] } W := by
  have hmo : Try.prog.follows .mixedOrders = true := by kernel_rfl
  have hfn : Fence.wide.fn 21 := trivial
  obtain ⟨iv, eiv⟩ : ∃ iv : Int, iv = (pre.length : Int) := ⟨_, rfl⟩
  have HI := Aside0.mk hi
  have HIV : Aside0 (iv = (pre.length : Int) ∧ pre.length ≤ m) := ⟨eiv, hpm⟩
  have HN := Aside0.mk hm
  have HL := Aside0.mk hL
  have HT2 := Aside0.mk hT
  have HBn := Aside0.mk hb
  have HCw := Aside0.mk hC
  have HKc := Aside0.mk hk
  have q9 : W.cell? ⟨b9, 0, none⟩ = some (.int .i64 iv) := by rw [eiv]; exact hi.i9.cell
  have f9 := hi.i9.frozen
  have q6 := hi.i6.cell
  have f6 := hi.i6.frozen
  have HR1 := Aside0.mk (And.intro hr1 hc1)
  clear hi hpm eiv hm hL hT hb hC hk hr1 hc1
  subst hbody
  simp only [cL, cR, Try.f6, Option.getD_some]
  have d1 : decide (nv < iv) = false := decide_eq_false (by have := HIV.out; have := HN.out; have := HKc.out.1; omega)
  have d2 : decide ((L.length : Int) ≤ iv) = false := decide_eq_false (by have := HIV.out; have := HKc.out.2.1; omega)
  have p0 : 0 ≤ iv := by have := HIV.out; omega
  have p1 : iv < (L.length : Int) := by have := HIV.out; have := HKc.out.2.1; omega
  obtain ⟨ad, eA, w0c, w1c⟩ := at_T31 HCw.out iv p0 p1
  subst eA
  obtain ⟨g0, eg0⟩ : ∃ g0, g0 = (rd_T31 L iv).f0 := ⟨_, rfl⟩
  obtain ⟨g1, eg1⟩ : ∃ g1, g1 = (rd_T31 L iv).f1 := ⟨_, rfl⟩
  rw [← eg0] at w0c
  rw [← eg1] at w1c
  have HG : Aside0 (g0 = (rd_T31 L (pre.length : Int)).f0 ∧ g1 = (rd_T31 L (pre.length : Int)).f1) := ⟨by rw [← HIV.out.1]; exact ⟨eg0, eg1⟩⟩
  clear eg0 eg1
  have hq := neq31 x0 g0 z0 g1
  have ei : IntKind.i64.wrap (iv + 1) = iv + 1 := by rw [i64_w]; unfold wrap64; have := HIV.out; have := HN.out; omega
  replace p0 := eq_true p0
  replace p1 := eq_true p1
  have hb : (!(x0 == g0 && (z0 == g1))) = false := by rw [HG.out.1, HG.out.2, HKc.out.2.2.1, HKc.out.2.2.2]; simp
  rw [hb] at hq
  clear hb
  have HHas : Aside0 (∀ W2, Below W.heap.size W W2 → Calls Try.prog 21 #[.slice A1 l1.length c1, .agg #[.int .i64 x0, .int .i64 z0]] W2 fun e W3 => e = .returned (.bool true) ∧ Below W2.heap.size W2 W3) := ⟨fun W2 hb2 => vv_Has.calls A1 c1 l1 x0 z0 true W2 (Kd.C_below HR1.out.1 hb2) HR1.out.2 (by
    obtain ⟨h2, h3⟩ := take_get HL.out.1 HKc.out.2.1
    have h4 := dots_has (List.getElem_mem h2)
    have e0 : x0 = ((dots [] l1)[pre.length]).1 := by rw [HKc.out.2.2.1, h3]; rfl
    have e1 : z0 = ((dots [] l1)[pre.length]).2 := by rw [HKc.out.2.2.2, h3]; rfl
    rw [vv_Has.tot, e0, e1, h4])⟩
  gi_wp2
  gi_region_with_o (first | (gi_at_call 21; refine (CallsIn.inRound l (callsIn_wide.2 (HHas.out _ (Below.drew (Below.refl _ _))))).mono ?_; rintro e w6 ⟨rfl, hb6⟩; have HB6 := Aside0.mk (below_step (Below.drew (Below.refl W.heap.size W)) hb6); replace q9 := pw_cell_below HB6.out q9; replace f9 : w6.frozen? ⟨b9, 0, none⟩ = false := blk_frozen (blk_below HI.out.i9 HB6.out) 0; clear hb6 HHas) | (refine ⟨trivial, ?_⟩; gi_at_call 21; refine (CallsIn.inRound l (callsIn_wide.2 (HHas.out _ (Below.drew (Below.refl _ _))))).mono ?_; rintro e w6 ⟨rfl, hb6⟩; have HB6 := Aside0.mk (below_step (Below.drew (Below.refl W.heap.size W)) hb6); replace q9 := pw_cell_below HB6.out q9; replace f9 : w6.frozen? ⟨b9, 0, none⟩ = false := blk_frozen (blk_below HI.out.i9 HB6.out) 0; clear hb6 HHas))
  all_goals gi_wp2
  all_goals (try go_bits)
  all_goals exact ⟨((below_others HB6.out).trans (KeepsOthers.setCell _ _ _)).from _, ((Kept.of_below HB6.out T).setCell (p := ⟨b9, 0, none⟩) (.inl HT2.out.1) _), by rw [List.length_append]; exact (HI.out.step HB6.out).next' HT2.out.1 HBn.out.2 HBn.out.1 HIV.out.1, by rw [List.length_append, List.length_singleton]; have := HIV.out.2; have := HKc.out.1; omega⟩
end Go.Proofs.Ytnmjhagmobcdkaa.P
