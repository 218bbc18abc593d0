/- LeaseAlone: an ask that is answered leaves (written by gen_sk.py). -/
import Derived.Test.YtfmcpceilkkhfaaSe
import Derived.Test.YtfmcpceilkkhfaaLv2
import Derived.Test.YtfmcpceilkkhfaaSj
namespace Go.Proofs.Ytfmcpceilkkhfaa.P
open Go.RowKit Go.Proofs.YtfmcpceilkkhfaaW.PrintWords Go.Proofs.YtfmcpceilkkhfaaW.PrintLast Go.Proofs.YtfmcpceilkkhfaaW.PrintMore
attribute [local go_sem] max2_int min2_int max_two min_two max_three min_three max_four min_four
set_option linter.unusedVariables false
set_option linter.unusedSimpArgs false
attribute [local go_sem high] eqA34
/-- Further parts of a function's code. -/
def cLt : Code → Code
  | .cond _ a _ => a
  | c => c
def cE : Code → Code
  | .cond _ _ b => b
  | c => c
set_option maxHeartbeats 32000000 in
set_option maxRecDepth 100000 in
theorem tail3 (w : World) {m : Nat} {long drift tr : Int} {ad : Addr} {c0 : Nat} {l0 : List S83} {ga ba gc bc hb lb bm : Nat} {A : Option Addr} {n c : Nat} {x : Int} {a : Nat} {kd tm : Int} {A3 : Option Addr} {c3 : Nat} {on : List Int} (W : World)
    {tag gs : Nat → Nat} {t dr : Int} {now asked : List Int} {lt : Nat → Bool} {bl nd un : Nat → Int} {ws : List (Int × Int)} (HA : Aside0 (AP w W tag m long tr ga ba gc bc hb lb bm gs t dr now asked lt bl nd un (.slice A n c) ws)) (HG : Aside0 (GA m long drift tr now asked lt bl un ws)) (HK : Aside0 (ClkOk t now dr))
    (HN : Aside0 (n = ws.length ∧ n ≤ c ∧ n ≤ 5000)) (HM : Aside0 (1 ≤ m ∧ m ≤ 7 ∧ a < m)) (HL : Aside0 ((1 ≤ long ∧ long ≤ 1048576) ∧ (0 ≤ drift ∧ drift ≤ 999))) (HTr : Aside0 (tr = long * (1000 - drift) / (1000 + drift))) (HX : Aside0 (0 ≤ x ∧ x < (l0.length : Int) ∧ l0.length ≤ c0))
    (y2 : W.cell? ⟨(ad.add (x.toNat * 4)).block, (ad.add (x.toNat * 4)).off + 2, none⟩ = some (.int .i64 tm)) (y3 : W.cell? ⟨(ad.add (x.toNat * 4)).block, (ad.add (x.toNat * 4)).off + 3, none⟩ = some (.slice A3 on.length c3))
    (HR : Aside0 ((∀ W2, Below w.heap.size w W2 → W2.cell? ⟨(ad.add (x.toNat * 4)).block, (ad.add (x.toNat * 4)).off + 2, none⟩ = some (.int .i64 tm) ∧ W2.cell? ⟨(ad.add (x.toNat * 4)).block, (ad.add (x.toNat * 4)).off + 3, none⟩ = some (.slice A3 on.length c3)) ∧ (Kd.int .i64).C w A3 on.length on ∧ on.length < 17592186044416))
    {k : Int} (Hk : Aside0 (0 ≤ k ∧ k < (n : Int))) {K : Act → World → Prop} {Q : Exit → Act → World → Prop} (HQp : Aside0 (∀ c a a2 w, Q (.panic c) a w → Q (.panic c) a2 w)) (t0 t4 t5 t6 t7 t8 t11 t13 t15 t22 t24 t25 t26 t27 t28 t29 t30 t31 t32 t33 t34 t35 t36 t37 t38 t39 t40 t41 t42 t43 t44 t45 t46 t47 t48 t49 t50 t51 t52 t53 t54 t55 t56 t57 t58 t59 t60 t61 t62 t63 t64 t65 t66 t67 t68 t69 t70 t71 t72 t73 t74 t75 t76 t77 t78 t79 t80 t81 t82 t83 t84 t85 t86 t87 t88 t89 t90 t91 t92 t93 t94 t95 t96 t97 t98 t99 t100 t101 t102 t103 t104 t105 t106 t107 t108 t109 t110 t111 t112 t113 t114 t115 t116 t117 t119 t120 t121 t122 t123 t124 t125 t126 t127 t128 t129 t130 t131 t132 t133 t134 t135 t136 t137 t138 t139 t140 t141 t142 t143 t144 t145 t146 t147 t148 t149 t150 t151 t152 t153 t154 t155 t156 t157 t158 t159 t160 t161 t162 t163 t164 t165 t166 t167 t168 t169 t170 t171 t172 t173 t174 t175 t176 t177 t178 t179 t180 t181 t182 t183 t184 t185 t186 t187 t188 t189 t190 t191 t192 t193 t194 t195 t196 t197 t198 t199 t200 t201 t202 t203 t204 t205 t206 t207 t208 t209 t210 t211 t212 t213 t214 t215 t216 t217 t218 t219 t220 t221 t222 t223 t224 t225 t226 t227 t228 t229 t230 t231 t232 t233 t234 t235 t236 t237 t238 t239 t240 t241 t242 t243 t244 t245 t246 t247 t248 t249 t250 t251 t252 t253 t254 t255 t256 t257 t258 t259 t260 t261 t262 t263 t264 t265 t266 : Value)
    (hKK : ∀ (A2 : Option Addr) (n2 c2 : Nat) (v19 : Value) (u203 u204 u205 u206 u207 u208 u209 u210 u211 u212 : Value) (W2 : World), v19 = .slice A2 n2 c2 → ST w W2 m long drift tr ga ba gc bc hb lb bm v19 → K { tmps := #[t0, .int .i64 long, .int .i64 drift, .slice (some ad) l0.length c0, t4, t5, t6, t7, t8, .int .i64 (m : Int), .pointer (some ⟨ga, 0, none⟩), t11, .pointer (some ⟨gc, 0, none⟩), t13, .slice (some ⟨hb, 0, none⟩) m m, t15, .pointer (some ⟨bm, 0, none⟩), .pointer (some ⟨bm + 1, 0, none⟩), .slice (some ⟨lb, 0, none⟩) m m, v19, .int .i64 x, .int .i64 (a : Int), t22, .int .i64 k, t24, t25, t26, t27, t28, t29, t30, t31, t32, t33, t34, t35, t36, t37, t38, t39, t40, t41, t42, t43, t44, t45, t46, t47, t48, t49, t50, t51, t52, t53, t54, t55, t56, t57, t58, t59, t60, t61, t62, t63, t64, t65, t66, t67, t68, t69, t70, t71, t72, t73, t74, t75, t76, t77, t78, t79, t80, t81, t82, t83, t84, t85, t86, t87, t88, t89, t90, t91, t92, t93, t94, t95, t96, t97, t98, t99, t100, t101, t102, t103, t104, t105, t106, t107, t108, t109, t110, t111, t112, t113, t114, t115, t116, t117, .int .i64 kd, t119, t120, t121, t122, t123, t124, t125, t126, t127, t128, t129, t130, t131, t132, t133, t134, t135, t136, t137, t138, t139, t140, t141, t142, t143, t144, t145, t146, t147, t148, t149, t150, t151, t152, t153, t154, t155, t156, t157, t158, t159, t160, t161, t162, t163, t164, t165, t166, t167, t168, t169, t170, t171, t172, t173, t174, t175, t176, t177, t178, t179, t180, t181, t182, t183, t184, t185, t186, t187, t188, t189, t190, t191, t192, t193, t194, t195, t196, t197, t198, t199, t200, t201, t202, u203, u204, u205, u206, u207, u208, u209, u210, u211, u212, t213, t214, t215, t216, t217, t218, t219, t220, t221, t222, t223, t224, t225, t226, t227, t228, t229, t230, t231, t232, t233, t234, t235, t236, t237, t238, t239, t240, t241, t242, t243, t244, t245, t246, t247, t248, t249, t250, t251, t252, t253, t254, t255, t256, t257, t258, t259, t260, t261, t262, t263, t264, t265, t266], defers := [] } W2)
    (body : Code) (hbody : cL (cR (cR (cL (cL (cR (cL (cL (cR (cLt (cR (cE (cR (cE (cR (cL (cR (cL (cR (cR (cL (cL (cR (cL (cL (cR (cL (cR (cR (cR (cR (cR (cR (cR (cR (cR (cR (cR (cR (cR (Try.f11.body.getD .skip)))))))))))))))))))))))))))))))))))))))) = body) : body.wp Try.prog (Exit.then K Q) { tmps := #[t0, .int .i64 long, .int .i64 drift, .slice (some ad) l0.length c0, t4, t5, t6, t7, t8, .int .i64 (m : Int), .pointer (some ⟨ga, 0, none⟩), t11, .pointer (some ⟨gc, 0, none⟩), t13, .slice (some ⟨hb, 0, none⟩) m m, t15, .pointer (some ⟨bm, 0, none⟩), .pointer (some ⟨bm + 1, 0, none⟩), .slice (some ⟨lb, 0, none⟩) m m, .slice A n c, .int .i64 x, .int .i64 (a : Int), t22, .int .i64 k, t24, t25, t26, t27, t28, t29, t30, t31, t32, t33, t34, t35, t36, t37, t38, t39, t40, t41, t42, t43, t44, t45, t46, t47, t48, t49, t50, t51, t52, t53, t54, t55, t56, t57, t58, t59, t60, t61, t62, t63, t64, t65, t66, t67, t68, t69, t70, t71, t72, t73, t74, t75, t76, t77, t78, t79, t80, t81, t82, t83, t84, t85, t86, t87, t88, t89, t90, t91, t92, t93, t94, t95, t96, t97, t98, t99, t100, t101, t102, t103, t104, t105, t106, t107, t108, t109, t110, t111, t112, t113, t114, t115, t116, t117, .int .i64 kd, t119, t120, t121, t122, t123, t124, t125, t126, t127, t128, t129, t130, t131, t132, t133, t134, t135, t136, t137, t138, t139, t140, t141, t142, t143, t144, t145, t146, t147, t148, t149, t150, t151, t152, t153, t154, t155, t156, t157, t158, t159, t160, t161, t162, t163, t164, t165, t166, t167, t168, t169, t170, t171, t172, t173, t174, t175, t176, t177, t178, t179, t180, t181, t182, t183, t184, t185, t186, t187, t188, t189, t190, t191, t192, t193, t194, t195, t196, t197, t198, t199, t200, t201, t202, t203, t204, t205, t206, t207, t208, t209, t210, t211, t212, t213, t214, t215, t216, t217, t218, t219, t220, t221, t222, t223, t224, t225, t226, t227, t228, t229, t230, t231, t232, t233, t234, t235, t236, t237, t238, t239, t240, t241, t242, t243, t244, t245, t246, t247, t248, t249, t250, t251, t252, t253, t254, t255, t256, t257, t258, t259, t260, t261, t262, t263, t264, t265, t266], defers := [] } W := by
  have HKK := Aside0.mk hKK
  clear hKK y2 y3
  have e1 : IntKind.i64.wrap (k + 1) = k + 1 := by rw [i64_w]; unfold wrap64; have := Hk.out; have := HN.out; omega
  have e2 : wrap64 (k + 1) = k + 1 := by rw [← i64_w]; exact e1
  obtain ⟨i85, hi85, hz85⟩ := Option.map_eq_some_iff.1 info85
  have hcu1 := cut_to (P := Try.prog) 81 85 .i64 Try.underlying81 hi85 A n c k Hk.out.1 (by have := Hk.out; omega) HN.out.2.1
  have hcu2 := cut_from (P := Try.prog) 81 85 .i64 Try.underlying81 hi85 2 (by simp only [Prod.mk.injEq] at hz85; exact hz85.2.1) A n c (k + 1) (by have := Hk.out; omega) (by have := Hk.out; omega)
  have HCw : Aside0 (kW.C W A ws.length ws) := ⟨by exact (Kd.R_reads' HA.out.way).2.2⟩
  have HT1 : Aside0 (∀ W2, Below W.heap.size W W2 → Kd.C kW W2 A (ws.take k.toNat).length (ws.take k.toNat)) := ⟨fun W2 hb2 => Kd.C_take (Kd.C_below HCw.out hb2) (by have := Hk.out; have := HN.out; omega)⟩
  have HT2 : Aside0 (∀ W2, Below W.heap.size W W2 → Kd.C kW W2 (if c = (k + 1).toNat then A else A.map (·.add ((k + 1).toNat * 2))) (ws.drop (k + 1).toNat).length (ws.drop (k + 1).toNat)) := ⟨fun W2 hb2 => Kd.C_drop (Kd.C_below HCw.out hb2) (by have := Hk.out; have := HN.out; omega) (by have := HN.out; omega)⟩
  have HLe : Aside0 ((ws.take k.toNat).length = k.toNat ∧ (ws.drop (k + 1).toNat).length = n - (k + 1).toNat) := ⟨by rw [List.length_take, List.length_drop]; have := Hk.out; have := HN.out; omega⟩
  rw [HLe.out.1] at HT1
  rw [HLe.out.2] at HT2
  clear hi85 hz85
  subst hbody
  simp only [cL, cR, cLt, cE, Try.f11, Option.getD_some]
  have HBd : Aside0 (Below W.heap.size W W.drew) := ⟨(Below.refl _ _).drew⟩
  refine start_ (n := 11) (S := fun w' => True) (ds := [0, 4, 9]) #[false, false, false, false, false, false, false, false, false, false, false] (by kernel_rfl) rfl rfl trivial (fun hHeld => ?_)
  refine pure_ (i := 1) (N := some 204) (v := ?_) (a' := ?_) #[false, true, false, false, false, false, false, false, false, false, false] rfl rfl (by kernel_rfl) (fun _ _ _ h => HQp.out _ _ _ _ h) (Or.inl ⟨by rfl, ?_⟩) ?_ ?_
  rotate_left
  · intro w'
    go_simp
    with_reducible rfl
  rotate_left
  · simp only [Act.put, List.setIfInBounds_toArray, List.set_cons_zero, List.set_cons_succ, i64_w, i32_w]
    rfl
  refine pure_ (i := 2) (N := some 205) (v := ?_) (a' := ?_) #[false, true, true, false, false, false, false, false, false, false, false] rfl rfl (by kernel_rfl) (fun _ _ _ h => HQp.out _ _ _ _ h) (Or.inl ⟨by rfl, ?_⟩) ?_ ?_
  rotate_left
  · intro w'
    go_simp
    with_reducible rfl
  rotate_left
  · simp only [Act.put, List.setIfInBounds_toArray, List.set_cons_zero, List.set_cons_succ, i64_w, i32_w]
    rfl
  refine pure_ (i := 3) (N := some 206) (v := ?_) (a' := ?_) #[false, true, true, true, false, false, false, false, false, false, false] rfl rfl (by kernel_rfl) (fun _ _ _ h => HQp.out _ _ _ _ h) (Or.inl ⟨by rfl, ?_⟩) ?_ ?_
  rotate_left
  · intro w'
    go_simp
    with_reducible rfl
  rotate_left
  · simp only [Act.put, List.setIfInBounds_toArray, List.set_cons_zero, List.set_cons_succ, i64_w, i32_w]
    rfl
  refine pure_ (i := 5) (N := some 208) (v := ?_) (a' := ?_) #[false, true, true, true, false, true, false, false, false, false, false] rfl rfl (by kernel_rfl) (fun _ _ _ h => HQp.out _ _ _ _ h) (Or.inl ⟨by rfl, ?_⟩) ?_ ?_
  rotate_left
  · intro w'
    go_simp
    with_reducible rfl
  rotate_left
  · simp only [Act.put, List.setIfInBounds_toArray, List.set_cons_zero, List.set_cons_succ, i64_w, i32_w]
    rfl
  refine pure_ (i := 6) (N := some 209) (v := ?_) (a' := ?_) #[false, true, true, true, false, true, true, false, false, false, false] rfl rfl (by kernel_rfl) (fun _ _ _ h => HQp.out _ _ _ _ h) (Or.inl ⟨by rfl, ?_⟩) ?_ ?_
  rotate_left
  · intro w'
    go_simp
    with_reducible rfl
  rotate_left
  · simp only [Act.put, List.setIfInBounds_toArray, List.set_cons_zero, List.set_cons_succ, i64_w, i32_w]
    rfl
  refine pure_ (i := 7) (N := some 210) (v := ?_) (a' := ?_) #[false, true, true, true, false, true, true, true, false, false, false] rfl rfl (by kernel_rfl) (fun _ _ _ h => HQp.out _ _ _ _ h) (Or.inl ⟨by rfl, ?_⟩) ?_ ?_
  rotate_left
  · intro w'
    go_simp
    with_reducible rfl
  rotate_left
  · simp only [Act.put, List.setIfInBounds_toArray, List.set_cons_zero, List.set_cons_succ, i64_w, i32_w]
    rfl
  refine pure_ (i := 8) (N := some 211) (v := ?_) (a' := ?_) #[false, true, true, true, false, true, true, true, true, false, false] rfl rfl (by kernel_rfl) (fun _ _ _ h => HQp.out _ _ _ _ h) (Or.inl ⟨by rfl, ?_⟩) ?_ ?_
  rotate_left
  · intro w'
    go_simp
    with_reducible rfl
  rotate_left
  · simp only [Act.put, List.setIfInBounds_toArray, List.set_cons_zero, List.set_cons_succ, i64_w, i32_w]
    rfl
  refine last_ (i := 0) (N := some 203) #[true, true, true, true, false, true, true, true, true, false, false] rfl rfl (by kernel_rfl) (by decide) (fun K hK => ?_)
  refine Kd.R_lit_step kW (w0 := W) W.heap.size 85 (by rfl) (N := 203) rfl (xs := ([] : List (Int × Int))) (inner := []) (ok := fun _ => True) (okp := fun _ => True) ?hr (Reps.none _ _) (fun _ hk => hk) trivial ?hB ?hS (by simp) ?_
  (case hr => first | (go_simp; done) | (go_simp; rfl))
  (case hB => exact HBd.out)
  (case hS => exact HBd.out.size)
  intro v1 w1 ho1 hb1 hg1 hn1
  refine hK.out _ _ ?_
  clear hK K
  refine norm_ (a' := ?_) ?_ ?_
  rotate_left
  · show Act.put _ (some 203) _ = _
    simp only [Act.put, List.setIfInBounds_toArray, List.set_cons_zero, List.set_cons_succ, i64_w, i32_w]
    rfl
  refine last_ (i := 4) (N := some 207) #[true, true, true, true, true, true, true, true, true, false, false] rfl rfl (by kernel_rfl) (by decide) (fun K hK => ?_)
  refine Kd.R_append_rows_step kW (w0 := W) W.heap.size (by rfl) (.tmp 203) (.tmp 206) 81 85 (.agg #[.int .i64 0, .int .i64 0]) 16 rfl Try.underlying81 info85 rfl (by decide) (by omega) v1 ([] : List (Int × Int)) (ws.take k.toNat) _ _ _ (fun _ => True) (fun _ => False) rfl rfl ?aO ?aR (fun _ _ h => h) (fun _ h => h.elim) ?aF ?aB ?aS ?aL ?_
  (case aR => exact HT1.out _ hb1)
  (case aB => exact hb1)
  (case aF => exact fun _ _ => trivial)
  (case aO => exact ho1)
  (case aS => exact hb1.size)
  (case aL => have := HN.out; have := Hk.out; simp only [List.length_nil]; omega)
  intro v2 w2 ho2 hb2 hg2 hat2
  rw [List.nil_append] at ho2
  refine hK.out _ _ ?_
  clear hK K
  refine norm_ (a' := ?_) ?_ ?_
  rotate_left
  · show Act.put _ (some 207) _ = _
    simp only [Act.put, List.setIfInBounds_toArray, List.set_cons_zero, List.set_cons_succ, i64_w, i32_w]
    rfl
  refine last_ (i := 9) (N := some 212) #[true, true, true, true, true, true, true, true, true, true, false] rfl rfl (by kernel_rfl) (by decide) (fun K hK => ?_)
  refine Kd.R_append_rows_step kW (w0 := W) W.heap.size (by rfl) (.tmp 207) (.tmp 211) 81 85 (.agg #[.int .i64 0, .int .i64 0]) 16 rfl Try.underlying81 info85 rfl (by decide) (by omega) v2 (ws.take k.toNat) (ws.drop (k + 1).toNat) _ _ _ (fun _ => True) (fun _ => False) rfl rfl ?aO ?aR (fun _ _ h => h) (fun _ h => h.elim) ?aF ?aB ?aS ?aL ?_
  (case aR => exact HT2.out _ hb2)
  (case aB => exact hb2)
  (case aF => exact fun _ _ => trivial)
  (case aO => exact ho2)
  (case aS => exact hb2.size)
  (case aL => have := HN.out; have := Hk.out; have := HLe.out; rw [HLe.out.1]; omega)
  intro v3 w3 ho3 hb3 hg3 hat3
  refine hK.out _ _ ?_
  clear hK K
  refine norm_ (a' := ?_) ?_ ?_
  rotate_left
  · show Act.put _ (some 212) _ = _
    simp only [Act.put, List.setIfInBounds_toArray, List.set_cons_zero, List.set_cons_succ, i64_w, i32_w]
    rfl
  refine pure_ (i := 10) (N := some 19) (v := ?_) (a' := ?_) #[true, true, true, true, true, true, true, true, true, true, true] rfl rfl (by kernel_rfl) (fun _ _ _ h => HQp.out _ _ _ _ h) (Or.inl ⟨by rfl, ?_⟩) ?_ ?_
  rotate_left
  · intro w'
    go_simp
    with_reducible rfl
  rotate_left
  · simp only [Act.put, List.setIfInBounds_toArray, List.set_cons_zero, List.set_cons_succ, i64_w, i32_w]
    rfl
  refine done_ (by kernel_rfl) ?_
  clear hHeld
  have HO3 := Aside0.mk (And.intro ho3 hb3)
  obtain ⟨A3', c3', rfl⟩ := Kd.R_slice ho3
  clear ho1 hb1 hg1 hn1 ho2 hb2 hg2 hat2 ho3 hb3 hg3 hat3 hcu1 hcu2
  have HST : Aside0 (ST w w3 m long drift tr ga ba gc bc hb lb bm (.slice A3' (ws.take k.toNat ++ ws.drop (k + 1).toNat).length c3')) := ⟨⟨tag, gs, t, dr, now, asked, lt, bl, nd, un, _, HA.out.newW HO3.out.2 HO3.out.1, HG.out.sub (fun x hx => by
    rcases List.mem_append.1 hx with h | h
    · exact List.mem_of_mem_take h
    · exact List.mem_of_mem_drop h), HK.out, by rw [List.length_append]; have := HLe.out; have := Hk.out; have := HN.out; omega⟩⟩
  obtain ⟨n3, en3⟩ : ∃ n3, (ws.take k.toNat ++ ws.drop (k + 1).toNat).length = n3 := ⟨_, rfl⟩
  rw [en3] at HST ⊢
  clear en3
  go_wp2
  all_goals exact HKK.out _ _ _ _ _ _ _ _ _ _ _ _ _ _ _ rfl HST.out
end Go.Proofs.Ytfmcpceilkkhfaa.P
