/- LeaseAlone: what no kind stands for (written by gen_sk.py). -/
import Derived.Test.YtfmcpceilkkhfaaSe
import Derived.Test.YtfmcpceilkkhfaaLv2
namespace Go.Proofs.Ytfmcpceilkkhfaa.P
open Go.RowKit Go.Proofs.YtfmcpceilkkhfaaW.PrintWords Go.Proofs.YtfmcpceilkkhfaaW.PrintLast Go.Proofs.YtfmcpceilkkhfaaW.PrintMore
attribute [local go_sem] max2_int min2_int max_two min_two max_three min_three max_four min_four
set_option linter.unusedVariables false
set_option linter.unusedSimpArgs false
attribute [local go_sem high] eqA34
/-- Parts of a function's code. -/
def cL : Code → Code
  | .seq a _ => a
  | .block _ a => a
  | .loop a => a
  | .rangeFunc _ _ _ b => b
  | c => c
def cR : Code → Code
  | .seq _ b => b
  | c => c
set_option maxHeartbeats 32000000 in
set_option maxRecDepth 100000 in
theorem kind0 (w : World) {m : Nat} {long drift tr : Int} {ad : Addr} {c0 : Nat} {l0 : List S83} {ga ba gc bc hb lb bm : Nat} {A : Option Addr} {n c : Nat} {x : Int} {a : Nat} {kd tm : Int} {A3 : Option Addr} {c3 : Nat} {on : List Int} (W : World)
    {tag gs : Nat → Nat} {t dr : Int} {now asked : List Int} {lt : Nat → Bool} {bl nd un : Nat → Int} {ws : List (Int × Int)} (HA : Aside0 (AP w W tag m long tr ga ba gc bc hb lb bm gs t dr now asked lt bl nd un (.slice A n c) ws)) (HG : Aside0 (GA m long drift tr now asked lt bl un ws)) (HK : Aside0 (ClkOk t now dr))
    (HN : Aside0 (n = ws.length ∧ n ≤ c ∧ n ≤ 5000)) (HM : Aside0 (1 ≤ m ∧ m ≤ 7 ∧ a < m)) (HL : Aside0 ((1 ≤ long ∧ long ≤ 1048576) ∧ (0 ≤ drift ∧ drift ≤ 999))) (HTr : Aside0 (tr = long * (1000 - drift) / (1000 + drift))) (HX : Aside0 (0 ≤ x ∧ x < (l0.length : Int) ∧ l0.length ≤ c0))
    (y2 : W.cell? ⟨(ad.add (x.toNat * 4)).block, (ad.add (x.toNat * 4)).off + 2, none⟩ = some (.int .i64 tm)) (y3 : W.cell? ⟨(ad.add (x.toNat * 4)).block, (ad.add (x.toNat * 4)).off + 3, none⟩ = some (.slice A3 on.length c3))
    (HR : Aside0 ((∀ W2, Below w.heap.size w W2 → W2.cell? ⟨(ad.add (x.toNat * 4)).block, (ad.add (x.toNat * 4)).off + 2, none⟩ = some (.int .i64 tm) ∧ W2.cell? ⟨(ad.add (x.toNat * 4)).block, (ad.add (x.toNat * 4)).off + 3, none⟩ = some (.slice A3 on.length c3)) ∧ (Kd.int .i64).C w A3 on.length on ∧ on.length < 17592186044416))
    (hk : kd ≠ 1 ∧ kd ≠ 2 ∧ kd ≠ 3 ∧ kd ≠ 4 ∧ kd ≠ 5)
    {K : Act → World → Prop} {Q : Exit → Act → World → Prop} (t0 t4 t5 t6 t7 t8 t11 t13 t15 t22 t23 t24 t25 t26 t27 t28 t29 t30 t31 t32 t33 t34 t35 t36 t37 t38 t39 t40 t41 t42 t43 t44 t45 t46 t47 t48 t49 t50 t51 t52 t53 t54 t55 t56 t57 t58 t59 t60 t61 t62 t63 t64 t65 t66 t67 t68 t69 t70 t71 t72 t73 t74 t75 t76 t77 t78 t79 t80 t81 t82 t83 t84 t85 t86 t87 t88 t89 t90 t91 t92 t93 t94 t95 t96 t97 t98 t99 t100 t101 t102 t103 t104 t105 t106 t107 t108 t109 t110 t111 t112 t113 t114 t115 t116 t117 t119 t120 t121 t122 t123 t124 t125 t126 t127 t128 t129 t130 t131 t132 t133 t134 t135 t136 t137 t138 t139 t140 t141 t142 t143 t144 t145 t146 t147 t148 t149 t150 t151 t152 t153 t154 t155 t156 t157 t158 t159 t160 t161 t162 t163 t164 t165 t166 t167 t168 t169 t170 t171 t172 t173 t174 t175 t176 t177 t178 t179 t180 t181 t182 t183 t184 t185 t186 t187 t188 t189 t190 t191 t192 t193 t194 t195 t196 t197 t198 t199 t200 t201 t202 t203 t204 t205 t206 t207 t208 t209 t210 t211 t212 t213 t214 t215 t216 t217 t218 t219 t220 t221 t222 t223 t224 t225 t226 t227 t228 t229 t230 t231 t232 t233 t234 t235 t236 t237 t238 t239 t240 t241 t242 t243 t244 t245 t246 t247 t248 t249 t250 t251 t252 t253 t254 t255 t256 t257 t258 t259 t260 t261 t262 t263 t264 t265 t266 : Value)
    (HQp : Aside0 (∀ c a a2 w, Q (.panic c) a w → Q (.panic c) a2 w)) (hKK : ∀ (A2 : Option Addr) (n2 c2 : Nat) (v19 : Value) (u22 u23 u119 u120 u121 u122 u123 u124 u125 u126 u127 u128 u129 u130 u131 u132 u133 u134 u135 u136 u137 u138 u139 u140 u141 u142 u143 u144 u145 u146 u147 u148 u149 u150 u151 u152 u153 u154 u155 u156 u157 u158 u159 u160 u161 u162 u163 u164 u165 u166 u167 u168 u169 u170 u171 u172 u173 u174 u175 u176 u177 u178 u179 u180 u181 u182 u183 u184 u185 u186 u187 u188 u189 u190 u191 u192 u193 u194 u195 u196 u197 u198 u199 u200 u201 u202 u203 u204 u205 u206 u207 u208 u209 u210 u211 u212 u213 u214 u215 u216 u217 u218 u219 u220 u221 u222 u223 u224 u225 u226 u227 u228 u229 u230 u231 u232 u233 u234 u235 u236 u237 u238 u239 u240 u241 u242 u243 u244 u245 : Value) (W2 : World), v19 = .slice A2 n2 c2 → ST w W2 m long drift tr ga ba gc bc hb lb bm v19 → K { tmps := #[t0, .int .i64 long, .int .i64 drift, .slice (some ad) l0.length c0, t4, t5, t6, t7, t8, .int .i64 (m : Int), .pointer (some ⟨ga, 0, none⟩), t11, .pointer (some ⟨gc, 0, none⟩), t13, .slice (some ⟨hb, 0, none⟩) m m, t15, .pointer (some ⟨bm, 0, none⟩), .pointer (some ⟨bm + 1, 0, none⟩), .slice (some ⟨lb, 0, none⟩) m m, v19, .int .i64 x, .int .i64 (a : Int), u22, u23, t24, t25, t26, t27, t28, t29, t30, t31, t32, t33, t34, t35, t36, t37, t38, t39, t40, t41, t42, t43, t44, t45, t46, t47, t48, t49, t50, t51, t52, t53, t54, t55, t56, t57, t58, t59, t60, t61, t62, t63, t64, t65, t66, t67, t68, t69, t70, t71, t72, t73, t74, t75, t76, t77, t78, t79, t80, t81, t82, t83, t84, t85, t86, t87, t88, t89, t90, t91, t92, t93, t94, t95, t96, t97, t98, t99, t100, t101, t102, t103, t104, t105, t106, t107, t108, t109, t110, t111, t112, t113, t114, t115, t116, t117, .int .i64 kd, u119, u120, u121, u122, u123, u124, u125, u126, u127, u128, u129, u130, u131, u132, u133, u134, u135, u136, u137, u138, u139, u140, u141, u142, u143, u144, u145, u146, u147, u148, u149, u150, u151, u152, u153, u154, u155, u156, u157, u158, u159, u160, u161, u162, u163, u164, u165, u166, u167, u168, u169, u170, u171, u172, u173, u174, u175, u176, u177, u178, u179, u180, u181, u182, u183, u184, u185, u186, u187, u188, u189, u190, u191, u192, u193, u194, u195, u196, u197, u198, u199, u200, u201, u202, u203, u204, u205, u206, u207, u208, u209, u210, u211, u212, u213, u214, u215, u216, u217, u218, u219, u220, u221, u222, u223, u224, u225, u226, u227, u228, u229, u230, u231, u232, u233, u234, u235, u236, u237, u238, u239, u240, u241, u242, u243, u244, u245, t246, t247, t248, t249, t250, t251, t252, t253, t254, t255, t256, t257, t258, t259, t260, t261, t262, t263, t264, t265, t266], defers := [] } W2) (body : Code) (hbody : cR (cL (cR (cR (cL (cL (cR (cL (cL (cR (cL (cR (cR (cR (cR (cR (cR (cR (cR (cR (cR (cR (cR (cR (Try.f11.body.getD .skip)))))))))))))))))))))))) = body) : body.wp Try.prog (Exit.then K Q) { tmps := #[t0, .int .i64 long, .int .i64 drift, .slice (some ad) l0.length c0, t4, t5, t6, t7, t8, .int .i64 (m : Int), .pointer (some ⟨ga, 0, none⟩), t11, .pointer (some ⟨gc, 0, none⟩), t13, .slice (some ⟨hb, 0, none⟩) m m, t15, .pointer (some ⟨bm, 0, none⟩), .pointer (some ⟨bm + 1, 0, none⟩), .slice (some ⟨lb, 0, none⟩) m m, .slice A n c, .int .i64 x, .int .i64 (a : Int), t22, t23, t24, t25, t26, t27, t28, t29, t30, t31, t32, t33, t34, t35, t36, t37, t38, t39, t40, t41, t42, t43, t44, t45, t46, t47, t48, t49, t50, t51, t52, t53, t54, t55, t56, t57, t58, t59, t60, t61, t62, t63, t64, t65, t66, t67, t68, t69, t70, t71, t72, t73, t74, t75, t76, t77, t78, t79, t80, t81, t82, t83, t84, t85, t86, t87, t88, t89, t90, t91, t92, t93, t94, t95, t96, t97, t98, t99, t100, t101, t102, t103, t104, t105, t106, t107, t108, t109, t110, t111, t112, t113, t114, t115, t116, t117, .int .i64 kd, t119, t120, t121, t122, t123, t124, t125, t126, t127, t128, t129, t130, t131, t132, t133, t134, t135, t136, t137, t138, t139, t140, t141, t142, t143, t144, t145, t146, t147, t148, t149, t150, t151, t152, t153, t154, t155, t156, t157, t158, t159, t160, t161, t162, t163, t164, t165, t166, t167, t168, t169, t170, t171, t172, t173, t174, t175, t176, t177, t178, t179, t180, t181, t182, t183, t184, t185, t186, t187, t188, t189, t190, t191, t192, t193, t194, t195, t196, t197, t198, t199, t200, t201, t202, t203, t204, t205, t206, t207, t208, t209, t210, t211, t212, t213, t214, t215, t216, t217, t218, t219, t220, t221, t222, t223, t224, t225, t226, t227, t228, t229, t230, t231, t232, t233, t234, t235, t236, t237, t238, t239, t240, t241, t242, t243, t244, t245, t246, t247, t248, t249, t250, t251, t252, t253, t254, t255, t256, t257, t258, t259, t260, t261, t262, t263, t264, t265, t266], defers := [] } W := by
  have n1 : (kd == 1) = false := beq_eq_false_iff_ne.mpr hk.1
  have n2 : (kd == 2) = false := beq_eq_false_iff_ne.mpr hk.2.1
  have n3 : (kd == 3) = false := beq_eq_false_iff_ne.mpr hk.2.2.1
  have n4 : (kd == 4) = false := beq_eq_false_iff_ne.mpr hk.2.2.2.1
  have n5 : (kd == 5) = false := beq_eq_false_iff_ne.mpr hk.2.2.2.2
  clear hk
  have HKK := Aside0.mk hKK
  clear hKK
  have p0 : (0 ≤ x) = True := eq_true HX.out.1
  have p1 : (x < (l0.length : Int)) = True := eq_true HX.out.2.1
  have pc : (l0.length ≤ c0) = True := eq_true HX.out.2.2
  have pa0 : (0 ≤ (a : Int)) = True := eq_true (by omega)
  have pa1 : ((a : Int) < (m : Int)) = True := eq_true (by have := HM.out; omega)
  have pa2 : (a < m) = True := eq_true HM.out.2.2
  have ean : ((a : Int)).toNat = a := Int.toNat_natCast a
  subst hbody
  simp only [cL, cR, Try.f11, Option.getD_some]
  go_wp2
  exact HKK.out A n c _ _ _ _ _ _ _ _ _ _ _ _ _ _ _ _ _ _ _ _ _ _ _ _ _ _ _ _ _ _ _ _ _ _ _ _ _ _ _ _ _ _ _ _ _ _ _ _ _ _ _ _ _ _ _ _ _ _ _ _ _ _ _ _ _ _ _ _ _ _ _ _ _ _ _ _ _ _ _ _ _ _ _ _ _ _ _ _ _ _ _ _ _ _ _ _ _ _ _ _ _ _ _ _ _ _ _ _ _ _ _ _ _ _ _ _ _ _ _ _ _ _ _ _ _ _ _ _ _ _ _ rfl ⟨tag, gs, t, dr, now, asked, lt, bl, nd, un, ws, HA.out, HG.out, HK.out, by have := HN.out; omega⟩
end Go.Proofs.Ytfmcpceilkkhfaa.P
