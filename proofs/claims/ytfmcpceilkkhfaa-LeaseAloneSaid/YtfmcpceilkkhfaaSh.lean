/- LeaseAlone: another ballot asked for, a crash (written by gen_sk.py). -/
import Derived.Test.YtfmcpceilkkhfaaSe
import Derived.Test.YtfmcpceilkkhfaaLv2
import Derived.Test.YtfmcpceilkkhfaaSf
namespace Go.Proofs.Ytfmcpceilkkhfaa.P
open Go.RowKit Go.Proofs.YtfmcpceilkkhfaaW.PrintWords Go.Proofs.YtfmcpceilkkhfaaW.PrintLast Go.Proofs.YtfmcpceilkkhfaaW.PrintMore
attribute [local go_sem] max2_int min2_int max_two min_two max_three min_three max_four min_four
set_option linter.unusedVariables false
set_option linter.unusedSimpArgs false
attribute [local go_sem high] eqA34
theorem upd_upd {α : Type} (f : Nat → α) (k : Nat) (u v : α) : upd (upd f k u) k v = upd f k v := funext fun j => by
  unfold upd
  split <;> rfl
set_option maxHeartbeats 32000000 in
set_option maxRecDepth 100000 in
theorem kind5 (w : World) {m : Nat} {long drift tr : Int} {ad : Addr} {c0 : Nat} {l0 : List S83} {ga ba gc bc hb lb bm : Nat} {A : Option Addr} {n c : Nat} {x : Int} {a : Nat} {kd tm : Int} {A3 : Option Addr} {c3 : Nat} {on : List Int} (W : World)
    {tag gs : Nat → Nat} {t dr : Int} {now asked : List Int} {lt : Nat → Bool} {bl nd un : Nat → Int} {ws : List (Int × Int)} (HA : Aside0 (AP w W tag m long tr ga ba gc bc hb lb bm gs t dr now asked lt bl nd un (.slice A n c) ws)) (HG : Aside0 (GA m long drift tr now asked lt bl un ws)) (HK : Aside0 (ClkOk t now dr))
    (HN : Aside0 (n = ws.length ∧ n ≤ c ∧ n ≤ 5000)) (HM : Aside0 (1 ≤ m ∧ m ≤ 7 ∧ a < m)) (HL : Aside0 ((1 ≤ long ∧ long ≤ 1048576) ∧ (0 ≤ drift ∧ drift ≤ 999))) (HTr : Aside0 (tr = long * (1000 - drift) / (1000 + drift))) (HX : Aside0 (0 ≤ x ∧ x < (l0.length : Int) ∧ l0.length ≤ c0))
    (y2 : W.cell? ⟨(ad.add (x.toNat * 4)).block, (ad.add (x.toNat * 4)).off + 2, none⟩ = some (.int .i64 tm)) (y3 : W.cell? ⟨(ad.add (x.toNat * 4)).block, (ad.add (x.toNat * 4)).off + 3, none⟩ = some (.slice A3 on.length c3))
    (HR : Aside0 ((∀ W2, Below w.heap.size w W2 → W2.cell? ⟨(ad.add (x.toNat * 4)).block, (ad.add (x.toNat * 4)).off + 2, none⟩ = some (.int .i64 tm) ∧ W2.cell? ⟨(ad.add (x.toNat * 4)).block, (ad.add (x.toNat * 4)).off + 3, none⟩ = some (.slice A3 on.length c3)) ∧ (Kd.int .i64).C w A3 on.length on ∧ on.length < 17592186044416))
    (hk : kd = 5)
    {K : Act → World → Prop} {Q : Exit → Act → World → Prop} (t0 t4 t5 t6 t7 t8 t11 t13 t15 t22 t23 t24 t25 t26 t27 t28 t29 t30 t31 t32 t33 t34 t35 t36 t37 t38 t39 t40 t41 t42 t43 t44 t45 t46 t47 t48 t49 t50 t51 t52 t53 t54 t55 t56 t57 t58 t59 t60 t61 t62 t63 t64 t65 t66 t67 t68 t69 t70 t71 t72 t73 t74 t75 t76 t77 t78 t79 t80 t81 t82 t83 t84 t85 t86 t87 t88 t89 t90 t91 t92 t93 t94 t95 t96 t97 t98 t99 t100 t101 t102 t103 t104 t105 t106 t107 t108 t109 t110 t111 t112 t113 t114 t115 t116 t117 t119 t120 t121 t122 t123 t124 t125 t126 t127 t128 t129 t130 t131 t132 t133 t134 t135 t136 t137 t138 t139 t140 t141 t142 t143 t144 t145 t146 t147 t148 t149 t150 t151 t152 t153 t154 t155 t156 t157 t158 t159 t160 t161 t162 t163 t164 t165 t166 t167 t168 t169 t170 t171 t172 t173 t174 t175 t176 t177 t178 t179 t180 t181 t182 t183 t184 t185 t186 t187 t188 t189 t190 t191 t192 t193 t194 t195 t196 t197 t198 t199 t200 t201 t202 t203 t204 t205 t206 t207 t208 t209 t210 t211 t212 t213 t214 t215 t216 t217 t218 t219 t220 t221 t222 t223 t224 t225 t226 t227 t228 t229 t230 t231 t232 t233 t234 t235 t236 t237 t238 t239 t240 t241 t242 t243 t244 t245 t246 t247 t248 t249 t250 t251 t252 t253 t254 t255 t256 t257 t258 t259 t260 t261 t262 t263 t264 t265 t266 : Value)
    (HQp : Aside0 (∀ c a a2 w, Q (.panic c) a w → Q (.panic c) a2 w)) (hKK : ∀ (A2 : Option Addr) (n2 c2 : Nat) (v19 : Value) (u22 u23 u119 u120 u121 u122 u123 u124 u125 u126 u127 u128 u129 u130 u131 u132 u133 u134 u135 u136 u137 u138 u139 u140 u141 u142 u143 u144 u145 u146 u147 u148 u149 u150 u151 u152 u153 u154 u155 u156 u157 u158 u159 u160 u161 u162 u163 u164 u165 u166 u167 u168 u169 u170 u171 u172 u173 u174 u175 u176 u177 u178 u179 u180 u181 u182 u183 u184 u185 u186 u187 u188 u189 u190 u191 u192 u193 u194 u195 u196 u197 u198 u199 u200 u201 u202 u203 u204 u205 u206 u207 u208 u209 u210 u211 u212 u213 u214 u215 u216 u217 u218 u219 u220 u221 u222 u223 u224 u225 u226 u227 u228 u229 u230 u231 u232 u233 u234 u235 u236 u237 u238 u239 u240 u241 u242 u243 u244 u245 : Value) (W2 : World), v19 = .slice A2 n2 c2 → ST w W2 m long drift tr ga ba gc bc hb lb bm v19 → K { tmps := #[t0, .int .i64 long, .int .i64 drift, .slice (some ad) l0.length c0, t4, t5, t6, t7, t8, .int .i64 (m : Int), .pointer (some ⟨ga, 0, none⟩), t11, .pointer (some ⟨gc, 0, none⟩), t13, .slice (some ⟨hb, 0, none⟩) m m, t15, .pointer (some ⟨bm, 0, none⟩), .pointer (some ⟨bm + 1, 0, none⟩), .slice (some ⟨lb, 0, none⟩) m m, v19, .int .i64 x, .int .i64 (a : Int), u22, u23, t24, t25, t26, t27, t28, t29, t30, t31, t32, t33, t34, t35, t36, t37, t38, t39, t40, t41, t42, t43, t44, t45, t46, t47, t48, t49, t50, t51, t52, t53, t54, t55, t56, t57, t58, t59, t60, t61, t62, t63, t64, t65, t66, t67, t68, t69, t70, t71, t72, t73, t74, t75, t76, t77, t78, t79, t80, t81, t82, t83, t84, t85, t86, t87, t88, t89, t90, t91, t92, t93, t94, t95, t96, t97, t98, t99, t100, t101, t102, t103, t104, t105, t106, t107, t108, t109, t110, t111, t112, t113, t114, t115, t116, t117, .int .i64 kd, u119, u120, u121, u122, u123, u124, u125, u126, u127, u128, u129, u130, u131, u132, u133, u134, u135, u136, u137, u138, u139, u140, u141, u142, u143, u144, u145, u146, u147, u148, u149, u150, u151, u152, u153, u154, u155, u156, u157, u158, u159, u160, u161, u162, u163, u164, u165, u166, u167, u168, u169, u170, u171, u172, u173, u174, u175, u176, u177, u178, u179, u180, u181, u182, u183, u184, u185, u186, u187, u188, u189, u190, u191, u192, u193, u194, u195, u196, u197, u198, u199, u200, u201, u202, u203, u204, u205, u206, u207, u208, u209, u210, u211, u212, u213, u214, u215, u216, u217, u218, u219, u220, u221, u222, u223, u224, u225, u226, u227, u228, u229, u230, u231, u232, u233, u234, u235, u236, u237, u238, u239, u240, u241, u242, u243, u244, u245, t246, t247, t248, t249, t250, t251, t252, t253, t254, t255, t256, t257, t258, t259, t260, t261, t262, t263, t264, t265, t266], defers := [] } W2) (body : Code) (hbody : cR (cL (cR (cR (cL (cL (cR (cL (cL (cR (cL (cR (cR (cR (cR (cR (cR (cR (cR (cR (cR (cR (cR (cR (Try.f11.body.getD .skip)))))))))))))))))))))))) = body) : body.wp Try.prog (Exit.then K Q) { tmps := #[t0, .int .i64 long, .int .i64 drift, .slice (some ad) l0.length c0, t4, t5, t6, t7, t8, .int .i64 (m : Int), .pointer (some ⟨ga, 0, none⟩), t11, .pointer (some ⟨gc, 0, none⟩), t13, .slice (some ⟨hb, 0, none⟩) m m, t15, .pointer (some ⟨bm, 0, none⟩), .pointer (some ⟨bm + 1, 0, none⟩), .slice (some ⟨lb, 0, none⟩) m m, .slice A n c, .int .i64 x, .int .i64 (a : Int), t22, t23, t24, t25, t26, t27, t28, t29, t30, t31, t32, t33, t34, t35, t36, t37, t38, t39, t40, t41, t42, t43, t44, t45, t46, t47, t48, t49, t50, t51, t52, t53, t54, t55, t56, t57, t58, t59, t60, t61, t62, t63, t64, t65, t66, t67, t68, t69, t70, t71, t72, t73, t74, t75, t76, t77, t78, t79, t80, t81, t82, t83, t84, t85, t86, t87, t88, t89, t90, t91, t92, t93, t94, t95, t96, t97, t98, t99, t100, t101, t102, t103, t104, t105, t106, t107, t108, t109, t110, t111, t112, t113, t114, t115, t116, t117, .int .i64 kd, t119, t120, t121, t122, t123, t124, t125, t126, t127, t128, t129, t130, t131, t132, t133, t134, t135, t136, t137, t138, t139, t140, t141, t142, t143, t144, t145, t146, t147, t148, t149, t150, t151, t152, t153, t154, t155, t156, t157, t158, t159, t160, t161, t162, t163, t164, t165, t166, t167, t168, t169, t170, t171, t172, t173, t174, t175, t176, t177, t178, t179, t180, t181, t182, t183, t184, t185, t186, t187, t188, t189, t190, t191, t192, t193, t194, t195, t196, t197, t198, t199, t200, t201, t202, t203, t204, t205, t206, t207, t208, t209, t210, t211, t212, t213, t214, t215, t216, t217, t218, t219, t220, t221, t222, t223, t224, t225, t226, t227, t228, t229, t230, t231, t232, t233, t234, t235, t236, t237, t238, t239, t240, t241, t242, t243, t244, t245, t246, t247, t248, t249, t250, t251, t252, t253, t254, t255, t256, t257, t258, t259, t260, t261, t262, t263, t264, t265, t266], defers := [] } W := by
  have n1 : (kd == 1) = false := by rw [hk]; rfl
  have n2 : (kd == 2) = false := by rw [hk]; rfl
  have n3 : (kd == 3) = false := by rw [hk]; rfl
  have n4 : (kd == 4) = false := by rw [hk]; rfl
  have n5 : (kd == 5) = true := by rw [hk]; rfl
  clear hk
  have HKK := Aside0.mk hKK
  clear hKK
  have p0 : (0 ≤ x) = True := eq_true HX.out.1
  have p1 : (x < (l0.length : Int)) = True := eq_true HX.out.2.1
  have pc : (l0.length ≤ c0) = True := eq_true HX.out.2.2
  have pa0 : (0 ≤ (a : Int)) = True := eq_true (by omega)
  have pa1 : ((a : Int) < (m : Int)) = True := eq_true (by have := HM.out; omega)
  have pa2 : (a < m) = True := eq_true HM.out.2.2
  have ean : ((a : Int)).toNat = a := Int.toNat_natCast a
  subst hbody
  simp only [cL, cR, Try.f11, Option.getD_some]
  obtain ⟨na, ena⟩ : ∃ na, rd now (a : Int) = na := ⟨_, rfl⟩
  have HNa : Aside0 (rd now (a : Int) = na ∧ nowAt now (a : Int) = na ∧ nowB na = true) := ⟨ena, by
    unfold nowAt
    have h1 := HG.out.len
    have h2 := HM.out
    rw [if_pos (by omega), ena], by
    have := HK.out.2.1 a (by have := HG.out.len; have := HM.out; omega)
    rw [ena] at this
    exact nowB_iff.mpr this⟩
  have HLn : Aside0 (0 < now.length ∧ now.length ≤ 7) := ⟨by have := HG.out.len; have := HM.out; omega⟩
  clear ena
  obtain ⟨bb, ebb⟩ : ∃ bb, blocksB (bl a) (nd a) (un a) 6 1 na = bb := ⟨_, rfl⟩
  obtain ⟨ga2, ega⟩ : ∃ ga2, gs a = ga2 := ⟨_, rfl⟩
  have HBb : Aside0 (blocksB (bl a) (nd a) (un a) 6 1 na = bb ∧ gs a = ga2) := ⟨ebb, ega⟩
  clear ebb ega
  have HCell : Aside0 (∀ W2, Below W.heap.size W W2 → W2.cell? ⟨hb, a, none⟩ = some (.pointer (some ⟨ga2, 0, none⟩)) ∧ W2.cell? ⟨bm + 1, 0, none⟩ = some (.int .i64 6) ∧ W2.cell? ⟨bm + 1, 1, none⟩ = some (.int .i64 1)) := ⟨fun W2 hb2 => by
    have h := HA.out.step hb2
    exact ⟨by rw [h.ptr HM.out.2.2, HBb.out.2], (blk_cell h.mine.2 0).trans rfl, (blk_cell h.mine.2 1).trans rfl⟩⟩
  obtain ⟨o1, o2, o3⟩ := HCell.out W (Below.refl _ _)
  have HC26 : Aside0 (∀ W2, Below W.heap.size W W2 → Calls Try.prog 26 #[.pointer (some ⟨gc, 0, none⟩), .int .i64 (a : Int)] W2 fun e w' => e = .returned (.int .i64 na) ∧ w'.cell? ⟨hb, a, none⟩ = some (.pointer (some ⟨ga2, 0, none⟩)) ∧ w'.cell? ⟨bm + 1, 0, none⟩ = some (.int .i64 6) ∧ w'.cell? ⟨bm + 1, 1, none⟩ = some (.int .i64 1) ∧ Aside0 (Below W.heap.size W w')) := ⟨fun W2 hb2 => by
    have ha := HA.out.step hb2
    refine (Now.at (a : Int) W2 ha.clk HLn.out.1 HLn.out.2).mono ?_
    rintro e w' ⟨rfl, hd⟩
    have hb3 := below_step hb2 (Drawn0.below hd)
    obtain ⟨h1, h2, h3⟩ := HCell.out w' hb3
    exact ⟨by rw [HNa.out.2.1], h1, h2, h3, ⟨hb3⟩⟩⟩
  have HC19 : Aside0 (∀ W2, Aside0 (Below W.heap.size W W2) → Calls Try.prog 19 #[.pointer (some ⟨ga2, 0, none⟩), .agg #[.int .i64 6, .int .i64 1], .int .i64 na] W2 fun e w' => e = .returned (.bool bb) ∧ Aside0 (Below W.heap.size W w')) := ⟨fun W2 hb2 => by
    have ha := HA.out.step hb2.out
    have h := ha.hld a HM.out.2.2
    rw [HBb.out.2] at h
    refine (Blocks.at 6 1 na W2 h).mono ?_
    rintro e w' ⟨rfl, hb3⟩
    exact ⟨by rw [HBb.out.1], ⟨below_step hb2.out hb3⟩⟩⟩
  go_upto_region 48 with (fail)
  refine start_ (n := 10) (S := fun w' => w'.cell? ⟨hb, a, none⟩ = some (.pointer (some ⟨ga2, 0, none⟩)) ∧ w'.cell? ⟨bm + 1, 0, none⟩ = some (.int .i64 6) ∧ w'.cell? ⟨bm + 1, 1, none⟩ = some (.int .i64 1)) (ds := [8]) #[false, false, false, false, false, false, false, false, false, false] (by kernel_rfl) rfl rfl ⟨o1, o2, o3⟩ (fun hHeld => ?_)
  refine pure_ (i := 0) (N := some 233) (v := ?_) (a' := ?_) #[true, false, false, false, false, false, false, false, false, false] rfl rfl (by kernel_rfl) (fun _ _ _ h => HQp.out _ _ _ _ h) (Or.inl ⟨by rfl, ?_⟩) ?_ ?_
  rotate_left
  · intro w'
    go_simp
    with_reducible rfl
  rotate_left
  · simp only [Act.put, List.setIfInBounds_toArray, List.set_cons_zero, List.set_cons_succ, i64_w, i32_w]
    rfl
  refine pure_ (i := 1) (N := some 234) (v := ?_) (a' := ?_) #[true, true, false, false, false, false, false, false, false, false] rfl rfl (by kernel_rfl) (fun _ _ _ h => HQp.out _ _ _ _ h) (Or.inl ⟨by rfl, ?_⟩) ?_ ?_
  rotate_left
  · intro w'
    go_simp
    with_reducible rfl
  rotate_left
  · simp only [Act.put, List.setIfInBounds_toArray, List.set_cons_zero, List.set_cons_succ, i64_w, i32_w]
    rfl
  refine pure_ (i := 2) (N := some 235) (v := ?_) (a' := ?_) #[true, true, true, false, false, false, false, false, false, false] rfl rfl (by kernel_rfl) (fun _ _ _ h => HQp.out _ _ _ _ h) (Or.inl ⟨by rfl, ?_⟩) ?_ ?_
  rotate_left
  · intro w'
    go_simp
    with_reducible rfl
  rotate_left
  · simp only [Act.put, List.setIfInBounds_toArray, List.set_cons_zero, List.set_cons_succ, i64_w, i32_w]
    rfl
  refine pure_ (i := 5) (N := some 238) (v := ?_) (a' := ?_) #[true, true, true, false, false, true, false, false, false, false] rfl rfl (by kernel_rfl) (fun _ _ _ h => HQp.out _ _ _ _ h) (Or.inl ⟨by rfl, ?_⟩) ?_ ?_
  rotate_left
  · intro w'
    go_simp
    with_reducible rfl
  rotate_left
  · simp only [Act.put, List.setIfInBounds_toArray, List.set_cons_zero, List.set_cons_succ, i64_w, i32_w]
    rfl
  refine pure_ (i := 6) (N := some 239) (v := ?_) (a' := ?_) #[true, true, true, false, false, true, true, false, false, false] rfl rfl (by kernel_rfl) (fun _ _ _ h => HQp.out _ _ _ _ h) (Or.inl ⟨by rfl, ?_⟩) ?_ ?_
  rotate_left
  · intro w'
    go_simp
    with_reducible rfl
  rotate_left
  · simp only [Act.put, List.setIfInBounds_toArray, List.set_cons_zero, List.set_cons_succ, i64_w, i32_w]
    rfl
  refine take_ (i := 3) (N := some 236) (v := ?_) (a' := ?_) #[true, true, true, true, false, true, true, false, false, false] rfl rfl (by kernel_rfl) (fun _ _ _ h => HQp.out _ _ _ _ h) (Or.inl ⟨by rfl, ?_⟩) hHeld ?_ ?_
  rotate_left
  · rintro w' ⟨s0, s1, s2⟩
    go_simp
    with_reducible rfl
  rotate_left
  · simp only [Act.put, List.setIfInBounds_toArray, List.set_cons_zero, List.set_cons_succ, i64_w, i32_w]
    rfl
  refine take_ (i := 4) (N := some 237) (v := ?_) (a' := ?_) #[true, true, true, true, true, true, true, false, false, false] rfl rfl (by kernel_rfl) (fun _ _ _ h => HQp.out _ _ _ _ h) (Or.inl ⟨by rfl, ?_⟩) hHeld ?_ ?_
  rotate_left
  · rintro w' ⟨s0, s1, s2⟩
    go_simp
    with_reducible rfl
  rotate_left
  · simp only [Act.put, List.setIfInBounds_toArray, List.set_cons_zero, List.set_cons_succ, i64_w, i32_w]
    rfl
  refine one_ (i := 7) (N := some 240) #[true, true, true, true, true, true, true, true, false, false] rfl rfl (by kernel_rfl) (by decide) (fun K hK => ?_)
  refine goes_ Try.func26 (by kernel_rfl) rfl #[.pointer (some ⟨gc, 0, none⟩), .int .i64 (a : Int)] (by rfl) rfl rfl (by simp only [List.map_toArray, List.map_cons, List.map_nil]; rfl) ?_
  with_reducible refine (HC26.out _ (Below.drew (Below.refl _ _))).mono ?_
  rintro e z1 ⟨rfl, q1, q2, q3, q4⟩
  refine ⟨_, rfl, ?_⟩
  refine hK.out _ _ ⟨q1, q2, q3⟩ (fun hHeld => ?_)
  clear hK K
  refine norm_ (a' := ?_) ?_ ?_
  rotate_left
  · show Act.put _ (some 240) _ = _
    simp only [Act.put, List.setIfInBounds_toArray, List.set_cons_zero, List.set_cons_succ, i64_w, i32_w]
    rfl
  refine last_ (i := 8) (N := some 241) #[true, true, true, true, true, true, true, true, true, false] rfl rfl (by kernel_rfl) (by decide) (fun K hK => ?_)
  refine goes_ Try.func19 (by kernel_rfl) rfl #[.pointer (some ⟨ga2, 0, none⟩), .agg #[.int .i64 6, .int .i64 1], .int .i64 na] (by rfl) rfl rfl (by simp only [List.map_toArray, List.map_cons, List.map_nil]; rfl) ?_
  with_reducible refine (HC19.out _ q4).mono ?_
  rintro e z2 ⟨rfl, q5⟩
  refine ⟨_, rfl, ?_⟩
  refine hK.out _ _ ?_
  clear hK K
  refine norm_ (a' := ?_) ?_ ?_
  rotate_left
  · show Act.put _ (some 241) _ = _
    simp only [Act.put, List.setIfInBounds_toArray, List.set_cons_zero, List.set_cons_succ, i64_w, i32_w]
    rfl
  refine pure_ (i := 9) (N := some 242) (v := ?_) (a' := ?_) #[true, true, true, true, true, true, true, true, true, true] rfl rfl (by kernel_rfl) (fun _ _ _ h => HQp.out _ _ _ _ h) (Or.inl ⟨by rfl, ?_⟩) ?_ ?_
  rotate_left
  · intro w'
    go_simp
    with_reducible rfl
  rotate_left
  · simp only [Act.put, List.setIfInBounds_toArray, List.set_cons_zero, List.set_cons_succ, i64_w, i32_w]
    rfl
  refine done_ (by kernel_rfl) ?_
  clear hHeld q1 q2 q3 o1 o2 o3 y2 y3
  have HZ2 := Aside0.mk (HA.out.step q5.out)
  cases bb with
  | true =>
    go_wp2
    exact HKK.out A n c _ _ _ _ _ _ _ _ _ _ _ _ _ _ _ _ _ _ _ _ _ _ _ _ _ _ _ _ _ _ _ _ _ _ _ _ _ _ _ _ _ _ _ _ _ _ _ _ _ _ _ _ _ _ _ _ _ _ _ _ _ _ _ _ _ _ _ _ _ _ _ _ _ _ _ _ _ _ _ _ _ _ _ _ _ _ _ _ _ _ _ _ _ _ _ _ _ _ _ _ _ _ _ _ _ _ _ _ _ _ _ _ _ _ _ _ _ _ _ _ _ _ _ _ _ _ _ _ _ _ _ rfl ⟨tag, gs, t, dr, now, asked, lt, bl, nd, un, ws, HZ2.out, HG.out, HK.out, by have := HN.out; omega⟩
  | false =>
    have o1 := HZ2.out.letAt HM.out.2.2
    have o2 : z2.frozen? ⟨lb, a, none⟩ = false := blk_frozen HZ2.out.lrow a
    go_wp2
    exact HKK.out A n c _ _ _ _ _ _ _ _ _ _ _ _ _ _ _ _ _ _ _ _ _ _ _ _ _ _ _ _ _ _ _ _ _ _ _ _ _ _ _ _ _ _ _ _ _ _ _ _ _ _ _ _ _ _ _ _ _ _ _ _ _ _ _ _ _ _ _ _ _ _ _ _ _ _ _ _ _ _ _ _ _ _ _ _ _ _ _ _ _ _ _ _ _ _ _ _ _ _ _ _ _ _ _ _ _ _ _ _ _ _ _ _ _ _ _ _ _ _ _ _ _ _ _ _ _ _ _ _ _ _ _ rfl ⟨tag, gs, t, dr, now, asked, _, bl, nd, un, ws, HZ2.out.setB HM.out.2.2, HG.out.lets HL.out.2 HTr.out HM.out.2.2 (by rw [HNa.out.1]; exact blocks_no (HG.out.bal a HM.out.2.2) HBb.out.1), HK.out, by have := HN.out; omega⟩
end Go.Proofs.Ytfmcpceilkkhfaa.P
