/- FrameScans: plain facts of frames, the boxes, and the loop's body. -/
import Derived.Test.YtlmpdlmamopbeaaFq
namespace Go.Proofs.Ytlmpdlmamopbeaa.P
open Go.RowKit Go.Proofs.YtlmpdlmamopbeaaW.PrintWords Go.Proofs.YtlmpdlmamopbeaaW.PrintLast Go.Proofs.YtlmpdlmamopbeaaW.PrintMore
attribute [local go_sem] Oper.semAt_some
set_option linter.unusedVariables false
set_option linter.unusedSimpArgs false
/-- Where the i-th frame begins. -/
def plF (M : List ByteArray) (i : Nat) : Int := ((totS (M.take i) : Nat) : Int)
theorem plF_zero (M : List ByteArray) : plF M 0 = 0 := rfl
theorem plF_succ {M : List ByteArray} {i : Nat} (h : i < M.length) : plF M (i + 1) = plF M i + 8 + (M[i].size : Int) := by
  unfold plF
  rw [totS_take_succ h]
  omega
theorem frL_get : ∀ (f : Nat) (b : List Int) (a k : Nat) (d : Fr), (frL f b a)[k]? = some d → d.i = ((a + totS ((paysOf (frL f b a)).take k) : Nat) : Int)
  | 0, b, a, k, d, h => by simp [frL] at h
  | f + 1, b, a, k, d, h => by
    unfold frL at h ⊢
    cases hf : firstL (b.drop a) with
    | none => rw [hf] at h; simp at h
    | some p =>
      rw [hf] at h
      have hsz : (strOfNums p).size = p.length := strOfNums_size p
      show d.i = ((a + totS ((strOfNums p :: paysOf (frL f b (a + 8 + p.length))).take k) : Nat) : Int)
      cases k with
      | zero =>
        have h : some (⟨(a : Int), strOfNums p⟩ : Fr) = some d := h
        obtain rfl := Option.some.inj h
        rfl
      | succ k =>
        have h : (frL f b (a + 8 + p.length))[k]? = some d := h
        rw [List.take_succ_cons, totS_cons, hsz, frL_get f b (a + 8 + p.length) k d h]
        omega
theorem frames_length (b : List Int) : (frames b).length = (scanS b).length := by rw [← pays_frames]; simp [paysOf]
theorem frames_get {b : List Int} {k : Nat} {d : Fr} (h : (frames b)[k]? = some d) : k < (scanS b).length ∧ (scanS b)[k]? = some d.s ∧ d.i = plF (scanS b) k := by
  have h1 := frL_get (b.length + 1) b 0 k d h
  have h2 : (scanS b)[k]? = some d.s := by
    rw [← pays_frames]
    unfold paysOf
    rw [List.getElem?_map, h]
    rfl
  refine ⟨(List.getElem?_eq_some_iff.1 h2).1, h2, ?_⟩
  have e : paysOf (frL (b.length + 1) b 0) = scanS b := pays_frames b
  rw [e, Nat.zero_add] at h1
  exact h1
/-- What comes next, where what has come is a part of the frames. -/
theorem next_fr {b : List Int} {pre : List Fr} {x : Fr} (h : pre ++ [x] <+: frames b) : (frames b)[pre.length]? = some x := by
  obtain ⟨t, ht⟩ := h
  rw [← ht, List.append_assoc, List.getElem?_append_right (Nat.le_refl _), Nat.sub_self]
  rfl
theorem not_over {b : List Int} {pre : List Fr} {x : Fr} (h : (scanS b).length ≤ pre.length) : ¬ pre ++ [x] <+: frames b := fun hp => by
  have := (frames_get (next_fr hp)).1
  omega
theorem not_ne {b : List Int} {pre : List Fr} {x : Fr} (h : rdOf ByteArray.empty (scanS b) (pre.length : Int) ≠ x.s) : ¬ pre ++ [x] <+: frames b := fun hp => by
  have h1 := frames_get (next_fr hp)
  apply h
  unfold rdOf
  rw [Int.toNat_natCast, List.getD_eq_getElem?_getD, h1.2.1]
  rfl
theorem bytes_ext {x y : ByteArray} (h : x.toList = y.toList) : x = y := by
  rw [ByteArray.toList_eq, ByteArray.toList_eq] at h
  cases x; cases y
  congr 1
  exact Array.toList_inj.1 h
theorem not_pl {b : List Int} {pre : List Fr} {x : Fr} (h : x.i ≠ plF (scanS b) pre.length) : ¬ pre ++ [x] <+: frames b := fun hp => h (frames_get (next_fr hp)).2.2
theorem plF_le {b : List Int} (hb : Bts b) (i : Nat) : 0 ≤ plF (scanS b) i ∧ plF (scanS b) i ≤ (b.length : Int) := by
  have h1 := totS_take (scanS b) i
  have h2 := (scan_spec hb).2.1
  unfold plF
  omega
theorem scan_len {b : List Int} (hb : Bts b) : (scanS b).length ≤ b.length := Nat.le_trans (len_tot _) (scan_spec hb).2.1
theorem box_set {W : World} {b t : Nat} {v : Value} (h : Boxed W b t v) (u : Value) : Boxed (W.setCell ⟨b, 0, none⟩ u) b t u := by
  have := blk_set h 0 u
  show (W.setCell ⟨b, 0, none⟩ u).heap[b]? = _
  simpa using this
/-- The boxes of i and of the place; all else that lay ahead of the loop lies as it lay. -/
structure FI (z0 x5 W : World) (T : Nat → Prop) (b11 b12 : Nat) (i : Int) (pl : Int) : Prop where
  i11 : Boxed W b11 3 (.int .i64 i)
  i12 : Boxed W b12 3 (.int .i64 pl)
  kept : Kept x5 W T
  below : Below z0.heap.size z0 W
theorem FI.own {z0 x5 A B : World} {T : Nat → Prop} {b11 b12 : Nat} {i pl : Int} {row : Option Nat} (h : FI z0 x5 A T b11 b12 i pl) (hg : A.grownBy B row) (hw : z0.heap.size ≤ x5.heap.size) (hT : ∀ k, x5.heap.size ≤ k → T k) (hr : ∀ r, row = some r → x5.heap.size ≤ r ∧ ∃ o : Obj, A.heap[r]? = some o ∧ o.isCells = false) : FI z0 x5 B T b11 b12 i pl :=
  ⟨boxed_own b11 3 (fun _ : Unit => .int .i64 i) () A B row h.i11 hg (fun r e => (hr r e).2), boxed_own b12 3 (fun _ : Unit => .int .i64 pl) () A B row h.i12 hg (fun r e => (hr r e).2), h.kept.of_grown hg (fun k hk => .inl (hT k (hr k hk).1)), h.below.grown hg h.below.size (fun k e => Nat.le_trans hw (hr k e).1)⟩
theorem FI.next {z0 x5 W : World} {T : Nat → Prop} {b11 b12 : Nat} {i pl j q : Int} (h : FI z0 x5 W T b11 b12 i pl) (hT : T b11 ∧ T b12) (hne : b11 ≠ b12) (hw : z0.heap.size ≤ b11 ∧ z0.heap.size ≤ b12) : FI z0 x5 ((W.setCell ⟨b12, 0, none⟩ (.int .i64 q)).setCell ⟨b11, 0, none⟩ (.int .i64 j)) T b11 b12 j q :=
  ⟨box_set (blk_far h.i11 (p := ⟨b12, 0, none⟩) hne _) _, blk_far (box_set h.i12 _) (p := ⟨b11, 0, none⟩) (fun e => hne e.symm) _, (h.kept.setCell (p := ⟨b12, 0, none⟩) (.inl hT.2) _).setCell (p := ⟨b11, 0, none⟩) (.inl hT.1) _, (h.below.setCell (p := ⟨b12, 0, none⟩) hw.2 _).setCell (p := ⟨b11, 0, none⟩) hw.1 _⟩
/-- Parts of a function's code. -/
def cL : Code → Code
  | .seq a _ => a
  | .block _ a => a
  | .loop a => a
  | .rangeFunc _ _ _ b => b
  | c => c
def cR : Code → Code
  | .seq _ b => b
  | c => c
set_option maxHeartbeats 64000000 in
set_option maxRecDepth 100000 in
theorem bodyF_over {Q : Prop} {T : Nat → Prop} {z0 x5 : World} {s b8 b10 b11 b12 B : Nat} {rv most xi : Int} {xs : ByteArray} {A8 : Option Addr} {c8 : Nat} {b : List Int} {pre : List Fr} (l : Nat) (W : World) (hi : FI z0 x5 W T b11 b12 (pre.length : Int) (plF (scanS b) pre.length)) (q3 : Boxed W s 3 (.int .i64 most)) (q4 : Boxed W (s + 1) 4 (.bool false)) (q8 : W.cell? ⟨b8, 0, none⟩ = some (.slice A8 (scanS b).length c8)) (q10 : Boxed W b10 3 (.int .i64 rv)) (hC : Kd.C Kd.string W A8 (scanS b).length (scanS b)) (hT : T b11 ∧ T b12) (hb : z0.heap.size ≤ b11 ∧ z0.heap.size ≤ b12 ∧ b11 ≠ b12 ∧ s ≠ b11 ∧ s ≠ b12 ∧ b10 ≠ b11 ∧ b10 ≠ b12) (hbt : Bts b) (hl : b.length ≤ 70368744177664) (hQ : rv = 0 → Q)
    (hk : (scanS b).length ≤ pre.length) (t0 t1 t2 t5 t6 t7 t9 t15 t16 t17 t18 t19 t20 t21 t22 t23 t24 t25 t26 t27 t28 t29 t30 t31 t32 t33 t34 t35 t36 t37 t38 t39 t40 t41 t42 t43 t44 t45 t46 t47 t48 t49 t50 t51 t52 t53 t54 t55 t56 t57 t58 t59 t60 t61 t62 t63 t64 t65 t66 t67 t68 t69 t70 t71 t72 t73 t74 t75 t76 t77 t78 t79 t80 t81 t82 t83 t84 t85 t86 t87 t88 t89 t90 t91 t92 t93 t94 t95 t96 t97 t98 t99 t100 t101 t102 t103 : Value) (body : Code) (hbody : cL (cL (cR (cL (cR (cR (cL (cL (cR (cL (cL (cR (cL (cR (cR (cR (cR (cR (Try.f4.body.getD .skip)))))))))))))))))) = body) :
    body.wpIn (Fence.wide.inRound l) 3 Try.prog (ownPostG B (fun A B => Kept A B T) (fun pre W => FI z0 x5 W T b11 b12 (pre.length : Int) (plF (scanS b) pre.length)) (fun c pre W => (c = .exit 2 ∧ Q ∧ most = (pre.length : Int) ∧ FI z0 x5 W T b11 b12 (pre.length : Int) (plF (scanS b) pre.length)) ∨ ¬ pre <+: frames b) (pre ++ [⟨xi, xs⟩]) W) { tmps := #[t0, t1, t2, .pointer (some ⟨s, 0, none⟩), .pointer (some ⟨s + 1, 0, none⟩), t5, t6, t7, .pointer (some ⟨b8, 0, none⟩), t9, .pointer (some ⟨b10, 0, none⟩), .pointer (some ⟨b11, 0, none⟩), .pointer (some ⟨b12, 0, none⟩), .int .i64 xi, .string xs, t15, t16, t17, t18, t19, t20, t21, t22, t23, t24, t25, t26, t27, t28, t29, t30, t31, t32, t33, t34, t35, t36, t37, t38, t39, t40, t41, t42, t43, t44, t45, t46, t47, t48, t49, t50, t51, t52, t53, t54, t55, t56, t57, t58, t59, t60, t61, t62, t63, t64, t65, t66, t67, t68, t69, t70, t71, t72, t73, t74, t75, t76, t77, t78, t79, t80, t81, t82, t83, t84, t85, t86, t87, t88, t89, t90, t91, t92, t93, t94, t95, t96, t97, t98, t99, t100, t101, t102, t103], defers := [] } W := by
  have HK := Aside0.mk hk
  clear hk
  have HI := Aside0.mk hi
  obtain ⟨iv, eiv⟩ : ∃ iv : Int, iv = (pre.length : Int) := ⟨_, rfl⟩
  obtain ⟨av, eav⟩ : ∃ av : Int, av = plF (scanS b) pre.length := ⟨_, rfl⟩
  obtain ⟨M, eM⟩ : ∃ M, M = scanS b := ⟨_, rfl⟩
  have HLen : Aside0 (M.length ≤ b.length ∧ b.length ≤ 70368744177664) := ⟨by rw [eM]; exact scan_len hbt, hl⟩
  have HV : Aside0 (iv = (pre.length : Int) ∧ av = plF M pre.length ∧ 0 ≤ av ∧ av ≤ (b.length : Int)) := ⟨eiv, by rw [eM]; exact eav, by rw [eav]; exact plF_le hbt _⟩
  have HT2 := Aside0.mk hT
  have HBn := Aside0.mk hb
  have q11 : W.cell? ⟨b11, 0, none⟩ = some (.int .i64 iv) := by rw [eiv]; exact hi.i11.cell
  have f11 := hi.i11.frozen
  have q12 : W.cell? ⟨b12, 0, none⟩ = some (.int .i64 av) := by rw [eav]; exact hi.i12.cell
  have f12 := hi.i12.frozen
  have HEM := Aside0.mk eM
  have f4 := q4.frozen
  have HQ4 := Aside0.mk q4
  rw [← eM] at q8 hC HK
  have HCw := Aside0.mk hC
  replace q4 := HQ4.out.cell
  clear hi eiv eav eM hT hb hC hbt hl
  have HQ3 := Aside0.mk q3
  have HQ10 := Aside0.mk q10
  replace q3 := HQ3.out.cell
  replace q10 := HQ10.out.cell
  subst hbody
  simp only [cL, cR, Try.f4, Option.getD_some]
  have d1 : decide ((M.length : Int) ≤ iv) = true := decide_eq_true (by have := HV.out; have := HK.out; omega)
  gi_wp2
  exact ⟨(KeepsOthers.setCell _ _ _).from _, .inr (not_over (HEM.out ▸ HK.out))⟩
set_option maxHeartbeats 64000000 in
set_option maxRecDepth 100000 in
theorem bodyF_ne {Q : Prop} {T : Nat → Prop} {z0 x5 : World} {s b8 b10 b11 b12 B : Nat} {rv most xi : Int} {xs : ByteArray} {A8 : Option Addr} {c8 : Nat} {b : List Int} {pre : List Fr} (l : Nat) (W : World) (hi : FI z0 x5 W T b11 b12 (pre.length : Int) (plF (scanS b) pre.length)) (q3 : Boxed W s 3 (.int .i64 most)) (q4 : Boxed W (s + 1) 4 (.bool false)) (q8 : W.cell? ⟨b8, 0, none⟩ = some (.slice A8 (scanS b).length c8)) (q10 : Boxed W b10 3 (.int .i64 rv)) (hC : Kd.C Kd.string W A8 (scanS b).length (scanS b)) (hT : T b11 ∧ T b12) (hb : z0.heap.size ≤ b11 ∧ z0.heap.size ≤ b12 ∧ b11 ≠ b12 ∧ s ≠ b11 ∧ s ≠ b12 ∧ b10 ≠ b11 ∧ b10 ≠ b12) (hbt : Bts b) (hl : b.length ≤ 70368744177664) (hQ : rv = 0 → Q)
    (hk : pre.length < (scanS b).length ∧ rdOf ByteArray.empty (scanS b) (pre.length : Int) ≠ xs) (t0 t1 t2 t5 t6 t7 t9 t15 t16 t17 t18 t19 t20 t21 t22 t23 t24 t25 t26 t27 t28 t29 t30 t31 t32 t33 t34 t35 t36 t37 t38 t39 t40 t41 t42 t43 t44 t45 t46 t47 t48 t49 t50 t51 t52 t53 t54 t55 t56 t57 t58 t59 t60 t61 t62 t63 t64 t65 t66 t67 t68 t69 t70 t71 t72 t73 t74 t75 t76 t77 t78 t79 t80 t81 t82 t83 t84 t85 t86 t87 t88 t89 t90 t91 t92 t93 t94 t95 t96 t97 t98 t99 t100 t101 t102 t103 : Value) (body : Code) (hbody : cL (cL (cR (cL (cR (cR (cL (cL (cR (cL (cL (cR (cL (cR (cR (cR (cR (cR (Try.f4.body.getD .skip)))))))))))))))))) = body) :
    body.wpIn (Fence.wide.inRound l) 3 Try.prog (ownPostG B (fun A B => Kept A B T) (fun pre W => FI z0 x5 W T b11 b12 (pre.length : Int) (plF (scanS b) pre.length)) (fun c pre W => (c = .exit 2 ∧ Q ∧ most = (pre.length : Int) ∧ FI z0 x5 W T b11 b12 (pre.length : Int) (plF (scanS b) pre.length)) ∨ ¬ pre <+: frames b) (pre ++ [⟨xi, xs⟩]) W) { tmps := #[t0, t1, t2, .pointer (some ⟨s, 0, none⟩), .pointer (some ⟨s + 1, 0, none⟩), t5, t6, t7, .pointer (some ⟨b8, 0, none⟩), t9, .pointer (some ⟨b10, 0, none⟩), .pointer (some ⟨b11, 0, none⟩), .pointer (some ⟨b12, 0, none⟩), .int .i64 xi, .string xs, t15, t16, t17, t18, t19, t20, t21, t22, t23, t24, t25, t26, t27, t28, t29, t30, t31, t32, t33, t34, t35, t36, t37, t38, t39, t40, t41, t42, t43, t44, t45, t46, t47, t48, t49, t50, t51, t52, t53, t54, t55, t56, t57, t58, t59, t60, t61, t62, t63, t64, t65, t66, t67, t68, t69, t70, t71, t72, t73, t74, t75, t76, t77, t78, t79, t80, t81, t82, t83, t84, t85, t86, t87, t88, t89, t90, t91, t92, t93, t94, t95, t96, t97, t98, t99, t100, t101, t102, t103], defers := [] } W := by
  have HK := Aside0.mk hk
  clear hk
  have HI := Aside0.mk hi
  obtain ⟨iv, eiv⟩ : ∃ iv : Int, iv = (pre.length : Int) := ⟨_, rfl⟩
  obtain ⟨av, eav⟩ : ∃ av : Int, av = plF (scanS b) pre.length := ⟨_, rfl⟩
  obtain ⟨M, eM⟩ : ∃ M, M = scanS b := ⟨_, rfl⟩
  have HLen : Aside0 (M.length ≤ b.length ∧ b.length ≤ 70368744177664) := ⟨by rw [eM]; exact scan_len hbt, hl⟩
  have HV : Aside0 (iv = (pre.length : Int) ∧ av = plF M pre.length ∧ 0 ≤ av ∧ av ≤ (b.length : Int)) := ⟨eiv, by rw [eM]; exact eav, by rw [eav]; exact plF_le hbt _⟩
  have HT2 := Aside0.mk hT
  have HBn := Aside0.mk hb
  have q11 : W.cell? ⟨b11, 0, none⟩ = some (.int .i64 iv) := by rw [eiv]; exact hi.i11.cell
  have f11 := hi.i11.frozen
  have q12 : W.cell? ⟨b12, 0, none⟩ = some (.int .i64 av) := by rw [eav]; exact hi.i12.cell
  have f12 := hi.i12.frozen
  have HEM := Aside0.mk eM
  have f4 := q4.frozen
  have HQ4 := Aside0.mk q4
  rw [← eM] at q8 hC HK
  have HCw := Aside0.mk hC
  replace q4 := HQ4.out.cell
  clear hi eiv eav eM hT hb hC hbt hl
  have HQ3 := Aside0.mk q3
  have HQ10 := Aside0.mk q10
  replace q3 := HQ3.out.cell
  replace q10 := HQ10.out.cell
  subst hbody
  simp only [cL, cR, Try.f4, Option.getD_some]
  have p0 : 0 ≤ iv := by have := HV.out; omega
  have p1 : iv < (M.length : Int) := by have := HV.out; have := HK.out; omega
  have d1 : decide ((M.length : Int) ≤ iv) = false := decide_eq_false (by omega)
  obtain ⟨ad, eA, hx⟩ := Kd.at_string HCw.out iv p0 p1
  subst eA
  obtain ⟨g, eg⟩ : ∃ g, rdOf ByteArray.empty M iv = g := ⟨_, rfl⟩
  rw [eg] at hx
  have HG : Aside0 (rdOf ByteArray.empty (scanS b) (pre.length : Int) = g) := ⟨by rw [← HEM.out, ← HV.out.1]; exact eg⟩
  clear eg
  replace p0 := eq_true p0
  replace p1 := eq_true p1
  have hn : ¬ xs.toList = g.toList := fun e => HK.out.2 (by rw [← HEM.out] at HG; rw [HG.out, bytes_ext e])
  have hn1 : (xs.toList == g.toList) = false := beq_eq_false_iff_ne.mpr hn
  have hn2 : (xs.toList != g.toList) = true := bne_iff_ne.mpr hn
  gi_wp2
  exact ⟨(KeepsOthers.setCell _ _ _).from _, .inr (not_ne (x := ⟨xi, xs⟩) (HEM.out ▸ HK.out.2))⟩
set_option maxHeartbeats 64000000 in
set_option maxRecDepth 100000 in
theorem bodyF_pl {Q : Prop} {T : Nat → Prop} {z0 x5 : World} {s b8 b10 b11 b12 B : Nat} {rv most xi : Int} {xs : ByteArray} {A8 : Option Addr} {c8 : Nat} {b : List Int} {pre : List Fr} (l : Nat) (W : World) (hi : FI z0 x5 W T b11 b12 (pre.length : Int) (plF (scanS b) pre.length)) (q3 : Boxed W s 3 (.int .i64 most)) (q4 : Boxed W (s + 1) 4 (.bool false)) (q8 : W.cell? ⟨b8, 0, none⟩ = some (.slice A8 (scanS b).length c8)) (q10 : Boxed W b10 3 (.int .i64 rv)) (hC : Kd.C Kd.string W A8 (scanS b).length (scanS b)) (hT : T b11 ∧ T b12) (hb : z0.heap.size ≤ b11 ∧ z0.heap.size ≤ b12 ∧ b11 ≠ b12 ∧ s ≠ b11 ∧ s ≠ b12 ∧ b10 ≠ b11 ∧ b10 ≠ b12) (hbt : Bts b) (hl : b.length ≤ 70368744177664) (hQ : rv = 0 → Q)
    (hk : pre.length < (scanS b).length ∧ rdOf ByteArray.empty (scanS b) (pre.length : Int) = xs ∧ xi ≠ plF (scanS b) pre.length) (t0 t1 t2 t5 t6 t7 t9 t15 t16 t17 t18 t19 t20 t21 t22 t23 t24 t25 t26 t27 t28 t29 t30 t31 t32 t33 t34 t35 t36 t37 t38 t39 t40 t41 t42 t43 t44 t45 t46 t47 t48 t49 t50 t51 t52 t53 t54 t55 t56 t57 t58 t59 t60 t61 t62 t63 t64 t65 t66 t67 t68 t69 t70 t71 t72 t73 t74 t75 t76 t77 t78 t79 t80 t81 t82 t83 t84 t85 t86 t87 t88 t89 t90 t91 t92 t93 t94 t95 t96 t97 t98 t99 t100 t101 t102 t103 : Value) (body : Code) (hbody : cL (cL (cR (cL (cR (cR (cL (cL (cR (cL (cL (cR (cL (cR (cR (cR (cR (cR (Try.f4.body.getD .skip)))))))))))))))))) = body) :
    body.wpIn (Fence.wide.inRound l) 3 Try.prog (ownPostG B (fun A B => Kept A B T) (fun pre W => FI z0 x5 W T b11 b12 (pre.length : Int) (plF (scanS b) pre.length)) (fun c pre W => (c = .exit 2 ∧ Q ∧ most = (pre.length : Int) ∧ FI z0 x5 W T b11 b12 (pre.length : Int) (plF (scanS b) pre.length)) ∨ ¬ pre <+: frames b) (pre ++ [⟨xi, xs⟩]) W) { tmps := #[t0, t1, t2, .pointer (some ⟨s, 0, none⟩), .pointer (some ⟨s + 1, 0, none⟩), t5, t6, t7, .pointer (some ⟨b8, 0, none⟩), t9, .pointer (some ⟨b10, 0, none⟩), .pointer (some ⟨b11, 0, none⟩), .pointer (some ⟨b12, 0, none⟩), .int .i64 xi, .string xs, t15, t16, t17, t18, t19, t20, t21, t22, t23, t24, t25, t26, t27, t28, t29, t30, t31, t32, t33, t34, t35, t36, t37, t38, t39, t40, t41, t42, t43, t44, t45, t46, t47, t48, t49, t50, t51, t52, t53, t54, t55, t56, t57, t58, t59, t60, t61, t62, t63, t64, t65, t66, t67, t68, t69, t70, t71, t72, t73, t74, t75, t76, t77, t78, t79, t80, t81, t82, t83, t84, t85, t86, t87, t88, t89, t90, t91, t92, t93, t94, t95, t96, t97, t98, t99, t100, t101, t102, t103], defers := [] } W := by
  have HK := Aside0.mk hk
  clear hk
  have HI := Aside0.mk hi
  obtain ⟨iv, eiv⟩ : ∃ iv : Int, iv = (pre.length : Int) := ⟨_, rfl⟩
  obtain ⟨av, eav⟩ : ∃ av : Int, av = plF (scanS b) pre.length := ⟨_, rfl⟩
  obtain ⟨M, eM⟩ : ∃ M, M = scanS b := ⟨_, rfl⟩
  have HLen : Aside0 (M.length ≤ b.length ∧ b.length ≤ 70368744177664) := ⟨by rw [eM]; exact scan_len hbt, hl⟩
  have HV : Aside0 (iv = (pre.length : Int) ∧ av = plF M pre.length ∧ 0 ≤ av ∧ av ≤ (b.length : Int)) := ⟨eiv, by rw [eM]; exact eav, by rw [eav]; exact plF_le hbt _⟩
  have HT2 := Aside0.mk hT
  have HBn := Aside0.mk hb
  have q11 : W.cell? ⟨b11, 0, none⟩ = some (.int .i64 iv) := by rw [eiv]; exact hi.i11.cell
  have f11 := hi.i11.frozen
  have q12 : W.cell? ⟨b12, 0, none⟩ = some (.int .i64 av) := by rw [eav]; exact hi.i12.cell
  have f12 := hi.i12.frozen
  have HEM := Aside0.mk eM
  have f4 := q4.frozen
  have HQ4 := Aside0.mk q4
  rw [← eM] at q8 hC HK
  have HCw := Aside0.mk hC
  replace q4 := HQ4.out.cell
  clear hi eiv eav eM hT hb hC hbt hl
  have HQ3 := Aside0.mk q3
  have HQ10 := Aside0.mk q10
  replace q3 := HQ3.out.cell
  replace q10 := HQ10.out.cell
  subst hbody
  simp only [cL, cR, Try.f4, Option.getD_some]
  have p0 : 0 ≤ iv := by have := HV.out; omega
  have p1 : iv < (M.length : Int) := by have := HV.out; have := HK.out.1; omega
  have d1 : decide ((M.length : Int) ≤ iv) = false := decide_eq_false (by omega)
  obtain ⟨ad, eA, hx⟩ := Kd.at_string HCw.out iv p0 p1
  subst eA
  obtain ⟨g, eg⟩ : ∃ g, rdOf ByteArray.empty M iv = g := ⟨_, rfl⟩
  rw [eg] at hx
  have HG : Aside0 (rdOf ByteArray.empty (scanS b) (pre.length : Int) = g) := ⟨by rw [← HEM.out, ← HV.out.1]; exact eg⟩
  clear eg
  replace p0 := eq_true p0
  replace p1 := eq_true p1
  have hs : xs.toList = g.toList := by rw [← HEM.out] at HG; rw [← HG.out, HK.out.2.1]
  have hn1 : (xs.toList == g.toList) = true := beq_iff_eq.mpr hs
  have hn2 : (xs.toList != g.toList) = false := bne_eq_false_iff_eq.mpr hs
  have HP : Aside0 (xi ≠ av) := ⟨fun e => HK.out.2.2 (by rw [e]; exact HV.out.2.1)⟩
  have hp1 : (xi == av) = false := beq_eq_false_iff_ne.mpr HP.out
  have hp2 : (xi != av) = true := bne_iff_ne.mpr HP.out
  gi_wp2
  exact ⟨(KeepsOthers.setCell _ _ _).from _, .inr (not_pl (x := ⟨xi, xs⟩) (HEM.out ▸ HK.out.2.2))⟩
set_option maxHeartbeats 64000000 in
set_option maxRecDepth 100000 in
theorem bodyF_go {Q : Prop} {T : Nat → Prop} {z0 x5 : World} {s b8 b10 b11 b12 B : Nat} {rv most xi : Int} {xs : ByteArray} {A8 : Option Addr} {c8 : Nat} {b : List Int} {pre : List Fr} (l : Nat) (W : World) (hi : FI z0 x5 W T b11 b12 (pre.length : Int) (plF (scanS b) pre.length)) (q3 : Boxed W s 3 (.int .i64 most)) (q4 : Boxed W (s + 1) 4 (.bool false)) (q8 : W.cell? ⟨b8, 0, none⟩ = some (.slice A8 (scanS b).length c8)) (q10 : Boxed W b10 3 (.int .i64 rv)) (hC : Kd.C Kd.string W A8 (scanS b).length (scanS b)) (hT : T b11 ∧ T b12) (hb : z0.heap.size ≤ b11 ∧ z0.heap.size ≤ b12 ∧ b11 ≠ b12 ∧ s ≠ b11 ∧ s ≠ b12 ∧ b10 ≠ b11 ∧ b10 ≠ b12) (hbt : Bts b) (hl : b.length ≤ 70368744177664) (hQ : rv = 0 → Q)
    (hk : pre.length < (scanS b).length ∧ rdOf ByteArray.empty (scanS b) (pre.length : Int) = xs ∧ xi = plF (scanS b) pre.length) (t0 t1 t2 t5 t6 t7 t9 t15 t16 t17 t18 t19 t20 t21 t22 t23 t24 t25 t26 t27 t28 t29 t30 t31 t32 t33 t34 t35 t36 t37 t38 t39 t40 t41 t42 t43 t44 t45 t46 t47 t48 t49 t50 t51 t52 t53 t54 t55 t56 t57 t58 t59 t60 t61 t62 t63 t64 t65 t66 t67 t68 t69 t70 t71 t72 t73 t74 t75 t76 t77 t78 t79 t80 t81 t82 t83 t84 t85 t86 t87 t88 t89 t90 t91 t92 t93 t94 t95 t96 t97 t98 t99 t100 t101 t102 t103 : Value) (body : Code) (hbody : cL (cL (cR (cL (cR (cR (cL (cL (cR (cL (cL (cR (cL (cR (cR (cR (cR (cR (Try.f4.body.getD .skip)))))))))))))))))) = body) :
    body.wpIn (Fence.wide.inRound l) 3 Try.prog (ownPostG B (fun A B => Kept A B T) (fun pre W => FI z0 x5 W T b11 b12 (pre.length : Int) (plF (scanS b) pre.length)) (fun c pre W => (c = .exit 2 ∧ Q ∧ most = (pre.length : Int) ∧ FI z0 x5 W T b11 b12 (pre.length : Int) (plF (scanS b) pre.length)) ∨ ¬ pre <+: frames b) (pre ++ [⟨xi, xs⟩]) W) { tmps := #[t0, t1, t2, .pointer (some ⟨s, 0, none⟩), .pointer (some ⟨s + 1, 0, none⟩), t5, t6, t7, .pointer (some ⟨b8, 0, none⟩), t9, .pointer (some ⟨b10, 0, none⟩), .pointer (some ⟨b11, 0, none⟩), .pointer (some ⟨b12, 0, none⟩), .int .i64 xi, .string xs, t15, t16, t17, t18, t19, t20, t21, t22, t23, t24, t25, t26, t27, t28, t29, t30, t31, t32, t33, t34, t35, t36, t37, t38, t39, t40, t41, t42, t43, t44, t45, t46, t47, t48, t49, t50, t51, t52, t53, t54, t55, t56, t57, t58, t59, t60, t61, t62, t63, t64, t65, t66, t67, t68, t69, t70, t71, t72, t73, t74, t75, t76, t77, t78, t79, t80, t81, t82, t83, t84, t85, t86, t87, t88, t89, t90, t91, t92, t93, t94, t95, t96, t97, t98, t99, t100, t101, t102, t103], defers := [] } W := by
  have HK := Aside0.mk hk
  clear hk
  have HI := Aside0.mk hi
  obtain ⟨iv, eiv⟩ : ∃ iv : Int, iv = (pre.length : Int) := ⟨_, rfl⟩
  obtain ⟨av, eav⟩ : ∃ av : Int, av = plF (scanS b) pre.length := ⟨_, rfl⟩
  obtain ⟨M, eM⟩ : ∃ M, M = scanS b := ⟨_, rfl⟩
  have HLen : Aside0 (M.length ≤ b.length ∧ b.length ≤ 70368744177664) := ⟨by rw [eM]; exact scan_len hbt, hl⟩
  have HV : Aside0 (iv = (pre.length : Int) ∧ av = plF M pre.length ∧ 0 ≤ av ∧ av ≤ (b.length : Int)) := ⟨eiv, by rw [eM]; exact eav, by rw [eav]; exact plF_le hbt _⟩
  have HT2 := Aside0.mk hT
  have HBn := Aside0.mk hb
  have q11 : W.cell? ⟨b11, 0, none⟩ = some (.int .i64 iv) := by rw [eiv]; exact hi.i11.cell
  have f11 := hi.i11.frozen
  have q12 : W.cell? ⟨b12, 0, none⟩ = some (.int .i64 av) := by rw [eav]; exact hi.i12.cell
  have f12 := hi.i12.frozen
  have HEM := Aside0.mk eM
  have f4 := q4.frozen
  have HQ4 := Aside0.mk q4
  rw [← eM] at q8 hC HK
  have HCw := Aside0.mk hC
  replace q4 := HQ4.out.cell
  clear hi eiv eav eM hT hb hC hl
  have HQ3 := Aside0.mk q3
  have HQ10 := Aside0.mk q10
  have HBt := Aside0.mk hbt
  replace q3 := HQ3.out.cell
  replace q10 := HQ10.out.cell
  subst hbody
  simp only [cL, cR, Try.f4, Option.getD_some]
  have p0 : 0 ≤ iv := by have := HV.out; omega
  have p1 : iv < (M.length : Int) := by have := HV.out; have := HK.out.1; omega
  have d1 : decide ((M.length : Int) ≤ iv) = false := decide_eq_false (by omega)
  obtain ⟨ad, eA, hx⟩ := Kd.at_string HCw.out iv p0 p1
  subst eA
  obtain ⟨g, eg⟩ : ∃ g, rdOf ByteArray.empty M iv = g := ⟨_, rfl⟩
  rw [eg] at hx
  have HG : Aside0 (rdOf ByteArray.empty (scanS b) (pre.length : Int) = g) := ⟨by rw [← HEM.out, ← HV.out.1]; exact eg⟩
  clear eg
  replace p0 := eq_true p0
  replace p1 := eq_true p1
  have hs : xs.toList = g.toList := by rw [← HEM.out] at HG; rw [← HG.out, HK.out.2.1]
  have hn1 : (xs.toList == g.toList) = true := beq_iff_eq.mpr hs
  have hn2 : (xs.toList != g.toList) = false := bne_eq_false_iff_eq.mpr hs
  have HP : Aside0 (xi = av) := ⟨by rw [HK.out.2.2]; exact HV.out.2.1.symm⟩
  have hp1 : (xi == av) = true := beq_iff_eq.mpr HP.out
  have hp2 : (xi != av) = false := bne_eq_false_iff_eq.mpr HP.out
  obtain ⟨pv, epv⟩ : ∃ pv : Int, av + 8 + (xs.size : Int) = pv := ⟨_, rfl⟩
  have HPv : Aside0 (pv = plF M (pre.length + 1) ∧ 0 ≤ pv ∧ pv ≤ (b.length : Int)) := ⟨by
    have h1 := plF_succ HK.out.1
    have h2 : M[pre.length]'HK.out.1 = xs := (rdS_get HK.out.1).symm.trans HK.out.2.1
    rw [h2, ← HV.out.2.1, epv] at h1
    exact ⟨h1.symm, by have := HV.out; omega, by rw [← h1]; have := (plF_le HBt.out (pre.length + 1)).2; rw [← HEM.out] at this; exact this⟩⟩
  have e1 : wrap64 (av + 8) = av + 8 := by unfold wrap64; have := HV.out; have := HLen.out; omega
  have e2 : wrap64 (av + 8 + (xs.size : Int)) = pv := by rw [epv]; unfold wrap64; have := HPv.out; have := HLen.out; omega
  have e3 : wrap64 (iv + 1) = iv + 1 := by unfold wrap64; have := HV.out; have := HLen.out; have := HK.out.1; omega
  have e1i : IntKind.i64.wrap (av + 8) = av + 8 := by rw [i64_w]; exact e1
  have e2i : IntKind.i64.wrap (av + 8 + (xs.size : Int)) = pv := by rw [i64_w]; exact e2
  have e3i : IntKind.i64.wrap (iv + 1) = iv + 1 := by rw [i64_w]; exact e3
  clear epv
  have B1 := HI.out.i11
  have B2 := HI.out.i12
  rw [← HV.out.1] at B1
  obtain ⟨X, eX⟩ : ∃ X, X = W.setCell ⟨b12, 0, none⟩ (.int .i64 pv) := ⟨_, rfl⟩
  obtain ⟨Y, eY⟩ : ∃ Y, Y = X.setCell ⟨b11, 0, none⟩ (.int .i64 (iv + 1)) := ⟨_, rfl⟩
  have B1x : Boxed X b11 3 (.int .i64 iv) := by rw [eX]; exact blk_far B1 (p := ⟨b12, 0, none⟩) HBn.out.2.2.1 _
  have B1y : Boxed Y b11 3 (.int .i64 (iv + 1)) := by rw [eY]; exact box_set B1x _
  have fr : ∀ k : Nat, k ≠ b11 → k ≠ b12 → ∀ (t : Nat) (v : Value), Boxed W k t v → Boxed Y k t v := fun k h1 h2 t v h => by
    rw [eY, eX]
    exact blk_far (blk_far h (p := ⟨b12, 0, none⟩) h2 _) (p := ⟨b11, 0, none⟩) h1 _
  have x3 := (fr s HBn.out.2.2.2.1 HBn.out.2.2.2.2.1 _ _ HQ3.out).cell
  have x10 := (fr b10 HBn.out.2.2.2.2.2.1 HBn.out.2.2.2.2.2.2 _ _ HQ10.out).cell
  have x11 := B1x.cell
  have xf11 := B1x.frozen
  have y11 := B1y.cell
  have HF : Aside0 (FI z0 x5 Y T b11 b12 (iv + 1) pv ∧ Kept W Y T ∧ KeepsFrom B W Y) := ⟨by
    rw [eY, eX]
    exact ⟨HI.out.next HT2.out HBn.out.2.2.1 ⟨HBn.out.1, HBn.out.2.1⟩, ((Kept.refl _ _).setCell (p := ⟨b12, 0, none⟩) (.inl HT2.out.2) _).setCell (p := ⟨b11, 0, none⟩) (.inl HT2.out.1) _, ((KeepsOthers.setCell _ _ _).trans (KeepsOthers.setCell _ _ _)).from _⟩⟩
  clear B1 B2 B1x B1y fr
  have hX := eX.symm
  have hY := eY.symm
  clear eX eY
  have HFin : Aside0 (FI z0 x5 Y T b11 b12 (((pre ++ [(⟨xi, xs⟩ : Fr)]).length : Nat) : Int) (plF (scanS b) (pre ++ [(⟨xi, xs⟩ : Fr)]).length)) := ⟨by
    have h := HF.out.1
    rw [List.length_append, List.length_singleton]
    rw [show ((pre.length + 1 : Nat) : Int) = iv + 1 by have := HV.out.1; omega, ← HEM.out, ← HPv.out.1]
    exact h⟩
  gi_wp2
  · rename_i h1 h2
    exact ⟨HF.out.2.2, .inl ⟨rfl, hQ h1, by have := beq_iff_eq.1 h2; have := HV.out.1; rw [List.length_append, List.length_singleton]; omega, HFin.out⟩⟩
  all_goals exact ⟨HF.out.2.2, HF.out.2.1, HFin.out⟩
set_option maxHeartbeats 64000000 in
set_option maxRecDepth 100000 in
theorem bodyF_all {Q : Prop} {T : Nat → Prop} {z0 x5 : World} {s b8 b10 b11 b12 B : Nat} {rv most xi : Int} {xs : ByteArray} {A8 : Option Addr} {c8 : Nat} {b : List Int} {pre : List Fr} (l : Nat) (W : World) (hi : FI z0 x5 W T b11 b12 (pre.length : Int) (plF (scanS b) pre.length)) (q3 : Boxed W s 3 (.int .i64 most)) (q4 : Boxed W (s + 1) 4 (.bool false)) (q8 : W.cell? ⟨b8, 0, none⟩ = some (.slice A8 (scanS b).length c8)) (q10 : Boxed W b10 3 (.int .i64 rv)) (hC : Kd.C Kd.string W A8 (scanS b).length (scanS b)) (hT : T b11 ∧ T b12) (hb : z0.heap.size ≤ b11 ∧ z0.heap.size ≤ b12 ∧ b11 ≠ b12 ∧ s ≠ b11 ∧ s ≠ b12 ∧ b10 ≠ b11 ∧ b10 ≠ b12) (hbt : Bts b) (hl : b.length ≤ 70368744177664) (hQ : rv = 0 → Q)
     (t0 t1 t2 t5 t6 t7 t9 t15 t16 t17 t18 t19 t20 t21 t22 t23 t24 t25 t26 t27 t28 t29 t30 t31 t32 t33 t34 t35 t36 t37 t38 t39 t40 t41 t42 t43 t44 t45 t46 t47 t48 t49 t50 t51 t52 t53 t54 t55 t56 t57 t58 t59 t60 t61 t62 t63 t64 t65 t66 t67 t68 t69 t70 t71 t72 t73 t74 t75 t76 t77 t78 t79 t80 t81 t82 t83 t84 t85 t86 t87 t88 t89 t90 t91 t92 t93 t94 t95 t96 t97 t98 t99 t100 t101 t102 t103 : Value) (body : Code) (hbody : cL (cL (cR (cL (cR (cR (cL (cL (cR (cL (cL (cR (cL (cR (cR (cR (cR (cR (Try.f4.body.getD .skip)))))))))))))))))) = body) :
    body.wpIn (Fence.wide.inRound l) 3 Try.prog (ownPostG B (fun A B => Kept A B T) (fun pre W => FI z0 x5 W T b11 b12 (pre.length : Int) (plF (scanS b) pre.length)) (fun c pre W => (c = .exit 2 ∧ Q ∧ most = (pre.length : Int) ∧ FI z0 x5 W T b11 b12 (pre.length : Int) (plF (scanS b) pre.length)) ∨ ¬ pre <+: frames b) (pre ++ [⟨xi, xs⟩]) W) { tmps := #[t0, t1, t2, .pointer (some ⟨s, 0, none⟩), .pointer (some ⟨s + 1, 0, none⟩), t5, t6, t7, .pointer (some ⟨b8, 0, none⟩), t9, .pointer (some ⟨b10, 0, none⟩), .pointer (some ⟨b11, 0, none⟩), .pointer (some ⟨b12, 0, none⟩), .int .i64 xi, .string xs, t15, t16, t17, t18, t19, t20, t21, t22, t23, t24, t25, t26, t27, t28, t29, t30, t31, t32, t33, t34, t35, t36, t37, t38, t39, t40, t41, t42, t43, t44, t45, t46, t47, t48, t49, t50, t51, t52, t53, t54, t55, t56, t57, t58, t59, t60, t61, t62, t63, t64, t65, t66, t67, t68, t69, t70, t71, t72, t73, t74, t75, t76, t77, t78, t79, t80, t81, t82, t83, t84, t85, t86, t87, t88, t89, t90, t91, t92, t93, t94, t95, t96, t97, t98, t99, t100, t101, t102, t103], defers := [] } W := by
  by_cases k1 : (scanS b).length ≤ pre.length
  · exact bodyF_over l W hi q3 q4 q8 q10 hC hT hb hbt hl hQ k1 t0 t1 t2 t5 t6 t7 t9 t15 t16 t17 t18 t19 t20 t21 t22 t23 t24 t25 t26 t27 t28 t29 t30 t31 t32 t33 t34 t35 t36 t37 t38 t39 t40 t41 t42 t43 t44 t45 t46 t47 t48 t49 t50 t51 t52 t53 t54 t55 t56 t57 t58 t59 t60 t61 t62 t63 t64 t65 t66 t67 t68 t69 t70 t71 t72 t73 t74 t75 t76 t77 t78 t79 t80 t81 t82 t83 t84 t85 t86 t87 t88 t89 t90 t91 t92 t93 t94 t95 t96 t97 t98 t99 t100 t101 t102 t103 body hbody
  · by_cases k2 : rdOf ByteArray.empty (scanS b) (pre.length : Int) = xs
    · by_cases k3 : xi = plF (scanS b) pre.length
      · exact bodyF_go l W hi q3 q4 q8 q10 hC hT hb hbt hl hQ ⟨by omega, k2, k3⟩ t0 t1 t2 t5 t6 t7 t9 t15 t16 t17 t18 t19 t20 t21 t22 t23 t24 t25 t26 t27 t28 t29 t30 t31 t32 t33 t34 t35 t36 t37 t38 t39 t40 t41 t42 t43 t44 t45 t46 t47 t48 t49 t50 t51 t52 t53 t54 t55 t56 t57 t58 t59 t60 t61 t62 t63 t64 t65 t66 t67 t68 t69 t70 t71 t72 t73 t74 t75 t76 t77 t78 t79 t80 t81 t82 t83 t84 t85 t86 t87 t88 t89 t90 t91 t92 t93 t94 t95 t96 t97 t98 t99 t100 t101 t102 t103 body hbody
      · exact bodyF_pl l W hi q3 q4 q8 q10 hC hT hb hbt hl hQ ⟨by omega, k2, k3⟩ t0 t1 t2 t5 t6 t7 t9 t15 t16 t17 t18 t19 t20 t21 t22 t23 t24 t25 t26 t27 t28 t29 t30 t31 t32 t33 t34 t35 t36 t37 t38 t39 t40 t41 t42 t43 t44 t45 t46 t47 t48 t49 t50 t51 t52 t53 t54 t55 t56 t57 t58 t59 t60 t61 t62 t63 t64 t65 t66 t67 t68 t69 t70 t71 t72 t73 t74 t75 t76 t77 t78 t79 t80 t81 t82 t83 t84 t85 t86 t87 t88 t89 t90 t91 t92 t93 t94 t95 t96 t97 t98 t99 t100 t101 t102 t103 body hbody
    · exact bodyF_ne l W hi q3 q4 q8 q10 hC hT hb hbt hl hQ ⟨by omega, k2⟩ t0 t1 t2 t5 t6 t7 t9 t15 t16 t17 t18 t19 t20 t21 t22 t23 t24 t25 t26 t27 t28 t29 t30 t31 t32 t33 t34 t35 t36 t37 t38 t39 t40 t41 t42 t43 t44 t45 t46 t47 t48 t49 t50 t51 t52 t53 t54 t55 t56 t57 t58 t59 t60 t61 t62 t63 t64 t65 t66 t67 t68 t69 t70 t71 t72 t73 t74 t75 t76 t77 t78 t79 t80 t81 t82 t83 t84 t85 t86 t87 t88 t89 t90 t91 t92 t93 t94 t95 t96 t97 t98 t99 t100 t101 t102 t103 body hbody
end Go.Proofs.Ytlmpdlmamopbeaa.P
