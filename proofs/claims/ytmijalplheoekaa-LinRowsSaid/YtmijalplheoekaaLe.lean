/- Ids: its range over Backward writes the map of numbers; then ContainsFunc looks into it. -/
import Derived.Test.YtmijalplheoekaaLd
namespace Go.Proofs.Ytmijalplheoekaa.P
open Go.RowKit Go.Maps Go.WideMaps Go.Proofs.YtmijalplheoekaaW.PrintWords Go.Proofs.YtmijalplheoekaaW.PrintLast Go.Proofs.YtmijalplheoekaaW.PrintMore
attribute [local go_sem] Oper.semAt_some
set_option linter.unusedVariables false
set_option linter.unusedSimpArgs false
theorem grown_of_below {w w' : World} (hb : Below w.heap.size w w') : w.grownBy w' none := ⟨hb.os, hb.tape, hb.output, hb.size, fun i hi _ => hb.block i hi⟩
theorem owns_below {k : TypeId} {R : Value → Option (DataW Unit × List MemPlace)} {b n : Nat} {D : DataW Unit} {w w' : World} (h : w.ownsMap Try.prog k R b n D) (hb : Below w.heap.size w w') : w'.ownsMap Try.prog k R b n D := h.kept (grown_of_below hb) (by simp)
/-- What a round of Ids' range keeps. -/
def IdsI (w w2 : World) (bm : Nat) (T : Nat → Prop) (l1 : List ByteArray) (hs : ∀ t ∈ l1, t.size ≤ maxLen) (pre : List Tk) (W : World) : Prop :=
  ∃ D : DataW Unit, W.ownsMap Try.prog 9 (plainElem Try.prog 3) bm pre.length D ∧ (pre.length ≤ l1.length → pre = bw l1 hs pre.length → Reads D l1 (l1.length - pre.length)) ∧ Kept w2 W T ∧ Below w.heap.size w W
theorem IdsI.own {w w2 : World} {bm : Nat} {T : Nat → Prop} {l1 : List ByteArray} {hs : ∀ t ∈ l1, t.size ≤ maxLen} (hT : ∀ k, w2.heap.size ≤ k → T k) (hbm : bm < w2.heap.size) (hw : w.heap.size ≤ w2.heap.size) : OwnFrom w2.heap.size (IdsI w w2 bm T l1 hs) := by
  rintro s A B row ⟨D, h1, h2, h3, h4⟩ hg hr
  exact ⟨D, h1.kept hg (fun e => by have := (hr bm e.symm).1; omega), h2, h3.of_grown hg (fun k hk => .inl (hT k (hr k hk).1)), h4.grown hg h4.size (fun k e => by have := (hr k e).1; omega)⟩
theorem IdsI.step {w w2 W W' : World} {bm : Nat} {T : Nat → Prop} {l1 : List ByteArray} {hs : ∀ t ∈ l1, t.size ≤ maxLen} {pre : List Tk} {x : Tk} {D : DataW Unit} (hbm : w.heap.size ≤ bm) (hTb : T bm) (hlt : pre.length < l1.length) (hl : l1.length < 17592186044416)
    (h2 : pre.length ≤ l1.length → pre = bw l1 hs pre.length → Reads D l1 (l1.length - pre.length)) (h3 : Kept w2 W T) (h4 : Below w.heap.size w W)
    (hown : W'.ownsMap Try.prog 9 (plainElem Try.prog 3) bm (pre.length + 1) (D.put (.string x.s.data.toList) (.lit (.int .i64 (wrap64 (x.i + 1)))))) (hg : W.grownBy W' (some bm)) : IdsI w w2 bm T l1 hs (pre ++ [x]) W' := by
  refine ⟨_, by rw [List.length_append, List.length_singleton]; exact hown, fun hle e => ?_, h3.of_grown hg (fun k e => .inl (by cases e; exact hTb)), h4.grown hg h4.size (fun k e => by cases e; exact hbm)⟩
  rw [List.length_append, List.length_singleton, bw_succ] at e
  rw [List.length_append, List.length_singleton] at hle ⊢
  obtain ⟨e1, e2⟩ := List.append_inj' e (by simp)
  obtain rfl := (List.cons.inj e2).1
  have hR := h2 (by omega) e1
  have hj : l1.length - 1 - pre.length < l1.length := by omega
  have hR' : Reads D l1 ((l1.length - 1 - pre.length) + 1) := by rw [show l1.length - 1 - pre.length + 1 = l1.length - pre.length by omega]; exact hR
  have := hR'.put hj
  rw [show l1.length - (pre.length + 1) = l1.length - 1 - pre.length by omega]
  have hi : (mkTk l1 hs ((l1.length - 1 - pre.length : Nat) : Int)).i = ((l1.length - 1 - pre.length : Nat) : Int) := rfl
  have hss : (mkTk l1 hs ((l1.length - 1 - pre.length : Nat) : Int)).s = l1[l1.length - 1 - pre.length] := rdOf_get hj
  rw [hi, hss, show wrap64 (((l1.length - 1 - pre.length : Nat) : Int) + 1) = ((l1.length - 1 - pre.length : Nat) : Int) + 1 by unfold wrap64; omega]
  exact this
set_option maxHeartbeats 8000000 in
set_option maxRecDepth 100000 in
theorem Ids.at (A0 : Option Addr) (c0 : Nat) (l0 : List S31) (A1 : Option Addr) (c1 : Nat) (l1 : List ByteArray) (w : World) (hr0 : Kd.C k31 w A0 l0.length l0) (hr1 : Kd.C Kd.string w A1 l1.length l1)
    (hl0 : l0.length < 17592186044416) (hl1 : l1.length < 17592186044416) (hs0 : ∀ x ∈ l0, x.f1.size ≤ maxLen) (hs1 : ∀ t ∈ l1, t.size ≤ maxLen) :
    Calls Try.prog 12 #[.slice A0 l0.length c0, .slice A1 l1.length c1] w fun e w' => e = .returned (.bool (!(l0.any fun x => wrongB (toks l1) (toSn x)))) ∧ Below w.heap.size w w' := by
  have HR0 := Aside0.mk hr0
  have HR1 := Aside0.mk hr1
  have HL := Aside0.mk (And.intro hl0 hl1)
  have HS0 := Aside0.mk hs0
  have HS1 := Aside0.mk hs1
  clear hr0 hr1 hl0 hl1 hs0 hs1
  refine calls_of_marks Try.func12 rfl ?_
  simp only [Try.ntmps12, List.size_toArray, List.length_cons, List.length_nil, Nat.reduceAdd, Nat.reduceSub, Array.replicate_succ, Array.replicate_zero, List.push_toArray, List.append_toArray, List.nil_append, List.cons_append]
  have hmm := @run_makeMap Try.prog
  go_upto_region 2 with (fail)
  obtain ⟨bm, ebm⟩ : ∃ bm, w.heap.size = bm := ⟨_, rfl⟩
  obtain ⟨w1, ew1⟩ : ∃ w1, (w.alloc (.map #[] 0)).alloc (.cells #[.map (some bm)] 43) = w1 := ⟨_, rfl⟩
  have X5 : w1.heap[bm + 1]? = some (.cells #[.map (some bm)] 43 (0, 0)) := by
    have := blk_new (w.alloc (.map #[] 0)) (.cells #[.map (some bm)] 43)
    rw [World.size_alloc, ebm] at this
    rw [← ew1]; exact this
  have OW : w1.ownsMap Try.prog 9 (plainElem Try.prog 3) bm 0 (.map [] : DataW Unit) := by
    have := (World.ownsMap_made w Try.prog 9 (plainElem (H := Unit) Try.prog 3)).alloc (.cells #[.map (some bm)] 43)
    rw [ebm] at this
    rw [← ew1]; exact this
  have B1 : Below w.heap.size w w1 := by rw [← ew1]; exact below_alloc (below_alloc (Below.refl _ _) _) _
  simp only [ebm, ew1]
  have HX5 := Aside0.mk X5
  have HOW := Aside0.mk OW
  have HB1 := Aside0.mk B1
  have HBM : Aside0 (w.heap.size = bm) := ⟨ebm⟩
  clear X5 OW B1 ew1 ebm hmm
  go_wp2_with fail
  refine (Backward.at A1 l1.length c1 w1).mono ?_
  rintro e w2 ⟨rfl, hbx, hb⟩
  obtain ⟨bx, ebx⟩ : ∃ bx, w1.heap.size = bx := ⟨_, rfl⟩
  have X5 := blk_below HX5.out hb
  have OW := owns_below HOW.out hb
  have B1 := below_step HB1.out hb
  have HS12 : Aside0 (bm + 1 < bx ∧ bx < w2.heap.size) := ⟨by rw [← ebx]; exact ⟨blk_lt HX5.out, blk_lt hbx⟩⟩
  rw [ebx] at hbx ⊢
  clear HX5 HOW HB1 hb ebx
  have HX5 := Aside0.mk X5
  have HOW := Aside0.mk OW
  have HB1 := Aside0.mk B1
  have HBX := Aside0.mk hbx
  clear X5 OW B1 hbx
  go_wp2
  obtain ⟨T, eT⟩ : ∃ T : Nat → Prop, T = fun k => k = bm ∨ w2.heap.size ≤ k := ⟨_, rfl⟩
  have HT1 : Aside0 (∀ k, w2.heap.size ≤ k → T k) := ⟨fun k h => by rw [eT]; exact .inr h⟩
  have HTb : Aside0 (T bm) := ⟨by rw [eT]; exact .inl rfl⟩
  have HTn : Aside0 (∀ k, k < w2.heap.size → k ≠ bm → ¬ T k) := ⟨fun k h1 h2 h3 => by rw [eT] at h3; rcases h3 with h | h <;> omega⟩
  have HTw : Aside0 (∀ k, T k → w.heap.size ≤ k) := ⟨fun k h3 => by rw [eT] at h3; have := HBM.out; have := HB1.out.size; rcases h3 with h | h <;> omega⟩
  clear eT
  have HR1' : Aside0 (∀ W', Kept w2 W' T → Kd.C Kd.string W' A1 l1.length l1) := ⟨Kd.C_kept_came Kd.heap_string HR1.out HB1.out HTw.out⟩
  refine rangeW2 (gf := 24) (lb := #[.pointer (some ⟨bx, 0, none⟩)]) rfl (enters_of Try.func24 (by kernel_rfl) rfl) (e1 := fun d : Tk => .int .i64 d.i) (e2 := fun d : Tk => .string d.s) (T := T) HT1.out
    (Bwd.stops 4 (by omega) T l1 HS1.out bx A1 c1 w2 ((blk_cell HBX.out 0).trans rfl) (HTn.out bx HS12.out.2 (by have := HS12.out.1; omega)) HR1'.out HL.out.2)
    (IdsI w w2 bm T l1 HS1.out) (IdsI.own HT1.out (by have := HS12.out; omega) (by have := HB1.out.size; omega)) ⟨_, HOW.out, fun _ _ => Reads.empty l1, Kept.refl _ _, HB1.out⟩ ?a1 ?assign ?body ?done
  case assign =>
    intro l x W K hK
    simp only [List.setIfInBounds_toArray, List.set_cons_zero, List.set_cons_succ]
    gi_wp2
    exact hK
  case body =>
    rintro l pre x W ⟨D, i1, i2, i3, i4⟩ hlt
    have q5 : W.cell? ⟨bm + 1, 0, none⟩ = some (.map (some bm)) := Go.Proofs.YtmijalplheoekaaW.PrintWords.cell_kept ((blk_cell HX5.out 0).trans rfl) i3 (HTn.out (bm + 1) (by have := HS12.out; omega) (by omega))
    have HI := Aside0.mk (And.intro i1 (And.intro i2 (And.intro i3 i4)))
    have HLT := Aside0.mk hlt
    clear i1 i2 i3 i4 hlt
    gi_wp2_with (first | (gi_at_mapUpdate; refine wpListIn_mapUpdate_own W rfl _ _ _ 43 rfl 9 3 lawK Try.underlying43 (plainElem Try.prog 3) bm pre.length D rfl HI.out.1 (by have := HLT.out; have := HL.out.2; unfold maxLen; omega) _ _ _ rfl rfl (keyOf_string_mk Try.underlying9 x.h) _ [] (plainElem_int Try.underlying3 (wrap64_wf _)) ?_; intro W1 hown1 hgrow1; have HG := Aside0.mk (And.intro hown1 hgrow1); clear hown1 hgrow1))
    exact ⟨KeepsFrom.of_grownBy HG.out.2 (fun j e => by cases e; have := HS12.out; omega), (Kept.refl _ _).of_grown HG.out.2 (fun k e => .inl (by cases e; exact HTb.out)),
      IdsI.step (by have := HBM.out; omega) HTb.out HLT.out HL.out.2 HI.out.2.1 HI.out.2.2.1 HI.out.2.2.2 HG.out.1 HG.out.2⟩
  case done =>
    rintro D xs W hD hS ⟨M, i1, i2, i3, i4⟩ hK
    subst hS
    rw [bw_len, Nat.sub_self] at i2
    have q5 : W.cell? ⟨bm + 1, 0, none⟩ = some (.map (some bm)) := Go.Proofs.YtmijalplheoekaaW.PrintWords.cell_kept ((blk_cell HX5.out 0).trans rfl) i3 (HTn.out (bm + 1) (by have := HS12.out; omega) (by omega))
    have HI := Aside0.mk (And.intro i1 (And.intro (i2 (Nat.le_refl _) rfl) (And.intro i4 q5)))
    have HKD := Aside0.mk (And.intro hK hD)
    clear i1 i2 i3 i4 hK hD q5
    go_wp2_with fail
    refine (ContainsIds (b := bm + 1) (fun x => wrongB (toks l1) (toSn x)) A0 c0 l0 W (Kd.C_below HR0.out HI.out.2.2.1) HL.out.1 (fun a ha w' hb => wrong.at a w' (pw_cell_below hb HI.out.2.2.2) (owns_below HI.out.1 hb) HI.out.2.1 (HS0.out a ha))).mono ?_
    rintro e W1 ⟨rfl, hb⟩
    have HK := Aside0.mk (blk_below HKD.out.1 hb)
    have HBw := Aside0.mk (below_step HI.out.2.2.1 hb)
    clear hb
    go_wp2
    refine ⟨by simp, .inl ⟨_, _, rfl, run_takeDeferred HK.out, ?_⟩⟩
    exact ⟨_, by simp [results, Try.f12, go_sem], rfl, HBw.out.trans (belowK_b (w := w) (Nat.le_refl _) _ D _ _ (by have := HKD.out.2; have := HB1.out.size; omega) HK.out rfl rfl)⟩
end Go.Proofs.Ytmijalplheoekaa.P
