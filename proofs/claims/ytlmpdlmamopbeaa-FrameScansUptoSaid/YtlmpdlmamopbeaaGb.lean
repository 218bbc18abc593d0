/- FrameScans: Scan and All tell the same frames as the reference, and All may be left early: the walk (written by gen_gb.py). -/
import Derived.Test.YtlmpdlmamopbeaaGa
namespace Go.Proofs.Ytlmpdlmamopbeaa.P
open Go.RowKit Go.Proofs.YtlmpdlmamopbeaaW.PrintWords Go.Proofs.YtlmpdlmamopbeaaW.PrintLast Go.Proofs.YtlmpdlmamopbeaaW.PrintMore
attribute [local go_sem] Oper.semAt_some
set_option linter.unusedVariables false
set_option linter.unusedSimpArgs false
/-- The marks of loops that are over: their blocks are still there. -/
theorem leaves_marks {n : Nat} {P : Program} {fn : Func} {tm : Array Value} {R : Ending → World → Prop} : ∀ (Ds : List Nat) (W : World), (∀ W', (∀ k, k ∉ Ds → W'.heap[k]? = W.heap[k]?) → W'.heap.size = W.heap.size → W'.os = W.os ∧ W'.tape = W.tape ∧ W'.output = W.output → LeavesIn Fence.wide n P fn tm R [] .returning W') → Ds.Nodup → (∀ D ∈ Ds, W.heap[D]? = some (.deferred (some []))) →
    LeavesInM Fence.wide n P fn tm R (Ds.map fun D => { target := .collected D, args := #[] }) .returning W := by
  intro Ds
  induction Ds with
  | nil => exact fun W h _ _ => h W (fun _ _ => rfl) rfl ⟨rfl, rfl, rfl⟩
  | cons D Ds ih =>
    intro W h hnd hK
    have hD := hK D (List.mem_cons_self ..)
    have hg := grownBy_putObj' W D (.deferred none)
    have hlt := (Array.getElem?_eq_some_iff.1 hD).1
    have hother : ∀ k, k ≠ D → (W.putObj D (.deferred none)).heap[k]? = W.heap[k]? := fun k hk => World.putObj_heap_other (fun e => hk e)
    have hsz : (W.putObj D (.deferred none)).heap.size = W.heap.size := by simp [World.putObj]
    rw [List.nodup_cons] at hnd
    refine ⟨by simp, .inl ⟨_, _, rfl, run_takeDeferred hD, ih _ (fun W' h1 h2 h3 => h W' (fun k hk => ?_) (h2.trans hsz) ?_) hnd.2 (fun E hE => (hother E (fun e => hnd.1 (e ▸ hE))).trans (hK E (List.mem_cons_of_mem _ hE)))⟩⟩
    · rw [List.mem_cons, not_or] at hk
      exact (h1 k hk.2).trans (hother k hk.1)
    · exact ⟨h3.1.trans hg.os, h3.2.1.trans hg.tape, h3.2.2.trans hg.output⟩
/-- What lies when the loops begin: the boxes of most, the result and m, and the rows of own and m. -/
structure ZS (w W : World) (s b8 : Nat) (most : Int) (Ao Am : Option Addr) (co cm : Nat) (b : List Int) : Prop where
  s3 : Boxed W s 3 (.int .i64 most)
  s4 : Boxed W (s + 1) 4 (.bool false)
  s8 : Boxed W b8 30 (.slice Am (scanS b).length cm)
  own : RB W w.heap.size (.slice Ao b.length co) b
  m : Kd.string.R 9 W w.heap.size (fun _ => True) (.slice Am (scanS b).length cm) (scanS b)
  below : Below w.heap.size w W
theorem ZS.step {w W W' : World} {s b8 : Nat} {most : Int} {Ao Am : Option Addr} {co cm : Nat} {b : List Int} (h : ZS w W s b8 most Ao Am co cm b) (hb : Below W.heap.size W W') : ZS w W' s b8 most Ao Am co cm b :=
  ⟨blk_below h.s3 hb, blk_below h.s4 hb, blk_below h.s8 hb, RB.below h.own hb, Kd.R_below h.m hb, below_step h.below hb⟩
/-- The act of a round: the two values, and the two variables that take them. -/
def actX (a : Act) (p q r t : Nat) (x y : Value) : Act := { tmps := (((a.tmps.setIfInBounds p x).setIfInBounds q y).setIfInBounds r x).setIfInBounds t y, defers := [] }
theorem rangeX3 {α : Type} {P : Program} {g : Operand} {p q id : Nat} {assign body : Code} {K : Act → World → Prop} {Q : Exit → Act → World → Prop} {a : Act} {w : World} (r t gf : Nat) {lb : Array Value} (hg : a.eval g = .func (.func gf) #[] lb)
    (eg : ∀ args w, (callFunc gf args).run P w = .ok (.enter gf args) w) {e1 e2 : α → Value} {T : Nat → Prop} (hT : ∀ k, w.heap.size ≤ k → T k) {S Sp : List α → Prop} {N : Nat}
    (hseq : SeqStopsK Fence.wide 4 P gf lb (fun x => #[e1 x, e2 x]) (fun A B => Kept A B T) S Sp N w)
    (I : List α → World → Prop) (Ix : Code → List α → World → Prop) (hI : OwnFrom w.heap.size I) (hIx : ∀ c, OwnFrom w.heap.size (Ix c)) (h0 : I [] w) (Fin : World → Prop)
    (hassign : ∀ (l : Nat) (x : α) (W : World) (K : Act → World → Prop), K (actX a p q r t (e1 x) (e2 x)) W → assign.wpIn (Fence.wide.inRound l) 3 P (Exit.then K (fun _ _ _ => False)) { tmps := (a.tmps.setIfInBounds p (e1 x)).setIfInBounds q (e2 x), defers := [] } W)
    (hbody : ∀ (l : Nat) (pre : List α) (x : α) (W : World), I pre W → pre.length < N → body.wpIn (Fence.wide.inRound l) 3 P (ownPostG w.heap.size (fun A B => Kept A B T) I Ix (pre ++ [x]) W) (actX a p q r t (e1 x) (e2 x)) W)
    (hdone : ∀ xs W, S xs → I xs W → Fin W) (hstop : ∀ c pre W, Sp pre → Ix c pre W → c = .exit id ∧ Fin W)
    (hend : ∀ (D : Nat) (W : World), w.heap.size ≤ D → Fin W → W.heap[D]? = some (.deferred (some [])) → K { a with defers := { target := .collected D, args := #[] } :: a.defers } W) :
    (Code.rangeFunc g #[p, q] assign body).wp P (Exit.inBlock id (Exit.then K Q)) a w :=
  rangeX2 gf hg eg hT hseq I Ix hI hIx h0 (fun x => actX a p q r t (e1 x) (e2 x)) Fin hassign hbody hdone hstop hend
set_option maxHeartbeats 32000000 in
set_option maxRecDepth 100000 in
theorem FrameScans.at_ (A0 : Option Addr) (c0 : Nat) (b : List Int) (most : Int) (w : World) (hr : Kd.C (Kd.int .u8) w A0 b.length b) (hc : b.length ≤ c0) (hb : Bts b) (hl : b.length ≤ 1099511627776) :
    Calls Try.prog 4 #[.slice A0 b.length c0, .int .i64 most] w fun e w' => e = .returned (.bool true) ∧ Below w.heap.size w w' := by
  have HR := Aside0.mk hr
  have HC := Aside0.mk hc
  have HBt := Aside0.mk hb
  have HL := Aside0.mk hl
  have HSl := Aside0.mk (scan_len hb)
  clear hr hc hb hl
  refine calls_of_marks Try.func4 rfl ?_
  simp only [Try.ntmps4, List.size_toArray, List.length_cons, List.length_nil, Nat.reduceAdd, Nat.reduceSub, Array.replicate_succ, Array.replicate_zero, List.push_toArray, List.append_toArray, List.nil_append, List.cons_append]
  obtain ⟨s, es⟩ : ∃ s, w.heap.size = s := ⟨_, rfl⟩
  go_upto_region 1 with (fail)
  obtain ⟨w1, ew1⟩ : ∃ w1, (w.alloc (.cells #[.int .i64 most] 3)).alloc (.cells #[.bool false] 4) = w1 := ⟨_, rfl⟩
  have HES := Aside0.mk es
  have HS1 : Aside0 (Boxed w1 s 3 (.int .i64 most) ∧ Boxed w1 (s + 1) 4 (.bool false) ∧ Below w.heap.size w w1) := ⟨by
    have e1 := blk_new w (.cells #[.int .i64 most] 3)
    have e2 := blk_new (w.alloc (.cells #[.int .i64 most] 3)) (.cells #[.bool false] 4)
    rw [World.size_alloc] at e2
    rw [es] at e1 e2
    subst ew1
    exact ⟨blk_alloc e1 _, e2, below_alloc (below_alloc (Below.refl _ _) _) _⟩⟩
  simp only [ew1]
  have HR1 := Aside0.mk (Kd.C_below HR.out HS1.out.2.2)
  clear ew1
  go_wp2_with (first
    | ((with_reducible refine gate_dst (N := 15) rfl ?_); refine Kd.R_lit (Kd.int .u8) (w0 := w1) (w1).heap.size 5 ?hg (N := 15) ?hd (xs := ([] : List Int)) (inner := []) (ok := fun _ => True) (okp := fun _ => True) ?hr ?hp (fun _ hk => hk) trivial (Below.refl w1.heap.size w1) ((Below.refl w1.heap.size w1)).size (by simp) ?_; (case hd => rfl); (case hg => rfl); (case hr => first | (go_simp; done) | (go_simp; rfl)); (case hp => exact (Reps.none _ _)); intro v2 w2 ho hb hg_ hnew_; clear hg_ hnew_; have H2 : Aside0 (RB w2 (w1).heap.size v2 []) := ⟨ho⟩; have HB2 := Aside0.mk hb; clear hb ho)
    | ((with_reducible refine gate_builtin (b := .append) (xs := #[.tmp 15, .tmp 16]) rfl ?_); at_builtin; refine appR (w0 := w1) (w1).heap.size rfl (.tmp 15) (.tmp 16) rfl v2 [] b _ _ rfl rfl H2.out (Kd.C_below HR1.out HB2.out) HB2.out HB2.out.size ?hl ?_; (case hl => have := HL.out; simp only [List.length_nil]; omega); intro v3 w3 ho hb; have H3 := Aside0.mk ho; have HB3 := Aside0.mk hb; clear ho hb)
    | fail)
  rw [List.nil_append] at H3
  obtain ⟨Ao, co, rfl⟩ := Kd.R_slice H3.out
  clear H2 HB2
  refine (Scan.plain Ao co b w3 (RB.C H3.out) HBt.out (by have := HL.out; omega)).mono ?_
  rintro e w4 ⟨Al, cl, rfl, hol, hb⟩
  have HSc : Aside0 (Kd.string.R 9 w4 w3.heap.size (fun _ => True) (.slice Al (scanS b).length cl) (scanS b)) := ⟨hol⟩
  have HOw : Aside0 (RB w4 w1.heap.size (.slice Ao b.length co) b) := ⟨RB.below H3.out hb⟩
  have HB4 : Aside0 (Below w1.heap.size w1 w4) := ⟨below_step HB3.out hb⟩
  clear hol hb H3 HB3
  go_wp2_with fail
  refine (refScan_at A0 c0 b _ (Kd.C_below HR1.out HB4.out) HC.out HBt.out (by have := HL.out; omega)).mono ?_
  rintro e w5 ⟨Am, cm, rfl, hom, hb⟩
  have HMm : Aside0 (Kd.string.R 9 w5 w4.heap.size (fun _ => True) (.slice Am (scanS b).length cm) (scanS b)) := ⟨hom⟩
  replace HSc := Aside0.mk (Kd.R_below HSc.out hb)
  replace HOw := Aside0.mk (RB.below HOw.out hb)
  have HB5 : Aside0 (Below w1.heap.size w1 w5) := ⟨below_step HB4.out hb⟩
  have HB45 : Aside0 (w4.heap.size ≤ w5.heap.size ∧ w1.heap.size ≤ w4.heap.size) := ⟨hb.size, HB4.out.size⟩
  clear hom hb HB4
  go_upto_region 4 with (fail)
  obtain ⟨b8, e8⟩ : ∃ b8, w5.heap.size = b8 := ⟨_, rfl⟩
  obtain ⟨w6, ew6⟩ : ∃ w6, w5.alloc (.cells #[.slice Am (scanS b).length cm] 30) = w6 := ⟨_, rfl⟩
  have hb6 : Below w5.heap.size w5 w6 := by rw [← ew6]; exact below_alloc (Below.refl _ _) _
  have HZ : Aside0 (ZS w w6 s b8 most Ao Am co cm b) := ⟨by
    have hb15 := below_step HB5.out hb6
    refine ⟨blk_below HS1.out.1 hb15, blk_below HS1.out.2.1 hb15, ?_, (RB.below HOw.out hb6).down HS1.out.2.2.size, Kd.R_lower (Kd.R_below HMm.out hb6) (Nat.le_trans HS1.out.2.2.size HB45.out.2), below_step HS1.out.2.2 hb15⟩
    rw [← ew6, ← e8]
    exact blk_new _ _⟩
  replace HSc := Aside0.mk (Kd.R_below HSc.out hb6)
  simp only [ew6, e8]
  clear ew6 e8 hb6 HMm HOw HB5 HB45 HR1 HS1
  have HBig : Aside0 ((scanS b).length < 4611686018427387904) := ⟨by have := HSl.out; have := HL.out; omega⟩
  have HEq : Aside0 (strOfNums b = strOfNums b) := ⟨rfl⟩
  obtain ⟨Z, eZ⟩ : ∃ Z, strOfNums b = Z := ⟨_, rfl⟩
  have HZe := Aside0.mk eZ
  clear eZ HEq
  go_wp2_with fail
  refine (lives.at _).mono ?_
  rintro e w7 ⟨rfl, hb⟩
  replace HZ := Aside0.mk (HZ.out.step hb)
  replace HSc := Aside0.mk (Kd.R_below HSc.out hb)
  have q8 := HZ.out.s8.cell
  clear hb
  go_wp2_with fail
  refine (same_at Al cl Am cm (scanS b) _ (Kd.R_reads' HSc.out).2.2 (Kd.R_reads' HSc.out).2.1 (Kd.R_reads' HZ.out.m).2.2 (Kd.R_reads' HZ.out.m).2.1 HBig.out).mono ?_
  rintro e z0 ⟨rfl, hb⟩
  replace HZ := Aside0.mk (HZ.out.step hb)
  have hc1 := RB.str HZ.out.own
  have hc2 := Kd.C_string (P := Try.prog) (c := c0) Try.underlying22 Try.underlying5 Try.underlying9 (Kd.C_below HR.out HZ.out.below)
  rw [HZe.out] at hc1 hc2
  clear hb HSc q8
  go_upto_region 6 with (fail)
  clear hc1 hc2
  go_wp2
  obtain ⟨b10, e10⟩ : ∃ b10, z0.heap.size = b10 := ⟨_, rfl⟩
  obtain ⟨y0, ey0⟩ : ∃ y0, z0.alloc (.cells #[.int .i64 0] 3) = y0 := ⟨_, rfl⟩
  have H10 : Aside0 (Boxed y0 b10 3 (.int .i64 0)) := ⟨by rw [← ey0, ← e10]; exact blk_new _ _⟩
  have HB : Aside0 (Below z0.heap.size z0 y0) := ⟨by rw [← ey0]; exact below_alloc (Below.refl _ _) _⟩
  have HP10 : Aside0 (z0.heap.size ≤ b10) := ⟨by rw [e10]; exact Nat.le_refl _⟩
  have HLo : Aside0 (s + 1 < z0.heap.size ∧ w.heap.size = s ∧ b8 < z0.heap.size) := ⟨blk_lt HZ.out.s4, HES.out, blk_lt HZ.out.s8⟩
  simp only [ey0, e10]
  clear ey0 e10 es
  refine wp_loop_rounds 3 ?_
  show Code.wp _ _ _ _ _
  have q10 := H10.out.cell
  go_upto_region 10 with (fail)
  obtain ⟨b11, e11⟩ : ∃ b11, y0.heap.size = b11 := ⟨_, rfl⟩
  obtain ⟨xa, exa⟩ : ∃ xa, (y0.alloc (.cells #[.int .i64 0] 3)).alloc (.cells #[.int .i64 0] 3) = xa := ⟨_, rfl⟩
  have HX : Aside0 (Boxed xa b11 3 (.int .i64 0) ∧ Boxed xa (b11 + 1) 3 (.int .i64 0) ∧ Below y0.heap.size y0 xa) := ⟨by
    have e1 := blk_new y0 (.cells #[.int .i64 0] 3)
    have e2 := blk_new (y0.alloc (.cells #[.int .i64 0] 3)) (.cells #[.int .i64 0] 3)
    rw [World.size_alloc] at e2
    rw [e11] at e1 e2
    subst exa
    exact ⟨blk_alloc e1 _, e2, below_alloc (below_alloc (Below.refl _ _) _) _⟩⟩
  have HW : Aside0 (y0.heap.size = b11 ∧ z0.heap.size ≤ y0.heap.size ∧ b10 < y0.heap.size) := ⟨e11, HB.out.size, blk_lt H10.out⟩
  simp only [exa, e11]
  clear exa e11 q10
  have HBa : Aside0 (Below z0.heap.size z0 xa) := ⟨below_step HB.out HX.out.2.2⟩
  go_wp2_with fail
  refine (All.at Ao co b _ (RB.C (HZ.out.step HBa.out).own) (by have := HL.out; omega)).mono ?_
  rintro e xb ⟨bx0, Ax0, cx0, rfl, _, _, _, hb⟩
  have HBb : Aside0 (Below xa.heap.size xa xb) := ⟨hb⟩
  have hq := eql_fn xb (.func 23) #[] #[.pointer (some ⟨bx0, 0, none⟩)]
  clear hb
  have HBzb : Aside0 (Below z0.heap.size z0 xb) := ⟨below_step HBa.out HBb.out⟩
  go_wp2_with fail
  refine (All.at Ao co b _ (RB.C (HZ.out.step HBzb.out).own) (by have := HL.out; omega)).mono ?_
  rintro e x5 ⟨bx, Ax, cx, rfl, hbx, hro, hle, hb⟩
  have HBx := Aside0.mk (And.intro hbx (And.intro hro hle))
  have HBac : Aside0 (Below xa.heap.size xa x5) := ⟨below_step HBb.out hb⟩
  have HSz : Aside0 (xa.heap.size ≤ xb.heap.size ∧ xb.heap.size ≤ x5.heap.size) := ⟨HBb.out.size, hb.size⟩
  clear hb hq hbx hro hle HBb HBzb
  have HB5 : Aside0 (Below z0.heap.size z0 x5) := ⟨below_step HBa.out HBac.out⟩
  go_wp2
  obtain ⟨Q, eQ⟩ : ∃ Q : Prop, Q = ((0 : Int) = 0) := ⟨_, rfl⟩
  have HQ := Aside0.mk eQ
  clear eQ
  obtain ⟨T, eT⟩ : ∃ T : Nat → Prop, T = fun k => k = b11 ∨ k = b11 + 1 ∨ x5.heap.size ≤ k := ⟨_, rfl⟩
  have HT : Aside0 (∀ k, k ≠ b11 → k ≠ b11 + 1 → k < x5.heap.size → ¬ T k) := ⟨fun k h1 h2 h3 h4 => by rw [eT] at h4; rcases h4 with h | h | h <;> omega⟩
  have HT1 : Aside0 (∀ k, x5.heap.size ≤ k → T k) := ⟨fun k h => by rw [eT]; exact .inr (.inr h)⟩
  have HT2 : Aside0 (T b11 ∧ T (b11 + 1)) := ⟨by rw [eT]; exact ⟨.inl rfl, .inr (.inl rfl)⟩⟩
  clear eT
  have HX12 : Aside0 (b11 + 1 < xa.heap.size ∧ z0.heap.size ≤ b11 ∧ b10 < b11) := ⟨blk_lt HX.out.2.1, by have := HW.out; omega, by have := HW.out; omega⟩
  have HTb : Aside0 (¬ T bx) := ⟨by have h1 := HBx.out.2.2; have := HSz.out; have := HX12.out; exact HT.out _ (by omega) (by omega) (blk_lt HBx.out.1)⟩
  have HTx : Aside0 (∀ k, xb.heap.size ≤ k → k < x5.heap.size → ¬ T k) := ⟨fun k h1 h2 => by have := HSz.out; have := HX12.out; exact HT.out k (by omega) (by omega) h2⟩
  have HTz : Aside0 (∀ k, k < z0.heap.size → ¬ T k) := ⟨fun k h => by have := HB5.out.size; have := HX12.out; exact HT.out k (by omega) (by omega) (by omega)⟩
  have HT10 : Aside0 (¬ T b10) := ⟨by have := HW.out; have := HX12.out; have := HBac.out.size; have := HX.out.2.2.size; exact HT.out b10 (by omega) (by omega) (by omega)⟩
  have HZ5 : Aside0 (ZS w x5 s b8 most Ao Am co cm b) := ⟨HZ.out.step HB5.out⟩
  have H10x : Aside0 (Boxed x5 b10 3 (.int .i64 (0 : Int))) := ⟨blk_below H10.out (below_step HX.out.2.2 HBac.out)⟩
  refine rangeX3 (r := 13) (t := 14) (gf := 23) (lb := #[.pointer (some ⟨bx, 0, none⟩)]) (e1 := fun d : Fr => .int .i64 d.i) (e2 := fun d : Fr => .string d.s) rfl (enters_of Try.func23 (by kernel_rfl) rfl) HT1.out
    (All.stops 4 (by omega) T b HBt.out (by have := HL.out; omega) bx Ax cx (Kd.R_reads' HBx.out.2.1).2.1 x5 ((blk_cell HBx.out.1 0).trans rfl) HTb.out
      (Kd.C_kept_own (Kd.R_mono (ok' := fun k => xb.heap.size ≤ k ∧ k < x5.heap.size) (Kd.R_bound HBx.out.2.1) (fun k q => ⟨q.2.1, q.2.2.1⟩)) (fun k q => HTx.out k q.1 q.2)))
    (fun pre W => FI z0 x5 W T b11 (b11 + 1) (pre.length : Int) (plF (scanS b) pre.length)) (fun c pre W => (c = .exit 2 ∧ Q ∧ most = (pre.length : Int) ∧ FI z0 x5 W T b11 (b11 + 1) (pre.length : Int) (plF (scanS b) pre.length)) ∨ ¬ pre <+: frames b)
    ?hI ?hIx ?h0 (fun W => ∃ iv pv : Int, FI z0 x5 W T b11 (b11 + 1) iv pv ∧ (iv = ((scanS b).length : Int) ∨ (Q ∧ most = iv))) ?assign ?body ?done ?stop ?on
  case hI => exact fun pre A B row h hg hr => h.own hg HB5.out.size HT1.out hr
  case hIx =>
    rintro c pre A B row (h | h) hg hr
    · exact .inl ⟨h.1, h.2.1, h.2.2.1, h.2.2.2.own hg HB5.out.size HT1.out hr⟩
    · exact .inr h
  case h0 => exact ⟨blk_below HX.out.1 HBac.out, blk_below HX.out.2.1 HBac.out, Kept.refl _ _, HB5.out⟩
  case assign =>
    intro l x W K hK
    gi_wp2
    exact hK
  case done =>
    rintro xs W rfl h
    exact ⟨_, _, h, .inl (by rw [frames_length])⟩
  case stop =>
    rintro c pre W hS (⟨rfl, h1, h2, h3⟩ | h)
    · exact ⟨rfl, _, _, h3, .inr ⟨h1, h2⟩⟩
    · exact absurd hS h
  case body =>
    rintro l pre ⟨xi, xs⟩ W hi hlt
    have hz := HZ.out.step hi.below
    simp only [actX, List.setIfInBounds_toArray, List.set_cons_zero, List.set_cons_succ]
    exact bodyF_all l W hi hz.s3 hz.s4 hz.s8.cell (blk_kept H10x.out hi.kept HT10.out) (Kd.R_reads' hz.m).2.2 HT2.out (by have := HX12.out; have := HLo.out; omega) HBt.out (by have := HL.out; omega) (fun e => HQ.out.mpr e) _ _ _ _ _ _ _ _ _ _ _ _ _ _ _ _ _ _ _ _ _ _ _ _ _ _ _ _ _ _ _ _ _ _ _ _ _ _ _ _ _ _ _ _ _ _ _ _ _ _ _ _ _ _ _ _ _ _ _ _ _ _ _ _ _ _ _ _ _ _ _ _ _ _ _ _ _ _ _ _ _ _ _ _ _ _ _ _ _ _ _ _ _ _ _ _ _ rfl
  case on =>
  intro D1 z1 hD hf hK
  obtain ⟨iv, pv, hf, hiv⟩ := hf
  have HF := Aside0.mk hf
  have HIv := Aside0.mk hiv
  have HK1 : Aside0 (z1.heap[D1]? = some (.deferred (some []))) := ⟨hK⟩
  have HD1 : Aside0 (x5.heap.size ≤ D1) := ⟨hD⟩
  have HK10 : Aside0 (Boxed z1 b10 3 (.int .i64 (0 : Int))) := ⟨blk_kept H10x.out HF.out.kept HT10.out⟩
  have HZr : Aside0 (ZS w z1 s b8 most Ao Am co cm b) := ⟨HZ.out.step HF.out.below⟩
  clear hD hf hK hiv
  dsimp only
  have q8 := HZr.out.s8.cell
  have q3 := HZr.out.s3.cell
  have q10 := HK10.out.cell
  have q11 := HF.out.i11.cell
  go_upto_region 20 with (fail)
  go_cut [102] from 90 to 102 (fun v102 wc => v102 = .bool false ∧ Aside0 (z1 = wc))
  case first =>
    by_cases k : iv = ((scanS b).length : Int)
    · have k1 : (iv == ((scanS b).length : Int)) = true := beq_iff_eq.mpr k
      have k2 : (iv != ((scanS b).length : Int)) = false := bne_eq_false_iff_eq.mpr k
      clear k
      go_wp2
      go_meet
      case rel => exact ⟨rfl, ⟨rfl⟩⟩
    · have k1 : (iv == ((scanS b).length : Int)) = false := beq_eq_false_iff_ne.mpr k
      have k2 : (iv != ((scanS b).length : Int)) = true := bne_iff_ne.mpr k
      rcases HIv.out with h | ⟨h1, h2⟩
      · exact absurd h k
      · have k3 : (iv == most) = true := beq_iff_eq.mpr h2.symm
        have k4 : (iv != most) = false := bne_eq_false_iff_eq.mpr h2.symm
        clear k h1 h2
        go_wp2
        go_meet
        case rel => exact ⟨rfl, ⟨rfl⟩⟩
  case rest =>
  obtain ⟨rfl, hwc⟩ := hcut
  have hwc2 := hwc.out
  subst hwc2
  clear hwc
  clear q3 q8 q10 q11
  have q10 := HK10.out.cell
  go_upto_region 7 with (fail)
  obtain ⟨b10, e10⟩ : ∃ b10, z1.heap.size = b10 := ⟨_, rfl⟩
  obtain ⟨y1, ey1⟩ : ∃ y1, z1.alloc (.cells #[.int .i64 1] 3) = y1 := ⟨_, rfl⟩
  simp only [ey1, e10]
  have H10 : Aside0 (Boxed y1 b10 3 (.int .i64 1)) := ⟨by rw [← ey1, ← e10]; exact blk_new _ _⟩
  have HB : Aside0 (Below z0.heap.size z0 y1) := ⟨by rw [← ey1]; exact HF.out.below.alloc HF.out.below.size _⟩
  have HP10 : Aside0 (z0.heap.size ≤ b10) := ⟨by rw [← e10]; exact HF.out.below.size⟩
  have HDz1 : Aside0 (z0.heap.size ≤ D1) := ⟨by have := HB5.out.size; have := HD1.out; omega⟩
  replace HK1 : Aside0 (y1.heap[D1]? = some (.deferred (some []))) := ⟨by rw [← ey1]; exact blk_alloc HK1.out _⟩
  clear q10 e10 ey1 HF HIv HK10 HZr HX HW HBa HBac HSz HBx HB5 HQ HT HT1 HT2 HX12 HTb HTx HTz HT10 HZ5 H10x
  show Code.wp _ _ _ _ _
  have q10 := H10.out.cell
  go_upto_region 10 with (fail)
  obtain ⟨b11, e11⟩ : ∃ b11, y1.heap.size = b11 := ⟨_, rfl⟩
  obtain ⟨xa, exa⟩ : ∃ xa, (y1.alloc (.cells #[.int .i64 0] 3)).alloc (.cells #[.int .i64 0] 3) = xa := ⟨_, rfl⟩
  have HX : Aside0 (Boxed xa b11 3 (.int .i64 0) ∧ Boxed xa (b11 + 1) 3 (.int .i64 0) ∧ Below y1.heap.size y1 xa) := ⟨by
    have e1 := blk_new y1 (.cells #[.int .i64 0] 3)
    have e2 := blk_new (y1.alloc (.cells #[.int .i64 0] 3)) (.cells #[.int .i64 0] 3)
    rw [World.size_alloc] at e2
    rw [e11] at e1 e2
    subst exa
    exact ⟨blk_alloc e1 _, e2, below_alloc (below_alloc (Below.refl _ _) _) _⟩⟩
  have HW : Aside0 (y1.heap.size = b11 ∧ z0.heap.size ≤ y1.heap.size ∧ b10 < y1.heap.size) := ⟨e11, HB.out.size, blk_lt H10.out⟩
  simp only [exa, e11]
  clear exa e11 q10
  have HBa : Aside0 (Below z0.heap.size z0 xa) := ⟨below_step HB.out HX.out.2.2⟩
  go_wp2_with fail
  refine (All.at Ao co b _ (RB.C (HZ.out.step HBa.out).own) (by have := HL.out; omega)).mono ?_
  rintro e xb ⟨bx0, Ax0, cx0, rfl, _, _, _, hb⟩
  have HBb : Aside0 (Below xa.heap.size xa xb) := ⟨hb⟩
  have hq := eql_fn xb (.func 23) #[] #[.pointer (some ⟨bx0, 0, none⟩)]
  clear hb
  have HBzb : Aside0 (Below z0.heap.size z0 xb) := ⟨below_step HBa.out HBb.out⟩
  go_wp2_with fail
  refine (All.at Ao co b _ (RB.C (HZ.out.step HBzb.out).own) (by have := HL.out; omega)).mono ?_
  rintro e x5 ⟨bx, Ax, cx, rfl, hbx, hro, hle, hb⟩
  have HBx := Aside0.mk (And.intro hbx (And.intro hro hle))
  have HBac : Aside0 (Below xa.heap.size xa x5) := ⟨below_step HBb.out hb⟩
  have HSz : Aside0 (xa.heap.size ≤ xb.heap.size ∧ xb.heap.size ≤ x5.heap.size) := ⟨HBb.out.size, hb.size⟩
  clear hb hq hbx hro hle HBb HBzb
  have HB5 : Aside0 (Below z0.heap.size z0 x5) := ⟨below_step HBa.out HBac.out⟩
  go_wp2
  obtain ⟨Q, eQ⟩ : ∃ Q : Prop, Q = ((1 : Int) = 0) := ⟨_, rfl⟩
  have HQ := Aside0.mk eQ
  clear eQ
  obtain ⟨T, eT⟩ : ∃ T : Nat → Prop, T = fun k => k = b11 ∨ k = b11 + 1 ∨ x5.heap.size ≤ k := ⟨_, rfl⟩
  have HT : Aside0 (∀ k, k ≠ b11 → k ≠ b11 + 1 → k < x5.heap.size → ¬ T k) := ⟨fun k h1 h2 h3 h4 => by rw [eT] at h4; rcases h4 with h | h | h <;> omega⟩
  have HT1 : Aside0 (∀ k, x5.heap.size ≤ k → T k) := ⟨fun k h => by rw [eT]; exact .inr (.inr h)⟩
  have HT2 : Aside0 (T b11 ∧ T (b11 + 1)) := ⟨by rw [eT]; exact ⟨.inl rfl, .inr (.inl rfl)⟩⟩
  clear eT
  have HX12 : Aside0 (b11 + 1 < xa.heap.size ∧ z0.heap.size ≤ b11 ∧ b10 < b11) := ⟨blk_lt HX.out.2.1, by have := HW.out; omega, by have := HW.out; omega⟩
  have HTb : Aside0 (¬ T bx) := ⟨by have h1 := HBx.out.2.2; have := HSz.out; have := HX12.out; exact HT.out _ (by omega) (by omega) (blk_lt HBx.out.1)⟩
  have HTx : Aside0 (∀ k, xb.heap.size ≤ k → k < x5.heap.size → ¬ T k) := ⟨fun k h1 h2 => by have := HSz.out; have := HX12.out; exact HT.out k (by omega) (by omega) h2⟩
  have HTz : Aside0 (∀ k, k < z0.heap.size → ¬ T k) := ⟨fun k h => by have := HB5.out.size; have := HX12.out; exact HT.out k (by omega) (by omega) (by omega)⟩
  have HT10 : Aside0 (¬ T b10) := ⟨by have := HW.out; have := HX12.out; have := HBac.out.size; have := HX.out.2.2.size; exact HT.out b10 (by omega) (by omega) (by omega)⟩
  have HZ5 : Aside0 (ZS w x5 s b8 most Ao Am co cm b) := ⟨HZ.out.step HB5.out⟩
  have H10x : Aside0 (Boxed x5 b10 3 (.int .i64 (1 : Int))) := ⟨blk_below H10.out (below_step HX.out.2.2 HBac.out)⟩
  refine rangeX3 (r := 13) (t := 14) (gf := 23) (lb := #[.pointer (some ⟨bx, 0, none⟩)]) (e1 := fun d : Fr => .int .i64 d.i) (e2 := fun d : Fr => .string d.s) rfl (enters_of Try.func23 (by kernel_rfl) rfl) HT1.out
    (All.stops 4 (by omega) T b HBt.out (by have := HL.out; omega) bx Ax cx (Kd.R_reads' HBx.out.2.1).2.1 x5 ((blk_cell HBx.out.1 0).trans rfl) HTb.out
      (Kd.C_kept_own (Kd.R_mono (ok' := fun k => xb.heap.size ≤ k ∧ k < x5.heap.size) (Kd.R_bound HBx.out.2.1) (fun k q => ⟨q.2.1, q.2.2.1⟩)) (fun k q => HTx.out k q.1 q.2)))
    (fun pre W => FI z0 x5 W T b11 (b11 + 1) (pre.length : Int) (plF (scanS b) pre.length)) (fun c pre W => (c = .exit 2 ∧ Q ∧ most = (pre.length : Int) ∧ FI z0 x5 W T b11 (b11 + 1) (pre.length : Int) (plF (scanS b) pre.length)) ∨ ¬ pre <+: frames b)
    ?hI ?hIx ?h0 (fun W => ∃ iv pv : Int, FI z0 x5 W T b11 (b11 + 1) iv pv ∧ (iv = ((scanS b).length : Int) ∨ (Q ∧ most = iv))) ?assign ?body ?done ?stop ?on
  case hI => exact fun pre A B row h hg hr => h.own hg HB5.out.size HT1.out hr
  case hIx =>
    rintro c pre A B row (h | h) hg hr
    · exact .inl ⟨h.1, h.2.1, h.2.2.1, h.2.2.2.own hg HB5.out.size HT1.out hr⟩
    · exact .inr h
  case h0 => exact ⟨blk_below HX.out.1 HBac.out, blk_below HX.out.2.1 HBac.out, Kept.refl _ _, HB5.out⟩
  case assign =>
    intro l x W K hK
    gi_wp2
    exact hK
  case done =>
    rintro xs W rfl h
    exact ⟨_, _, h, .inl (by rw [frames_length])⟩
  case stop =>
    rintro c pre W hS (⟨rfl, h1, h2, h3⟩ | h)
    · exact ⟨rfl, _, _, h3, .inr ⟨h1, h2⟩⟩
    · exact absurd hS h
  case body =>
    rintro l pre ⟨xi, xs⟩ W hi hlt
    have hz := HZ.out.step hi.below
    simp only [actX, List.setIfInBounds_toArray, List.set_cons_zero, List.set_cons_succ]
    exact bodyF_all l W hi hz.s3 hz.s4 hz.s8.cell (blk_kept H10x.out hi.kept HT10.out) (Kd.R_reads' hz.m).2.2 HT2.out (by have := HX12.out; have := HLo.out; omega) HBt.out (by have := HL.out; omega) (fun e => HQ.out.mpr e) _ _ _ _ _ _ _ _ _ _ _ _ _ _ _ _ _ _ _ _ _ _ _ _ _ _ _ _ _ _ _ _ _ _ _ _ _ _ _ _ _ _ _ _ _ _ _ _ _ _ _ _ _ _ _ _ _ _ _ _ _ _ _ _ _ _ _ _ _ _ _ _ _ _ _ _ _ _ _ _ _ _ _ _ _ _ _ _ _ _ _ _ _ _ _ _ _ rfl
  case on =>
  intro D2 z2 hD hf hK
  obtain ⟨iv, pv, hf, hiv⟩ := hf
  have HF := Aside0.mk hf
  have HIv := Aside0.mk hiv
  have HK2 : Aside0 (z2.heap[D2]? = some (.deferred (some []))) := ⟨hK⟩
  have HD2 : Aside0 (x5.heap.size ≤ D2) := ⟨hD⟩
  have HK10 : Aside0 (Boxed z2 b10 3 (.int .i64 (1 : Int))) := ⟨blk_kept H10x.out HF.out.kept HT10.out⟩
  have HZr : Aside0 (ZS w z2 s b8 most Ao Am co cm b) := ⟨HZ.out.step HF.out.below⟩
  clear hD hf hK hiv
  dsimp only
  have q8 := HZr.out.s8.cell
  have q3 := HZr.out.s3.cell
  have q10 := HK10.out.cell
  have q11 := HF.out.i11.cell
  go_upto_region 20 with (fail)
  go_cut [102] from 90 to 102 (fun v102 wc => v102 = .bool false ∧ Aside0 (z2 = wc))
  case first =>
    by_cases k : iv = ((scanS b).length : Int)
    · have k1 : (iv == ((scanS b).length : Int)) = true := beq_iff_eq.mpr k
      have k2 : (iv != ((scanS b).length : Int)) = false := bne_eq_false_iff_eq.mpr k
      clear k
      go_wp2
      go_meet
      case rel => exact ⟨rfl, ⟨rfl⟩⟩
    · have k1 : (iv == ((scanS b).length : Int)) = false := beq_eq_false_iff_ne.mpr k
      have k2 : (iv != ((scanS b).length : Int)) = true := bne_iff_ne.mpr k
      rcases HIv.out with h | ⟨h1, h2⟩
      · exact absurd h k
      · exact absurd (HQ.out.mp h1) (by decide)
  case rest =>
  obtain ⟨rfl, hwc⟩ := hcut
  have hwc2 := hwc.out
  subst hwc2
  clear hwc
  clear q3 q8 q10 q11
  have q10 := HK10.out.cell
  go_upto_region 7 with (fail)
  have HKa : Aside0 (z2.heap[D1]? = some (.deferred (some []))) := ⟨blk_kept (blk_below HK1.out (below_step HX.out.2.2 HBac.out)) HF.out.kept (HT.out _ (by have := HW.out; have := blk_lt HK1.out; omega) (by have := HW.out; have := blk_lt HK1.out; omega) (by have := blk_lt HK1.out; have := HX.out.2.2.size; have := HBac.out.size; omega))⟩
  have HDo : Aside0 (D1 < D2) := ⟨by have := blk_lt HK1.out; have := HX.out.2.2.size; have := HBac.out.size; have := HD2.out; omega⟩
  obtain ⟨b10, e10⟩ : ∃ b10, z2.heap.size = b10 := ⟨_, rfl⟩
  obtain ⟨y2, ey2⟩ : ∃ y2, z2.alloc (.cells #[.int .i64 2] 3) = y2 := ⟨_, rfl⟩
  simp only [ey2, e10]
  have H10 : Aside0 (Boxed y2 b10 3 (.int .i64 2)) := ⟨by rw [← ey2, ← e10]; exact blk_new _ _⟩
  have HB : Aside0 (Below z0.heap.size z0 y2) := ⟨by rw [← ey2]; exact HF.out.below.alloc HF.out.below.size _⟩
  have HP10 : Aside0 (z0.heap.size ≤ b10) := ⟨by rw [← e10]; exact HF.out.below.size⟩
  have HDz2 : Aside0 (z0.heap.size ≤ D2) := ⟨by have := HB5.out.size; have := HD2.out; omega⟩
  replace HK2 : Aside0 (y2.heap[D2]? = some (.deferred (some []))) := ⟨by rw [← ey2]; exact blk_alloc HK2.out _⟩
  replace HK1 : Aside0 (y2.heap[D1]? = some (.deferred (some []))) := ⟨by rw [← ey2]; exact blk_alloc HKa.out _⟩
  clear q10 e10 ey2 HF HIv HK10 HZr HX HW HBa HBac HSz HBx HB5 HQ HT HT1 HT2 HX12 HTb HTx HTz HT10 HZ5 H10x
  show Code.wp _ _ _ _ _
  have q10 := H10.out.cell
  have HZ3 : Aside0 (ZS w y2 s b8 most Ao Am co cm b) := ⟨HZ.out.step HB.out⟩
  have q4 := HZ3.out.s4.cell
  have f4 := HZ3.out.s4.frozen
  go_wp2
  refine leaves_marks [D2, D1] _ (fun W' g1 g2 g3 => ?_) ?_ ?_
  · have hc : W'.cell? ⟨s + 1, 0, none⟩ = some (.bool true) := by
      have h1 := box_set HZ3.out.s4 (.bool true)
      have h2 : W'.heap[s + 1]? = some (.cells #[.bool true] 4 (0, 0)) := (g1 (s + 1) (by have := HDz1.out; have := HDz2.out; have := HLo.out; simp; omega)).trans h1
      exact (blk_cell h2 0).trans rfl
    have hbw := HZ3.out.below.setCell (p := ⟨s + 1, 0, none⟩) (by have := HLo.out; show w.heap.size ≤ s + 1; omega) (.bool true)
    refine ⟨.bool true, by simp [results, Try.f4, go_sem, hc], rfl, ⟨g3.1.trans hbw.os, g3.2.1.trans hbw.tape, g3.2.2.trans hbw.output, by rw [g2]; exact hbw.size, fun k hk => (g1 k ?_).trans (hbw.block k hk)⟩⟩
    have := HDz1.out; have := HDz2.out; have := HLo.out; simp; omega
  · have := HDo.out; simp; omega
  · intro D hD
    have hne : D ≠ s + 1 := by
      have := HDz1.out; have := HDz2.out; have := HLo.out
      simp at hD
      rcases hD with h | h <;> omega
    refine (Below.heap_setCell y2 ⟨s + 1, 0, none⟩ (.bool true) D hne).trans ?_
    simp at hD
    rcases hD with rfl | rfl
    · exact HK2.out
    · exact HK1.out
theorem pannierlaw02_FrameScans.walked (w : World) (A0 : Option Addr) (c0 : Nat) (b : List Int) (hr : Kd.C (Kd.int .u8) w A0 b.length b) (hc : b.length ≤ c0) (hb : Bts b) (hl : b.length ≤ 1048576) (a2 : Int) (ha : (Lit.int .i64 a2).wf = true) :
    Calls Try.prog 4 #[.slice A0 b.length c0, .int .i64 a2] w fun e w' => e = .returned (.bool true) ∧ Below w.heap.size w w' := FrameScans.at_ A0 c0 b a2 w hr hc hb (by omega)
end Go.Proofs.Ytlmpdlmamopbeaa.P
