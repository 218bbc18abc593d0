/- The statement VvGrows: the walk. -/
import Derived.Test.YtnmjhagmobcdkaaRb
import Derived.Test.YtnmjhagmobcdkaaGl
namespace Go.Proofs.Ytnmjhagmobcdkaa.P
open Go.RowKit Go.Proofs.YtnmjhagmobcdkaaW.PrintWords Go.Proofs.YtnmjhagmobcdkaaW.PrintLast Go.Proofs.YtnmjhagmobcdkaaW.PrintMore
attribute [local go_sem] Oper.semAt_some
attribute [local go_sem] max2_int min2_int max_two min_two
set_option linter.unusedVariables false
set_option linter.unusedSimpArgs false
/-- 'Between' hands back the iterator over boxes of its own that hold copies of its own. -/
def BtwNew (l0 l1 : List Int) (w : World) (e : Ending) (w' : World) : Prop :=
  ∃ (bx bz : Nat) (A0 A1 : Option Addr) (c0 c1 : Nat), e = .returned (.func (.func 39) #[] #[.pointer (some ⟨bz, 0, none⟩), .pointer (some ⟨bx, 0, none⟩)]) ∧ (w.heap.size ≤ bx ∧ w.heap.size ≤ bz ∧ bx < w'.heap.size ∧ bz < w'.heap.size) ∧
    w'.cell? ⟨bx, 0, none⟩ = some (.slice A0 l0.length c0) ∧ w'.cell? ⟨bz, 0, none⟩ = some (.slice A1 l1.length c1) ∧
    Kd.R (Kd.int .i64) 3 w' w.heap.size (fun _ => True) (.slice A0 l0.length c0) l0 ∧ Kd.R (Kd.int .i64) 3 w' w.heap.size (fun _ => True) (.slice A1 l1.length c1) l1 ∧ Below w.heap.size w w'
set_option maxHeartbeats 1000000 in
set_option maxRecDepth 100000 in
theorem Btw.new (A0 : Option Addr) (c0 : Nat) (l0 : List Int) (A1 : Option Addr) (c1 : Nat) (l1 : List Int) (w : World) (hr0 : Kd.C (Kd.int .i64) w A0 l0.length l0) (hc0 : l0.length ≤ c0) (hr1 : Kd.C (Kd.int .i64) w A1 l1.length l1) (hc1 : l1.length ≤ c1) (hl0 : l0.length < 17592186044416) (hl1 : l1.length < 17592186044416) :
    Calls Try.prog 25 #[.slice A0 l0.length c0, .slice A1 l1.length c1] w (BtwNew l0 l1 w) := by
  have H0 := Aside0.mk (slices_Clone_int_int.calls_n A0 c0 _ l0 w rfl hr0 hc0 hl0)
  have H1 := Aside0.mk (fun (w1 : World) (hb : Below w.heap.size w w1) => slices_Clone_int_int.calls_n A1 c1 _ l1 w1 rfl (Kd.C_below hr1 hb) hc1 hl1)
  clear hr0 hc0 hr1 hc1 hl0 hl1
  go_enter Try.func25, Try.ntmps25
  go_wp2_with fail
  refine H0.out.mono ?_
  rintro e w1 ⟨v1, rfl, ho1, hb1⟩
  have HO1 := Aside0.mk ho1
  have HB1 := Aside0.mk hb1
  clear ho1 hb1
  go_wp2_with fail
  refine (H1.out _ HB1.out).mono ?_
  rintro e w2 ⟨v2, rfl, ho2, hb2⟩
  have HO2 := Aside0.mk (Kd.R_lower ho2 HB1.out.size)
  have HO3 := Aside0.mk (Kd.R_below HO1.out hb2)
  have HB2 := Aside0.mk (below_step HB1.out hb2)
  clear ho2 hb2 HO1 HB1 H0 H1
  obtain ⟨A2, c2, e2⟩ := Kd.R_slice HO2.out
  subst e2
  obtain ⟨A3, c3, e3⟩ := Kd.R_slice HO3.out
  subst e3
  go_wp2
  go_ret
  have hb := below_alloc (below_alloc (Below.refl w2.heap.size w2) (.cells #[.slice A3 l0.length c3] 22)) (.cells #[.slice A2 l1.length c2] 22)
  exact ⟨w2.heap.size, w2.heap.size + 1, A3, A2, c3, c2, rfl, ⟨HB2.out.size, by have := HB2.out.size; omega, by go_simp, by go_simp⟩, by go_simp, by go_simp, Kd.R_below HO3.out hb, Kd.R_below HO2.out hb, below_alloc (below_alloc HB2.out _) _⟩
theorem eql_nilFunc (f : Fn) (a b : Array Value) (W : World) : (binOp .eql 38 (.func f a b) .nilFunc).run Try.prog W = .ok (.bool false) W := by
  have h : ∀ d : Nat, (Op.equalIn (d + 1) 38 (.func f a b) .nilFunc).run Try.prog W = .ok false W := fun d => by
    simp [Op.equalIn, run_underlying Try.underlying38]
  simp only [binOp]
  simp [Op.equal, Op.maxDepth, h 9999]
theorem eqA31 (d : Nat) (w : World) (x0 y0 : Int) (x1 y1 : Int) :
    (Op.equalIn (d + 2) 31 (.agg #[.int .i64 x0, .int .i64 x1]) (.agg #[.int .i64 y0, .int .i64 y1])).run Try.prog w = .ok (x0 == y0 && (x1 == y1)) w := by
  refine eqA_of Try.underlying31 (by kernel_rfl) ?_
  refine eqf_cons (by rfl) (by go_simp; rfl) (by go_simp; rfl) (by go_simp) ?_
  exact eqf_last (by rfl) (by go_simp; rfl) (by go_simp; rfl) (by go_simp)
theorem neq31 (x0 y0 x1 y1 : Int) (W : World) : (binOp .neq 31 (.agg #[.int .i64 x0, .int .i64 x1]) (.agg #[.int .i64 y0, .int .i64 y1])).run Try.prog W = .ok (.bool (!(x0 == y0 && (x1 == y1)))) W := by
  simp only [binOp]
  simp [Op.equal, Op.maxDepth, eqA31 9998]
theorem box_set {W : World} {b t : Nat} {v : Value} (h : Boxed W b t v) (u : Value) : Boxed (W.setCell ⟨b, 0, none⟩ u) b t u := by
  have := blk_set h 0 u
  show (W.setCell ⟨b, 0, none⟩ u).heap[b]? = _
  simpa using this
theorem ret8 {w W : World} {b : Nat} {r0 : Bool} {tm : Array Value} (h4 : tm[4]?.getD undef = .pointer (some ⟨b, 0, none⟩)) (hB : Boxed W b 4 (.bool r0)) (hw : w.heap.size ≤ b) (hb : Below w.heap.size w W) (r : Bool) :
    bodyPostM Fence.wide 5 Try.prog Try.f8 (fun e w' => e = .returned (.bool r) ∧ Below w.heap.size w w') .ret { tmps := tm, defers := [] } (W.setCell ⟨b, 0, none⟩ (.bool r)) := by
  have hc : (W.setCell ⟨b, 0, none⟩ (.bool r)).cell? ⟨b, 0, none⟩ = some (.bool r) := World.cell?_setCell_same' W ⟨b, 0, none⟩ (.bool r) (by rw [hB.cell]; rfl)
  exact ⟨.bool r, by simp [results, Try.f8, go_sem, h4, hc], rfl, hb.setCell (p := ⟨b, 0, none⟩) hw _⟩
theorem may_wf {v : List Int} (h : mayB v = true) : ∀ x ∈ v, x ≤ 9223372036854775807 := by
  intro x hx
  obtain ⟨j, hj, rfl⟩ := List.getElem_of_mem hx
  have := rd_count h j
  rw [rd_in hj] at this
  omega
theorem has_new {v : List Int} {o n : Int} (h0 : 0 ≤ o) (hn : 0 < n) : hasB (withL v o n) o n = true := by
  have := rd_with v n h0 o.toNat
  rw [if_pos rfl, Int.toNat_of_nonneg h0] at this
  unfold hasB ofZ
  rw [if_pos h0, this, decide_eq_true hn, decide_eq_true (Int.le_refl n)]
  rfl
theorem has_not {v : List Int} {o n : Int} (h0 : 0 ≤ o) (hn : rd v o < n) : hasB v o n = false := by
  unfold hasB ofZ
  rw [if_pos h0, decide_eq_false (show ¬ n ≤ rd v o by omega), Bool.and_false]
set_option maxHeartbeats 8000000 in
set_option maxRecDepth 100000 in
theorem VvGrows.in_ (w : World) (A0 : Option Addr) (c0 : Nat) (l0 : List Int) (hr0 : Kd.C (Kd.int .i64) w A0 l0.length l0) (hc0 : l0.length ≤ c0) (o : Int) (hm : mayB l0 = true) (h0 : 0 ≤ o) (h6 : o ≤ 6) (hn : rd l0 o < 2147483647) :
    Calls Try.prog 8 #[.slice A0 l0.length c0, .int .i64 o] w fun e w' => e = .returned (.bool true) ∧ Below w.heap.size w w' := by
  have HG := Aside0.mk (And.intro hm (And.intro h0 (And.intro h6 hn)))
  have HC0 := Aside0.mk hc0
  have HR0 := Aside0.mk hr0
  have HL7 : Aside0 (l0.length ≤ 7) := ⟨(mayB_iff.1 hm).2⟩
  have d1 : decide (o < 0) = false := decide_eq_false (by omega)
  have d2 : decide (6 < o) = false := decide_eq_false (by omega)
  have d3 : decide (2147483647 ≤ rd l0 o) = false := decide_eq_false (by omega)
  obtain ⟨n, en⟩ : ∃ n, n = rd l0 o + 1 := ⟨_, rfl⟩
  have HEn := Aside0.mk en
  have HRo : Aside0 (0 ≤ rd l0 o) := ⟨by have := (rd_count hm o.toNat).1; rwa [Int.toNat_of_nonneg h0] at this⟩
  have es : IntKind.i64.wrap (rd l0 o + 1) = n := by rw [i64_w, en]; unfold wrap64; have := HRo.out; omega
  obtain ⟨l6, e6⟩ : ∃ l6, l6 = withL l0 o n := ⟨_, rfl⟩
  have HE6 := Aside0.mk e6
  have HF27 : Aside0 (vv_With.f 2 l0 o n = some (l6, 0)) := ⟨by rw [vv_With.at1 (by have := HL7.out; omega) 1, withZ_ok ⟨h0, h6, by have := HRo.out; omega, by omega⟩, e6]⟩
  clear hm h0 h6 hn hc0 hr0 en e6
  refine calls_of_marks Try.func8 rfl ?_
  simp only [Try.ntmps8, List.size_toArray, List.length_cons, List.length_nil, Nat.reduceAdd, Nat.reduceSub, Array.replicate_succ, Array.replicate_zero, List.push_toArray, List.append_toArray, List.nil_append, List.cons_append]
  go_wp2_with fail
  refine (pannierlaw08_lives.calls true _ rfl).mono ?_
  rintro e w1 ⟨rfl, hb⟩
  obtain ⟨b3, e3⟩ : ∃ b3, w.heap.size = b3 := ⟨_, rfl⟩
  have B3 : Boxed w1 b3 3 (.int .i64 o) := by rw [← e3]; exact blk_below (blk_alloc (blk_new w _) _) hb
  have B4 : Boxed w1 (b3 + 1) 4 (.bool false) := by
    have := blk_below (blk_new (w.alloc (.cells #[.int .i64 o] 3)) (.cells #[.bool false] 4)) hb
    rw [World.size_alloc, e3] at this
    exact this
  have HB1 : Aside0 (Below w.heap.size w w1) := ⟨below_step (below_alloc (below_alloc (Below.refl _ _) _) _) hb⟩
  have HB3 := Aside0.mk B3
  have HB4 := Aside0.mk B4
  have HR1 := Aside0.mk (Kd.C_below HR0.out HB1.out)
  have q3 := B3.cell
  have q4 := B4.cell
  have f4 := B4.frozen
  clear hb B3 B4
  simp only [e3]
  have HE3 := Aside0.mk e3
  clear e3
  go_wp2_with fail
  refine (vv_May.calls A0 c0 l0 true _ HR1.out HC0.out (by unfold vv_May.f; rw [HG.out.1])).mono ?_
  rintro e w2 ⟨rfl, hb⟩
  replace q3 := pw_cell_below hb q3
  replace q4 := pw_cell_below hb q4
  replace HB3 := Aside0.mk (blk_below HB3.out hb)
  replace HB4 := Aside0.mk (blk_below HB4.out hb)
  replace HB1 := Aside0.mk (below_step HB1.out hb)
  clear hb HR1 f4
  go_wp2_with fail
  refine (vv_Of.calls A0 c0 l0 o (rd l0 o) _ (Kd.C_below HR0.out HB1.out) HC0.out (vv_Of.nat l0 o HG.out.2.1)).mono ?_
  rintro e w3 ⟨rfl, hd⟩
  have hb := Drawn0.below hd
  replace q3 := pw_cell_below hb q3
  replace q4 := pw_cell_below hb q4
  replace HB3 := Aside0.mk (blk_below HB3.out hb)
  replace HB4 := Aside0.mk (blk_below HB4.out hb)
  replace HB1 := Aside0.mk (below_step HB1.out hb)
  clear hb hd
  go_wp2_with fail
  refine (vv_Of.calls A0 c0 l0 o (rd l0 o) _ (Kd.C_below HR0.out HB1.out) HC0.out (vv_Of.nat l0 o HG.out.2.1)).mono ?_
  rintro e w4 ⟨rfl, hd⟩
  have hb := Drawn0.below hd
  replace q3 := pw_cell_below hb q3
  replace q4 := pw_cell_below hb q4
  replace HB3 := Aside0.mk (blk_below HB3.out hb)
  replace HB4 := Aside0.mk (blk_below HB4.out hb)
  replace HB1 := Aside0.mk (below_step HB1.out hb)
  clear hb hd
  go_upto_region 6 with (fail)
  obtain ⟨b5, e5⟩ : ∃ b5, w4.heap.size = b5 := ⟨_, rfl⟩
  obtain ⟨w5, ew5⟩ : ∃ w5, w4.alloc (.cells #[.int .i64 n] 3) = w5 := ⟨_, rfl⟩
  have hb : Below w4.heap.size w4 w5 := by rw [← ew5]; exact below_alloc (Below.refl _ _) _
  have B5 : Boxed w5 b5 3 (.int .i64 n) := by rw [← ew5, ← e5]; exact blk_new _ _
  simp only [ew5, e5]
  have HB5 := Aside0.mk B5
  have q5 := B5.cell
  have Hb35 : Aside0 (w.heap.size = b3 ∧ b3 + 1 < b5) := ⟨HE3.out, by have := blk_lt HB4.out; omega⟩
  replace q3 := pw_cell_below hb q3
  replace q4 := pw_cell_below hb q4
  replace HB3 := Aside0.mk (blk_below HB3.out hb)
  replace HB4 := Aside0.mk (blk_below HB4.out hb)
  replace HB1 := Aside0.mk (below_step HB1.out hb)
  clear hb B5 e5 ew5
  go_wp2_with fail
  refine (vv_With.calls 2 A0 c0 l0 o n l6 0 _ (Kd.C_below HR0.out HB1.out) HC0.out HF27.out).mono ?_
  rintro e w6 ⟨v6, rfl, ho, hb⟩
  have HO6 : Aside0 (Kd.R (Kd.int .i64) 3 w6 w5.heap.size (fun k => w5.heap.size ≤ k ∧ k < w6.heap.size) v6 l6) := ⟨Kd.R_mono (Kd.R_bound ho) (fun k q => ⟨q.2.1, q.2.2.1⟩)⟩
  obtain ⟨A6, c6, e6⟩ := Kd.R_slice HO6.out
  subst e6
  have HT6 : Aside0 (b5 < w5.heap.size ∧ w5.heap.size ≤ w6.heap.size) := ⟨blk_lt HB5.out, hb.size⟩
  have HS6 : Aside0 (w6.heap.size ≤ w6.heap.size) := ⟨Nat.le_refl _⟩
  generalize w5.heap.size = s5 at HO6 HT6
  obtain ⟨s6, es6⟩ : ∃ s6, s6 = w6.heap.size := ⟨_, rfl⟩
  rw [← es6] at HO6 HT6
  replace HS6 : Aside0 (s6 ≤ w6.heap.size) := ⟨by omega⟩
  clear es6
  replace q3 := pw_cell_below hb q3
  replace q4 := pw_cell_below hb q4
  replace q5 := pw_cell_below hb q5
  replace HB3 := Aside0.mk (blk_below HB3.out hb)
  replace HB4 := Aside0.mk (blk_below HB4.out hb)
  replace HB5 := Aside0.mk (blk_below HB5.out hb)
  replace HB1 := Aside0.mk (below_step HB1.out hb)
  clear hb ho
  have HLn : Aside0 (l6.length ≤ 7) := ⟨by rw [HE6.out]; exact with_length HG.out.2.1 HG.out.2.2.1 HL7.out⟩
  have HM6 : Aside0 (mayB l6 = true) := ⟨by rw [HE6.out, HEn.out]; exact up_may HG.out.1 HG.out.2.1 HG.out.2.2.1 HG.out.2.2.2⟩
  have HC6 : Aside0 (l6.length ≤ c6) := ⟨(Kd.R_reads' HO6.out).2.1⟩
  obtain ⟨k17, h17⟩ := vv_Compare.tot (a := l0) (b := l6) (by have := HL7.out; omega) (by have := HLn.out; omega)
  rw [show cmpZ l0 l6 = -1 by rw [HE6.out, HEn.out]; exact up_cmp HG.out.1 HG.out.2.1 HG.out.2.2.1 HG.out.2.2.2] at h17
  have H17 := Aside0.mk h17
  clear h17
  go_wp2_with fail
  refine (vv_Compare.calls k17 A0 c0 l0 A6 c6 l6 (-1) _ (Kd.C_below HR0.out HB1.out) HC0.out (Kd.R_reads' HO6.out).2.2 HC6.out H17.out).mono ?_
  rintro e w7 ⟨rfl, hb⟩
  replace q3 := pw_cell_below hb q3
  replace q4 := pw_cell_below hb q4
  replace q5 := pw_cell_below hb q5
  replace HB3 := Aside0.mk (blk_below HB3.out hb)
  replace HB4 := Aside0.mk (blk_below HB4.out hb)
  replace HB5 := Aside0.mk (blk_below HB5.out hb)
  replace HB1 := Aside0.mk (below_step HB1.out hb)
  replace HO6 := Aside0.mk (Kd.R_below HO6.out hb)
  replace HS6 : Aside0 (s6 ≤ _) := ⟨Nat.le_trans HS6.out hb.size⟩
  clear hb
  go_wp2_with fail
  refine (vv_Count.calls (l6.length + 1) A6 c6 l6 _ _ (Kd.R_reads' HO6.out).2.2 HC6.out (vv_Count.tot HM6.out)).mono ?_
  rw [show cnt l6 l6.length = cnt l0 l0.length + 1 by rw [HE6.out, HEn.out]; exact up_cnt HG.out.1 HG.out.2.1 HG.out.2.2.1 HG.out.2.2.2]
  rintro e w8 ⟨rfl, hb⟩
  replace q3 := pw_cell_below hb q3
  replace q4 := pw_cell_below hb q4
  replace q5 := pw_cell_below hb q5
  replace HB3 := Aside0.mk (blk_below HB3.out hb)
  replace HB4 := Aside0.mk (blk_below HB4.out hb)
  replace HB5 := Aside0.mk (blk_below HB5.out hb)
  replace HB1 := Aside0.mk (below_step HB1.out hb)
  replace HO6 := Aside0.mk (Kd.R_below HO6.out hb)
  replace HS6 : Aside0 (s6 ≤ _) := ⟨Nat.le_trans HS6.out hb.size⟩
  clear hb
  go_wp2_with fail
  refine (vv_Count.calls (l0.length + 1) A0 c0 l0 _ _ (Kd.C_below HR0.out HB1.out) HC0.out (vv_Count.tot HG.out.1)).mono ?_
  rintro e w9 ⟨rfl, hb⟩
  replace q3 := pw_cell_below hb q3
  replace q4 := pw_cell_below hb q4
  replace q5 := pw_cell_below hb q5
  replace HB3 := Aside0.mk (blk_below HB3.out hb)
  replace HB4 := Aside0.mk (blk_below HB4.out hb)
  replace HB5 := Aside0.mk (blk_below HB5.out hb)
  replace HB1 := Aside0.mk (below_step HB1.out hb)
  replace HO6 := Aside0.mk (Kd.R_below HO6.out hb)
  replace HS6 : Aside0 (s6 ≤ _) := ⟨Nat.le_trans HS6.out hb.size⟩
  clear hb
  obtain ⟨cn, ecn⟩ : ∃ cn, cn = cnt l0 l0.length := ⟨_, rfl⟩
  have ec : IntKind.i64.wrap (cn + 1) = cn + 1 := by rw [i64_w, ecn]; unfold wrap64; have := cnt_bound HG.out.1 l0.length; have := HL7.out; omega
  rw [← ecn]
  clear ecn
  go_wp2_with fail
  refine (vv_Has.calls A6 c6 l6 o n true _ (Kd.R_reads' HO6.out).2.2 HC6.out (by rw [vv_Has.tot, show hasB l6 o n = true by rw [HE6.out]; exact has_new HG.out.2.1 (by have := HRo.out; have := HEn.out; omega)])).mono ?_
  rintro e w10 ⟨rfl, hb⟩
  replace q3 := pw_cell_below hb q3
  replace q4 := pw_cell_below hb q4
  replace q5 := pw_cell_below hb q5
  replace HB3 := Aside0.mk (blk_below HB3.out hb)
  replace HB4 := Aside0.mk (blk_below HB4.out hb)
  replace HB5 := Aside0.mk (blk_below HB5.out hb)
  replace HB1 := Aside0.mk (below_step HB1.out hb)
  replace HO6 := Aside0.mk (Kd.R_below HO6.out hb)
  replace HS6 : Aside0 (s6 ≤ _) := ⟨Nat.le_trans HS6.out hb.size⟩
  clear hb
  go_wp2_with fail
  refine (vv_Has.calls A0 c0 l0 o n false _ (Kd.C_below HR0.out HB1.out) HC0.out (by rw [vv_Has.tot, show hasB l0 o n = false by exact has_not HG.out.2.1 (by have := HEn.out; omega)])).mono ?_
  rintro e w11 ⟨rfl, hb⟩
  replace q3 := pw_cell_below hb q3
  replace q4 := pw_cell_below hb q4
  replace q5 := pw_cell_below hb q5
  replace HB3 := Aside0.mk (blk_below HB3.out hb)
  replace HB4 := Aside0.mk (blk_below HB4.out hb)
  replace HB5 := Aside0.mk (blk_below HB5.out hb)
  replace HB1 := Aside0.mk (below_step HB1.out hb)
  replace HO6 := Aside0.mk (Kd.R_below HO6.out hb)
  replace HS6 : Aside0 (s6 ≤ _) := ⟨Nat.le_trans HS6.out hb.size⟩
  clear hb
  go_upto_region 10 with (fail)
  obtain ⟨b8, e8⟩ : ∃ b8, w11.heap.size = b8 := ⟨_, rfl⟩
  obtain ⟨w12, ew12⟩ : ∃ w12, w11.alloc (.cells #[.int .i64 0] 3) = w12 := ⟨_, rfl⟩
  have hb : Below w11.heap.size w11 w12 := by rw [← ew12]; exact below_alloc (Below.refl _ _) _
  have B8 : Boxed w12 b8 3 (.int .i64 0) := by rw [← ew12, ← e8]; exact blk_new _ _
  simp only [ew12, e8]
  have HB8 := Aside0.mk B8
  have HT8 : Aside0 (s6 ≤ b8) := ⟨by have := HT6.out; have := HS6.out; omega⟩
  replace q3 := pw_cell_below hb q3
  replace q4 := pw_cell_below hb q4
  replace q5 := pw_cell_below hb q5
  replace HB3 := Aside0.mk (blk_below HB3.out hb)
  replace HB4 := Aside0.mk (blk_below HB4.out hb)
  replace HB5 := Aside0.mk (blk_below HB5.out hb)
  replace HB1 := Aside0.mk (below_step HB1.out hb)
  replace HO6 := Aside0.mk (Kd.R_below HO6.out hb)
  replace HS6 : Aside0 (s6 ≤ _) := ⟨Nat.le_trans HS6.out hb.size⟩
  clear hb
  clear B8 e8 ew12
  have heq := eql_nilFunc
  go_wp2_with fail
  refine (Btw.new A0 c0 l0 A6 c6 l6 _ (Kd.C_below HR0.out HB1.out) HC0.out (Kd.R_reads' HO6.out).2.2 HC6.out (by have := HL7.out; omega) (by have := HLn.out; omega)).mono ?_
  rintro e w13 ⟨bx0, bz0, X0, Z0, xc0, zc0, rfl, _, _, _, _, _, hb⟩
  replace HB8 := Aside0.mk (blk_below HB8.out hb)
  replace q3 := pw_cell_below hb q3
  replace q4 := pw_cell_below hb q4
  replace q5 := pw_cell_below hb q5
  replace HB3 := Aside0.mk (blk_below HB3.out hb)
  replace HB4 := Aside0.mk (blk_below HB4.out hb)
  replace HB5 := Aside0.mk (blk_below HB5.out hb)
  replace HB1 := Aside0.mk (below_step HB1.out hb)
  replace HO6 := Aside0.mk (Kd.R_below HO6.out hb)
  replace HS6 : Aside0 (s6 ≤ _) := ⟨Nat.le_trans HS6.out hb.size⟩
  clear hb
  go_wp2_with fail
  refine (Btw.new A0 c0 l0 A6 c6 l6 _ (Kd.C_below HR0.out HB1.out) HC0.out (Kd.R_reads' HO6.out).2.2 HC6.out (by have := HL7.out; omega) (by have := HLn.out; omega)).mono ?_
  rintro e w14 ⟨bx, bz, X, Z, xc, zc, rfl, hbb, hbx, hbz, hrx, hrz, hb⟩
  have HBB : Aside0 (b8 < w13.heap.size) := ⟨blk_lt HB8.out⟩
  have HXZ := Aside0.mk (And.intro hbb (And.intro hbx (And.intro hbz (And.intro hrx hrz))))
  replace HB8 := Aside0.mk (blk_below HB8.out hb)
  replace q3 := pw_cell_below hb q3
  replace q4 := pw_cell_below hb q4
  replace q5 := pw_cell_below hb q5
  replace HB3 := Aside0.mk (blk_below HB3.out hb)
  replace HB4 := Aside0.mk (blk_below HB4.out hb)
  replace HB5 := Aside0.mk (blk_below HB5.out hb)
  replace HB1 := Aside0.mk (below_step HB1.out hb)
  replace HO6 := Aside0.mk (Kd.R_below HO6.out hb)
  replace HS6 : Aside0 (s6 ≤ _) := ⟨Nat.le_trans HS6.out hb.size⟩
  clear hb
  clear hbb hbx hbz hrx hrz
  clear heq
  go_wp2
  have HD : Aside0 (dots l0 l6 = [(o, n)]) := ⟨by rw [HE6.out, HEn.out]; exact up_dots HG.out.1 HG.out.2.1 HG.out.2.2.1 HG.out.2.2.2⟩
  obtain ⟨T, eT⟩ : ∃ T : Nat → Prop, T = fun k => k = b8 ∨ k = b3 + 1 ∨ w14.heap.size ≤ k := ⟨_, rfl⟩
  have HTn : Aside0 (∀ k, w13.heap.size ≤ k → k < w14.heap.size → ¬ T k) := ⟨fun k h1 h2 h3 => by
    rw [eT] at h3
    have := HBB.out
    have := HS6.out
    have := Hb35.out
    have := HT6.out
    have := HT8.out
    rcases h3 with h | h | h <;> omega⟩
  have HT1 : Aside0 (∀ k, w14.heap.size ≤ k → T k) := ⟨fun k h => by rw [eT]; exact .inr (.inr h)⟩
  have HT2 : Aside0 (T b8 ∧ T (b3 + 1)) := ⟨by rw [eT]; exact ⟨.inl rfl, .inr (.inl rfl)⟩⟩
  have HBl : Aside0 (b3 + 1 < w14.heap.size) := ⟨blk_lt HB4.out⟩
  have HBo : Aside0 (w.heap.size ≤ b8 ∧ b3 + 1 ≠ b8 ∧ w.heap.size ≤ b3 + 1) := ⟨by have := Hb35.out; have := HT6.out; have := HT8.out; omega⟩
  have HT6k : Aside0 (∀ k, s5 ≤ k → k < s6 → ¬ T k) := ⟨fun k h1 h2 h3 => by rw [eT] at h3; have := Hb35.out; have := HT6.out; have := HT8.out; have := HS6.out; rcases h3 with h | h | h <;> omega⟩
  have HT3 : Aside0 (¬ T b3 ∧ ¬ T b5) := ⟨by rw [eT]; have := Hb35.out; have := HT6.out; have := HT8.out; have := blk_lt HB5.out; refine ⟨fun h => ?_, fun h => ?_⟩ <;> rcases h with h | h | h <;> omega⟩
  clear eT
  refine rangeB (q := 9) (ty := 31) (gf := 39) (lb := #[.pointer (some ⟨bz, 0, none⟩), .pointer (some ⟨bx, 0, none⟩)]) rfl (enters_of Try.func39 (by kernel_rfl) rfl) (enc := fun d : Int × Int => .agg #[.int .i64 d.1, .int .i64 d.2]) (fun d => #[.int .i64 d.1, .int .i64 d.2]) HT1.out
    (Btw.stops 4 (by omega) T l0 l6 bx bz X Z xc zc w14 HXZ.out.2.1 HXZ.out.2.2.1 (HTn.out _ HXZ.out.1.1 HXZ.out.1.2.2.1) (HTn.out _ HXZ.out.1.2.1 HXZ.out.1.2.2.2) (Kd.R_reads' HXZ.out.2.2.2.1).2.1
      (Kd.C_kept_own (Kd.R_mono (ok' := fun k => w13.heap.size ≤ k ∧ k < w14.heap.size) (Kd.R_bound HXZ.out.2.2.2.1) (fun k q => ⟨q.2.1, q.2.2.1⟩)) (fun k q => HTn.out k q.1 q.2)) (Kd.C_kept_own (Kd.R_mono (ok' := fun k => w13.heap.size ≤ k ∧ k < w14.heap.size) (Kd.R_bound HXZ.out.2.2.2.2) (fun k q => ⟨q.2.1, q.2.2.1⟩)) (fun k q => HTn.out k q.1 q.2)) (by have := HLn.out; omega) (may_wf HM6.out))
    (fun pre W => Boxed W b8 3 (.int .i64 (pre.length : Int)) ∧ Boxed W (b3 + 1) 4 (.bool false) ∧ Kept w14 W T ∧ Below w.heap.size w W)
    (fun _ pre _ => ¬ pre <+: dots l0 l6)
    ?hI ?hIx ?h0 ?hIs ?assign ?body ?done ?stop
  case hI =>
    intro s A B row h hg hr
    exact ⟨boxed_own b8 3 (fun pre : List (Int × Int) => .int .i64 (pre.length : Int)) s A B row h.1 hg (fun r e => (hr r e).2), boxed_own (b3 + 1) 4 (fun _ : List (Int × Int) => .bool false) s A B row h.2.1 hg (fun r e => (hr r e).2), h.2.2.1.of_grown hg (fun k hk => .inl (HT1.out k (hr k hk).1)),
      h.2.2.2.grown hg h.2.2.2.size (fun k e => by have := (hr k e).1; have := HB1.out.size; omega)⟩
  case hIx => exact fun c s A B row h _ _ => h
  case h0 => exact ⟨HB8.out, HB4.out, Kept.refl _ _, HB1.out⟩
  case hIs => exact fun pre W h => h.2.2.1.1
  case assign =>
    intro l x W K hK
    gi_wp2
    exact hK
  case body =>
    rintro l pre ⟨x0, x1⟩ Bx W hBx hX ⟨i1, i2, i3, i4⟩ hlt
    obtain rfl : pre = [] := by
      rw [HD.out] at hlt
      cases pre with
      | nil => rfl
      | cons y ys => simp at hlt
    have q8 : W.cell? ⟨b8, 0, none⟩ = some (.int .i64 0) := i1.cell
    have f8 := i1.frozen
    have r4 := i2.cell
    have g4 := i2.frozen
    have r3 := Go.Proofs.YtnmjhagmobcdkaaW.PrintWords.cell_kept q3 i3 HT3.out.1
    have r5 := Go.Proofs.YtnmjhagmobcdkaaW.PrintWords.cell_kept q5 i3 HT3.out.2
    have x0c : W.cell? ⟨Bx, 0, none⟩ = some (.int .i64 x0) := (blk_cell hX 0).trans rfl
    have x1c : W.cell? ⟨Bx, 1, none⟩ = some (.int .i64 x1) := (blk_cell hX 1).trans rfl
    have HI := Aside0.mk (And.intro i1 (And.intro i2 (And.intro i3 i4)))
    clear i1 i2 i3 i4 hlt q3 q4 q5
    have hq := neq31 x0 o x1 n
    simp only [actB, List.setIfInBounds_toArray, List.set_cons_zero, List.set_cons_succ]
    by_cases hx : x0 = o ∧ x1 = n
    · have hb : (!(x0 == o && (x1 == n))) = false := by rw [hx.1, hx.2]; simp
      rw [hb] at hq
      have HX := Aside0.mk hx
      clear hx hb
      gi_wp2
      exact ⟨(KeepsOthers.setCell _ _ _).from _, (Kept.refl _ _).setCell (p := ⟨b8, 0, none⟩) (.inl HT2.out.1) _, box_set HI.out.1 _, blk_far HI.out.2.1 (p := ⟨b8, 0, none⟩) HBo.out.2.1 _, HI.out.2.2.1.setCell (p := ⟨b8, 0, none⟩) (.inl HT2.out.1) _, HI.out.2.2.2.setCell (p := ⟨b8, 0, none⟩) HBo.out.1 _⟩
    · have hb : (!(x0 == o && (x1 == n))) = true := by
        rw [Bool.not_eq_true', Bool.and_eq_false_iff, beq_eq_false_iff_ne, beq_eq_false_iff_ne]
        by_cases q : x0 = o
        · exact .inr (fun q2 => hx ⟨q, q2⟩)
        · exact .inl q
      rw [hb] at hq
      have HX := Aside0.mk hx
      clear hx hb
      gi_wp2
      exact ⟨(KeepsOthers.setCell _ _ _).from _, fun h => by
        rw [HD.out] at h
        obtain ⟨t, ht⟩ := h
        simp at ht
        exact HX.out ⟨ht.1.1, ht.1.2⟩⟩
  case done =>
    rintro D xs W hD hS ⟨i1, i2, i3, i4⟩ hK
    rw [hS, HD.out] at i1
    have q8 : W.cell? ⟨b8, 0, none⟩ = some (.int .i64 1) := i1.cell
    have r4 := i2.cell
    have g4 := i2.frozen
    have r3 := Go.Proofs.YtnmjhagmobcdkaaW.PrintWords.cell_kept q3 i3 HT3.out.1
    have r5 := Go.Proofs.YtnmjhagmobcdkaaW.PrintWords.cell_kept q5 i3 HT3.out.2
    have HRl6 : Aside0 (Kd.C (Kd.int .i64) W A6 l6.length l6) := ⟨Kd.C_kept_own HO6.out (fun k q => HT6k.out k q.1 q.2) W i3⟩
    have HB4' := Aside0.mk i2
    have HBw := Aside0.mk i4
    have HK := Aside0.mk hK
    have HDs := Aside0.mk hD
    clear i1 i2 i3 i4 q3 q4 q5 hK hD hS
    have es2 : IntKind.i64.wrap (n - 1) = n - 1 := by rw [i64_w]; unfold wrap64; have := HRo.out; have := HEn.out; have := HG.out.2.2.2; omega
    have HF2 : Aside0 (vv_With.f 2 l6 o (n - 1) = some (plainL l0, 0)) := ⟨by
      rw [vv_With.at1 (by have := HLn.out; omega) 1, withZ_ok ⟨HG.out.2.1, HG.out.2.2.1, by have := HRo.out; have := HEn.out; omega, by have := HEn.out; have := HG.out.2.2.2; omega⟩, HE6.out, HEn.out, show rd l0 o + 1 - 1 = rd l0 o by omega, ← up_back HG.out.1 HG.out.2.1 HG.out.2.2.1 HG.out.2.2.2]⟩
    go_wp2_with fail
    refine (vv_With.calls 2 A6 c6 l6 o (n - 1) (plainL l0) 0 _ HRl6.out HC6.out HF2.out).mono ?_
    rintro e w15 ⟨v9, rfl, ho, hb⟩
    obtain ⟨A9, c9, e9⟩ := Kd.R_slice ho
    subst e9
    have HR9 := Aside0.mk (Kd.R_reads' ho).2
    replace q8 := pw_cell_below hb q8
    replace r4 := pw_cell_below hb r4
    replace HB4' := Aside0.mk (blk_below HB4'.out hb)
    replace HBw := Aside0.mk (below_step HBw.out hb)
    replace HK := Aside0.mk (blk_below HK.out hb)
    clear hb ho g4
    go_wp2_with fail
    refine (vv_Plain.tc A0 c0 l0 _ (Kd.C_below HR0.out HBw.out) HC0.out (by have := HL7.out; omega)).mono ?_
    rintro e w16 ⟨A10, c10, rfl, hc10, hr10, hb⟩
    have HR10 := Aside0.mk (And.intro hc10 hr10)
    replace HR9 := Aside0.mk (And.intro HR9.out.1 (Kd.C_below HR9.out.2 hb))
    replace q8 := pw_cell_below hb q8
    replace r4 := pw_cell_below hb r4
    replace HB4' := Aside0.mk (blk_below HB4'.out hb)
    replace HBw := Aside0.mk (below_step HBw.out hb)
    replace HK := Aside0.mk (blk_below HK.out hb)
    clear hb hc10 hr10
    go_wp2_with fail
    refine (pannierlaw08_Same.tc (r := true) A9 c9 (plainL l0) A10 c10 (plainL l0) _ HR9.out.2 HR9.out.1 HR10.out.2 HR10.out.1 (len_plain (by have := HL7.out; omega)) (decide_eq_true rfl)).mono ?_
    rintro e w17 ⟨rfl, hb⟩
    replace q8 := pw_cell_below hb q8
    replace r4 := pw_cell_below hb r4
    replace HB4' := Aside0.mk (blk_below HB4'.out hb)
    replace HBw := Aside0.mk (below_step HBw.out hb)
    replace HK := Aside0.mk (blk_below HK.out hb)
    have g4 : w17.frozen? ⟨b3 + 1, 0, none⟩ = false := blk_frozen HB4'.out 0
    clear hb
    go_wp2
    have hK2 : (w17.setCell ⟨b3 + 1, 0, none⟩ (.bool true)).heap[D]? = some (.deferred (some [])) := (Below.heap_setCell w17 ⟨b3 + 1, 0, none⟩ (.bool true) D (by show D ≠ b3 + 1; have := HDs.out; have := HBl.out; omega)).trans HK.out
    refine ⟨by simp, .inl ⟨_, _, rfl, run_takeDeferred hK2, ?_⟩⟩
    have hc : ((w17.setCell ⟨b3 + 1, 0, none⟩ (.bool true)).putObj D (.deferred none)).cell? ⟨b3 + 1, 0, none⟩ = some (.bool true) := Go.cell_kept (World.cell?_setCell_same' w17 ⟨b3 + 1, 0, none⟩ (.bool true) (by rw [r4]; rfl)) (grownBy_putObj' _ D (.deferred none)) (fun r e => by cases e; exact ⟨_, hK2, rfl⟩)
    refine ⟨.bool true, by simp [results, Try.f8, go_sem, hc], rfl, (HBw.out.setCell (p := ⟨b3 + 1, 0, none⟩) HBo.out.2.2 _).trans (belowK_b (w := w) (Nat.le_refl _) _ D _ _ (by have := HDs.out; have := HBl.out; have := HBo.out; omega) hK2 rfl rfl)⟩
  case stop => exact fun D c pre W hD hS hx hK => absurd hS hx
set_option maxHeartbeats 8000000 in
set_option maxRecDepth 100000 in
theorem VvGrows.out (w : World) (A0 : Option Addr) (c0 : Nat) (l0 : List Int) (hr0 : Kd.C (Kd.int .i64) w A0 l0.length l0) (hc0 : l0.length ≤ c0) (o : Int) (hg : ¬ (mayB l0 = true ∧ 0 ≤ o ∧ o ≤ 6 ∧ rd l0 o < 2147483647)) :
    Calls Try.prog 8 #[.slice A0 l0.length c0, .int .i64 o] w fun e w' => e = .returned (.bool true) ∧ Below w.heap.size w w' := by
  have HG := Aside0.mk hg
  have HC0 := Aside0.mk hc0
  have HR0 := Aside0.mk hr0
  clear hg hc0 hr0
  refine calls_of_marks Try.func8 rfl ?_
  simp only [Try.ntmps8, List.size_toArray, List.length_cons, List.length_nil, Nat.reduceAdd, Nat.reduceSub, Array.replicate_succ, Array.replicate_zero, List.push_toArray, List.append_toArray, List.nil_append, List.cons_append]
  go_wp2_with fail
  refine (pannierlaw08_lives.calls true _ rfl).mono ?_
  rintro e w1 ⟨rfl, hb⟩
  obtain ⟨b3, e3⟩ : ∃ b3, w.heap.size = b3 := ⟨_, rfl⟩
  have B3 : Boxed w1 b3 3 (.int .i64 o) := by rw [← e3]; exact blk_below (blk_alloc (blk_new w _) _) hb
  have B4 : Boxed w1 (b3 + 1) 4 (.bool false) := by
    have := blk_below (blk_new (w.alloc (.cells #[.int .i64 o] 3)) (.cells #[.bool false] 4)) hb
    rw [World.size_alloc, e3] at this
    exact this
  have HB1 : Aside0 (Below w.heap.size w w1) := ⟨below_step (below_alloc (below_alloc (Below.refl _ _) _) _) hb⟩
  have HB3 := Aside0.mk B3
  have HB4 := Aside0.mk B4
  have q3 := B3.cell
  have q4 := B4.cell
  clear hb B3 B4
  simp only [e3]
  have HE3 := Aside0.mk e3
  clear e3
  go_wp2_with fail
  refine (vv_May.calls A0 c0 l0 (mayB l0) _ (Kd.C_below HR0.out HB1.out) HC0.out rfl).mono ?_
  rintro e w2 ⟨rfl, hb⟩
  replace q3 := pw_cell_below hb q3
  replace q4 := pw_cell_below hb q4
  replace HB4 := Aside0.mk (blk_below HB4.out hb)
  replace HB1 := Aside0.mk (below_step HB1.out hb)
  have f4 : w2.frozen? ⟨b3 + 1, 0, none⟩ = false := blk_frozen HB4.out 0
  clear hb HB3
  by_cases k1 : mayB l0 = true
  · rw [k1]
    by_cases k2 : o < 0
    · have d1 : decide (o < 0) = true := decide_eq_true k2
      clear k2
      go_wp2
      exact ret8 (by rfl) HB4.out (by have := HE3.out; omega) HB1.out true
    · have d1 : decide (o < 0) = false := decide_eq_false k2
      by_cases k3 : 6 < o
      · have d2 : decide (6 < o) = true := decide_eq_true k3
        clear k2 k3
        go_wp2
        exact ret8 (by rfl) HB4.out (by have := HE3.out; omega) HB1.out true
      · have d2 : decide (6 < o) = false := decide_eq_false k3
        have HX : Aside0 (2147483647 ≤ rd l0 o) := ⟨by
          by_cases q : 2147483647 ≤ rd l0 o
          · exact q
          · exact absurd ⟨k1, by omega, by omega, by omega⟩ HG.out⟩
        have d3 : decide (2147483647 ≤ rd l0 o) = true := decide_eq_true HX.out
        have H0 : Aside0 (0 ≤ o) := ⟨by omega⟩
        clear k2 k3
        go_wp2_with fail
        refine (vv_Of.calls A0 c0 l0 o (rd l0 o) _ (Kd.C_below HR0.out HB1.out) HC0.out (vv_Of.nat l0 o H0.out)).mono ?_
        rintro e w3 ⟨rfl, ⟨m, rfl⟩⟩
        go_wp2
        exact ret8 (W := w2.drewN m) (by rfl) (blk_drewN HB4.out m) (by have := HE3.out; omega) (pw_below_drewN HB1.out m) true
  · rw [show mayB l0 = false by simpa using k1]
    clear k1
    go_wp2
    exact ret8 (by rfl) HB4.out (by have := HE3.out; omega) HB1.out true
theorem VvGrows.walked (w : World) (A0 : Option Addr) (c0 : Nat) (l0 : List Int) (hr0 : Kd.C (Kd.int .i64) w A0 l0.length l0) (hc0 : l0.length ≤ c0) (_ : ∀ x ∈ l0, (Lit.int .i64 x).wf = true) (y0 : l0.length * 8 ≤ 140737488351232)
    (o : Int) (_ : (Lit.int .i64 o).wf = true) :
    Calls Try.prog 8 #[.slice A0 l0.length c0, .int .i64 o] w fun e w' => e = .returned (.bool true) ∧ Below w.heap.size w w' := by
  by_cases h : mayB l0 = true ∧ 0 ≤ o ∧ o ≤ 6 ∧ rd l0 o < 2147483647
  · exact VvGrows.in_ w A0 c0 l0 hr0 hc0 o h.1 h.2.1 h.2.2.1 h.2.2.2
  · exact VvGrows.out w A0 c0 l0 hr0 hc0 o h
end Go.Proofs.Ytnmjhagmobcdkaa.P
