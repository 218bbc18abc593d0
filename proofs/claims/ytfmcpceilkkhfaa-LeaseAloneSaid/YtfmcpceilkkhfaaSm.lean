/- The statement LeaseAlone: the walk (written by gen_sm.py). -/
import Derived.Test.YtfmcpceilkkhfaaSg
import Derived.Test.YtfmcpceilkkhfaaSl
import Derived.Deep.CutBlock
namespace Go.Proofs.Ytfmcpceilkkhfaa.P
open Go.RowKit Go.Proofs.YtfmcpceilkkhfaaW.PrintWords Go.Proofs.YtfmcpceilkkhfaaW.PrintLast Go.Proofs.YtfmcpceilkkhfaaW.PrintMore
attribute [local go_sem] max2_int min2_int max_two min_two max_three min_three max_four min_four
set_option linter.unusedVariables false
set_option linter.unusedSimpArgs false
theorem Clk.lower {B B' g b : Nat} {t dr : Int} {now : List Int} {W : World} (h : Clk W B' g b t now dr) (hb : B ≤ B') : Clk W B g b t now dr := by
  obtain ⟨c, h1, h2, h3, h4, h5, h6⟩ := h
  exact ⟨c, h1, Row.of_R h2 (by omega), by omega, by omega, h5, h6⟩
theorem info27 : (Try.prog.info? 27).map (fun i => (i.zero, i.size, i.bytes)) = some (some (.pointer none), 1, 8) := by kernel_rfl
theorem info4 : (Try.prog.info? 4).map (fun i => (i.zero, i.size, i.bytes)) = some (some (.bool false), 1, 1) := by kernel_rfl
theorem ST.below {w W : World} {m : Nat} {ls d tr : Int} {ga ba gc bc hb lb bm : Nat} {wv : Value} (h : ST w W m ls d tr ga ba gc bc hb lb bm wv) : Below w.heap.size w W := by
  obtain ⟨tag, gs, t, dr, now, asked, lt, bl, nd, un, ws, ha, _⟩ := h
  exact ha.below
set_option maxHeartbeats 32000000 in
set_option maxRecDepth 100000 in
theorem LeaseAlone.at_ (w : World) (A0 : Option Addr) (c0 : Nat) (l0 : List S83) (hr0 : Kd.C k83 w A0 l0.length l0) (hc0 : l0.length ≤ c0) (y0 : l0.length < 17592186044416) (hq : ∀ y ∈ l0, s83wf y) (nodes long drift : Int) :
    Calls Try.prog 11 #[.int .i64 nodes, .int .i64 long, .int .i64 drift, .slice A0 l0.length c0] w fun e w' => e = .returned (.bool true) ∧ Below w.heap.size w w' := by
  have HR := Aside0.mk (And.intro hr0 hc0)
  have HY := Aside0.mk y0
  have HQ := Aside0.mk hq
  clear hr0 hc0 y0 hq
  obtain ⟨r0, er0⟩ : ∃ r0, nodes.tmod 7 = r0 := ⟨_, rfl⟩
  have HRr : Aside0 (-7 < r0 ∧ r0 < 7) := ⟨by
    rw [← er0]
    have := Int.tmod_lt_of_pos nodes (show (0 : Int) < 7 by decide)
    have := Int.lt_tmod_of_pos nodes (show (0 : Int) < 7 by decide)
    omega⟩
  have ew : IntKind.i64.wrap r0 = r0 := by rw [i64_w]; unfold wrap64; have := HRr.out; omega
  have ew2 : IntKind.i64.wrap (-r0) = -r0 := by rw [i64_w]; unfold wrap64; have := HRr.out; omega
  obtain ⟨m, hm⟩ : ∃ m : Nat, (1 ≤ m ∧ m ≤ 7) ∧ ((0 ≤ r0 ∧ r0 + 1 = (m : Int)) ∨ (r0 < 0 ∧ -r0 + 1 = (m : Int))) := ⟨r0.natAbs + 1, by have := HRr.out; omega, by omega⟩
  have HMr := Aside0.mk hm
  have HM := Aside0.mk hm.1
  clear hm
  go_enter Try.func11, Try.ntmps11
  go_upto_if 29 with (fail)
  go_cut [9] from 28 to 31 (fun v9 wc => ∃ q : Int, v9 = .int .i64 q ∧ Aside0 (q + 1 = (m : Int)) ∧ w = wc)
  case first =>
    by_cases q : r0 < 0
    · have HQr := Aside0.mk q
      go_wp2
      go_meet
      case rel => exact ⟨-r0, rfl, ⟨by have := HQr.out; have := HMr.out.2; omega⟩, rfl⟩
    · have HQr := Aside0.mk q
      go_wp2
      go_meet
      case rel => exact ⟨r0, rfl, ⟨by have := HQr.out; have := HMr.out.2; omega⟩, rfl⟩
  case rest =>
  obtain ⟨q, rfl, HQq, rfl⟩ := hcut
  clear er0 ew ew2 HMr HRr
  have eq1 : IntKind.i64.wrap (q + 1) = (m : Int) := by rw [i64_w]; unfold wrap64; have := HQq.out; have := HM.out; omega
  cases hn : lnewB (m : Int) long drift with
  | false =>
    have HB := Aside0.mk hn
    clear hn
    go_wp2_with fail
    refine (LNew.bad (m : Int) long drift _ HB.out).mono ?_
    rintro e w1 ⟨rfl, ⟨k1, rfl⟩⟩
    go_wp2_with fail
    refine (New.at (m : Int) _ (by have := HM.out; omega) (by have := HM.out; omega)).mono ?_
    rintro e w2 ⟨gc, bc, rfl, _, hb2⟩
    have HB2 : Aside0 (Below w.heap.size w w2) := ⟨below_step (pw_below_drewN (Below.refl _ _) _) hb2⟩
    clear hb2
    go_wp2_with fail
    refine (lives21.at _).mono ?_
    rintro e w3 ⟨rfl, hb3⟩
    have HB3 := Aside0.mk (below_step HB2.out hb3)
    clear hb3
    go_wp2
    go_ret
    exact ⟨rfl, HB3.out⟩
  | true =>
    have HB := Aside0.mk hn
    have HL : Aside0 ((1 ≤ long ∧ long ≤ 1048576) ∧ (0 ≤ drift ∧ drift ≤ 999)) := ⟨by
      simp only [lnewB, Bool.and_eq_true, decide_eq_true_eq, drB_iff] at hn
      omega⟩
    obtain ⟨tr, etr⟩ : ∃ tr, trustI long drift = tr := ⟨_, rfl⟩
    have HTr : Aside0 (tr = long * (1000 - drift) / (1000 + drift)) := ⟨by rw [← etr]; unfold trustI; rw [if_pos HL.out]⟩
    clear hn
    go_wp2_with fail
    refine (LNew.at (m : Int) long drift _ HB.out).mono ?_
    rw [etr, Int.toNat_natCast]
    clear etr
    rintro e w1 ⟨ga, ba, rfl, hl, hb1⟩
    have HA1 := Aside0.mk (And.intro hl hb1)
    clear hl hb1
    go_wp2_with fail
    refine (New.at (m : Int) _ (by have := HM.out; omega) (by have := HM.out; omega)).mono ?_
    rw [Int.toNat_natCast]
    rintro e w2 ⟨gc, bc, rfl, hc, hb2⟩
    have HA2 := Aside0.mk (And.intro hc hb2)
    clear hc hb2
    go_wp2_with fail
    refine (lives21.at _).mono ?_
    rintro e z ⟨rfl, hb3⟩
    have HZ : Aside0 (Lse z w.heap.size ga ba (List.replicate m (-1)) tr ∧ Clk z w.heap.size gc bc 0 (List.replicate m 0) 0 ∧ Below w.heap.size w z ∧ (ga < gc ∧ ga < bc ∧ ba < gc ∧ ba < bc)) := ⟨(HA1.out.1.below HA2.out.2).below hb3, (HA2.out.1.below hb3).lower HA1.out.2.size, below_step (below_step HA1.out.2 HA2.out.2) hb3, by
      have h1 := HA1.out.1.lt
      have h2 := HA2.out.1.ge
      omega⟩
    clear hb3 HA1 HA2
    have hmk := run_make_row' (P := Try.prog) 79 27 (.pointer none) 8 (by kernel_rfl) info27 rfl .i64 .i64 m (by have := HM.out; omega) (by have := HM.out; omega)
    have hmk2 := run_make_row' (P := Try.prog) 80 4 (.bool false) 1 (by kernel_rfl) info4 rfl .i64 .i64 m (by have := HM.out; omega) (by have := HM.out; omega)
    obtain ⟨hb, ehb⟩ : ∃ hb, z.heap.size = hb := ⟨_, rfl⟩
    go_upto_region 12 with (fail)
    obtain ⟨y, ey⟩ : ∃ y, z.alloc (.cells (madeCells #[.pointer none] m) 27) = y := ⟨_, rfl⟩
    have HI0 : Aside0 (HI z y m 0 hb (fun _ => 0) long) := ⟨by
      rw [← ey, ← ehb]
      exact ⟨by rw [← ptrsTo_zero]; exact blk_new _ _, fun k hk => absurd hk (by omega), fun j k _ hk => absurd hk (by omega), below_alloc (Below.refl _ _) _, Nat.le_refl _⟩⟩
    simp only [ey, ehb]
    clear ey ehb
    go_wp2
    go_loopg [15] m (fun kq v15 wc => ∃ (i : Int), v15 = .int .i64 i ∧ Aside0 (∃ j : Nat, i = (j : Int) ∧ j + kq = m ∧ ∃ gs, HI z wc m j hb gs long))
    case atStart => exact ⟨0, rfl, ⟨0, rfl, by omega, _, HI0.out⟩⟩
    case round =>
      clear HI0
      obtain ⟨i, rfl, HJ⟩ := hrel
      obtain ⟨j, rfl, hjk, gs, hhi⟩ := HJ.out
      have HJk := Aside0.mk hjk
      have HH := Aside0.mk hhi
      clear hjk hhi HJ
      cases gk with
      | zero =>
        have c0b : decide ((j : Int) < (m : Int)) = false := decide_eq_false (by have := HJk.out; omega)
        have c0c : decide (j < m) = false := decide_eq_false (by have := HJk.out; omega)
        have HHm : Aside0 (HI z wr m m hb gs long) := ⟨by have h := HH.out; have e : j = m := by have := HJk.out; omega
                                                          rw [e] at h; exact h⟩
        clear HH
        have HS0 : Aside0 (∀ gs0, HI z wr m m hb gs0 long → ST w (((wr.alloc (.cells #[.int .i64 5, .int .i64 0] 34)).alloc (.cells #[.int .i64 6, .int .i64 1] 34)).alloc (.cells (madeCells #[.bool false] m) 4)) m long drift tr ga ba gc bc hb (wr.heap.size + 1 + 1) wr.heap.size (.slice none 0 0)) := ⟨fun gs0 h => ⟨_, _, _, _, _, _, _, _, _, _, _, AP.start HZ.out.1 HZ.out.2.1 HZ.out.2.2.1 HZ.out.2.2.2 h HM.out.2, GA.start (by have := HM.out; omega), ⟨by decide, fun i hi => by
          simp only [List.length_replicate] at hi
          unfold rd
          rw [Int.toNat_natCast, List.getD_eq_getElem?_getD, List.getElem?_replicate, if_pos hi]
          decide, by decide, by rw [List.length_replicate]; exact HM.out⟩, by simp⟩⟩
        go_upto_region 20 with (fail)
        obtain ⟨bm, ebm⟩ : ∃ bm, wr.heap.size = bm := ⟨_, rfl⟩
        obtain ⟨lb, elb⟩ : ∃ lb, bm + 1 + 1 = lb := ⟨_, rfl⟩
        obtain ⟨v, ev⟩ : ∃ v, ((wr.alloc (.cells #[.int .i64 5, .int .i64 0] 34)).alloc (.cells #[.int .i64 6, .int .i64 1] 34)).alloc (.cells (madeCells #[.bool false] m) 4) = v := ⟨_, rfl⟩
        have HS : Aside0 (ST w v m long drift tr ga ba gc bc hb lb bm (.slice none 0 0)) := ⟨by
          have h := HS0.out gs HHm.out
          rw [ev, ebm, elb] at h
          exact h⟩
        simp only [ev, ebm, elb]
        clear HS0 HHm HZ ev ebm elb hmk hmk2
        go_wp2
        go_loopg [19, 20] l0.length (fun kq v19 v20 wc => ∃ (x : Int) (A : Option Addr) (n c : Nat), v19 = .slice A n c ∧ v20 = .int .i64 x ∧ Aside0 (∃ j : Nat, x = (j : Int) ∧ j + kq = l0.length) ∧ Aside0 (ST w wc m long drift tr ga ba gc bc hb lb bm (.slice A n c)))
        case atStart => exact ⟨0, none, 0, 0, rfl, rfl, ⟨0, rfl, by omega⟩, HS⟩
        case round =>
          clear HS
          obtain ⟨x, A, n, c, rfl, rfl, HJx, HS⟩ := hrel
          cases gk with
          | zero =>
            have c0b : decide (x < (l0.length : Int)) = false := decide_eq_false (by obtain ⟨j, e, hj⟩ := HJx.out; omega)
            go_wp2
            go_ret
            exact ⟨rfl, HS.out.below⟩
          | succ g =>
            have c0b : decide (x < (l0.length : Int)) = true := decide_eq_true (by obtain ⟨j, e, hj⟩ := HJx.out; omega)
            by_cases hx5 : x < 5000
            · have c1b : decide (x < 5000) = true := decide_eq_true hx5
              clear hx5
              have HX1 : Aside0 (IntKind.i64.wrap (x + 1) = x + 1) := ⟨by rw [i64_w]; unfold wrap64; obtain ⟨j, e, hj⟩ := HJx.out; have := HY.out; omega⟩
              have HXx : Aside0 (0 ≤ x ∧ x < (l0.length : Int) ∧ l0.length ≤ c0) := ⟨by obtain ⟨j, e, hj⟩ := HJx.out; have := HR.out.2; omega⟩
              obtain ⟨ad, A3, c3, rfl, x0, x1, x2, x3, hc3, hon⟩ := at_T83 HR.out.1 x HXx.out.1 HXx.out.2.1
              have hWf : (rd_T83 l0 x).f3.length < 17592186044416 := by
                have := (HQ.out (rd_T83 l0 x) (rd_T83_mem HXx.out.1 HXx.out.2.1)).2.2.2.1
                omega
              obtain ⟨kd, ekd⟩ : ∃ kd, (rd_T83 l0 x).f0 = kd := ⟨_, rfl⟩
              obtain ⟨nv, env⟩ : ∃ nv, (rd_T83 l0 x).f1 = nv := ⟨_, rfl⟩
              obtain ⟨tm, etm⟩ : ∃ tm, (rd_T83 l0 x).f2 = tm := ⟨_, rfl⟩
              obtain ⟨on, eon⟩ : ∃ on, (rd_T83 l0 x).f3 = on := ⟨_, rfl⟩
              rw [ekd] at x0
              rw [env] at x1
              rw [etm] at x2
              rw [eon] at x3 hc3 hon hWf
              clear ekd env etm eon
              have HRk : Aside0 ((∀ W2, Below w.heap.size w W2 → W2.cell? ⟨(ad.add (x.toNat * 4)).block, (ad.add (x.toNat * 4)).off + 2, none⟩ = some (.int .i64 tm) ∧ W2.cell? ⟨(ad.add (x.toNat * 4)).block, (ad.add (x.toNat * 4)).off + 3, none⟩ = some (.slice A3 on.length c3)) ∧ (Kd.int .i64).C w A3 on.length on ∧ on.length < 17592186044416) := ⟨fun W2 hb2 => ⟨pw_cell_below hb2 x2, pw_cell_below hb2 x3⟩, hon, hWf⟩
              replace x0 := pw_cell_below HS.out.below x0
              replace x1 := pw_cell_below HS.out.below x1
              clear x2 x3 hc3 hon hWf
              have p0 : (0 ≤ x) = True := eq_true HXx.out.1
              have p1 : (x < (l0.length : Int)) = True := eq_true HXx.out.2.1
              have pc : (l0.length ≤ c0) = True := eq_true HXx.out.2.2
              obtain ⟨r, er⟩ : ∃ r, nv.tmod (m : Int) = r := ⟨_, rfl⟩
              have HRm : Aside0 (-(m : Int) < r ∧ r < (m : Int)) := ⟨by
                rw [← er]
                have := Int.tmod_lt_of_pos nv (show (0 : Int) < (m : Int) by have := HM.out; omega)
                have := Int.lt_tmod_of_pos nv (show (0 : Int) < (m : Int) by have := HM.out; omega)
                omega⟩
              have d3 : ((m : Int) = 0) = False := eq_false (by have := HM.out; omega)
              have d3b : (m = 0) = False := eq_false (by have := HM.out; omega)
              have ewr : IntKind.i64.wrap r = r := by rw [i64_w]; unfold wrap64; have := HRm.out; have := HM.out; omega
              have ewr2 : IntKind.i64.wrap (r + (m : Int)) = r + (m : Int) := by rw [i64_w]; unfold wrap64; have := HRm.out; have := HM.out; omega
              obtain ⟨a, ha⟩ : ∃ a : Nat, a < m ∧ ((0 ≤ r ∧ r = (a : Int)) ∨ (r < 0 ∧ r + (m : Int) = (a : Int))) := by
                have := HRm.out
                by_cases h : 0 ≤ r
                · exact ⟨r.toNat, by omega, by omega⟩
                · exact ⟨(r + (m : Int)).toNat, by omega, by omega⟩
              have HAa := Aside0.mk ha
              clear ha
              go_upto_if 110 with (fail)
              go_cut [21] from 109 to 113 (fun v21 wc => v21 = .int .i64 (a : Int) ∧ wr = wc)
              case first =>
                by_cases hr : r < 0
                · have HRr : Aside0 (r + (m : Int) = (a : Int)) := ⟨by have := HAa.out; omega⟩
                  go_wp2
                  go_meet
                  case rel => exact ⟨congrArg (Value.int .i64) HRr.out, rfl⟩
                · have HRr : Aside0 (r = (a : Int)) := ⟨by have := HAa.out; omega⟩
                  go_wp2
                  go_meet
                  case rel => exact ⟨congrArg (Value.int .i64) HRr.out, rfl⟩
              case rest =>
              obtain ⟨rfl, ewc⟩ := hcut
              subst ewc
              clear er d3 d3b ewr ewr2 x1 HRm
              have HMa : Aside0 (1 ≤ m ∧ m ≤ 7 ∧ a < m) := ⟨by have := HM.out; have := HAa.out; omega⟩
              go_upto_block 4 with (fail)
              go_cut [19, 22, 23] from 119 to 245 (fun v19 v22 v23 wc => ∃ (A2 : Option Addr) (n2 c2 : Nat), v19 = .slice A2 n2 c2 ∧ Aside0 (ST w wc m long drift tr ga ba gc bc hb lb bm (.slice A2 n2 c2)))
              case first =>
                obtain ⟨tag, gs2, t, dr, now, asked, lt, bl, nd, un, ws, ha, hg, hk, hw⟩ := HS.out
                obtain ⟨A1', c1', ewv, hcap, _⟩ := Kd.R_reads ha.way
                have HA := Aside0.mk ha
                have HG := Aside0.mk hg
                have HK := Aside0.mk hk
                have HN : Aside0 (n = ws.length ∧ n ≤ c ∧ n ≤ 5000) := ⟨by
                  injection ewv with e1 e2 e3
                  omega⟩
                clear ha hg hk hw hcap ewv HS
                have y2 := (HRk.out.1 _ HA.out.below).1
                have y3 := (HRk.out.1 _ HA.out.below).2
                have HPan : ∀ c (a a2 : Act) (w2 : World), (a.defers = [] ∧ (Ending.panicked c = Ending.returned (.bool true) ∧ Below w.heap.size w w2)) → a2.defers = [] ∧ (Ending.panicked c = Ending.returned (.bool true) ∧ Below w.heap.size w w2) := fun c a a2 w2 h => nomatch h.2.1
                by_cases h1 : kd = 1
                · refine kind1 w (l0 := l0) (c0 := c0) wr HA HG HK HN HMa HL HTr HXx y2 y3 HRk h1 _ _ _ _ _ _ _ _ _ _ _ _ _ _ _ _ _ _ _ _ _ _ _ _ _ _ _ _ _ _ _ _ _ _ _ _ _ _ _ _ _ _ _ _ _ _ _ _ _ _ _ _ _ _ _ _ _ _ _ _ _ _ _ _ _ _ _ _ _ _ _ _ _ _ _ _ _ _ _ _ _ _ _ _ _ _ _ _ _ _ _ _ _ _ _ _ _ _ _ _ _ _ _ _ _ _ _ _ _ _ _ _ _ _ _ _ _ _ _ _ _ _ _ _ _ _ _ _ _ _ _ _ _ _ _ _ _ _ _ _ _ _ _ _ _ _ _ _ _ _ _ _ _ _ _ _ _ _ _ _ _ _ _ _ _ _ _ _ _ _ _ _ _ _ _ _ _ _ _ _ _ _ _ _ _ _ _ _ _ _ _ _ _ _ _ _ _ _ _ _ _ _ _ _ _ _ _ _ _ _ _ _ _ _ _ _ _ _ _ _ _ _ _ _ _ _ _ _ _ _ _ _ _ _ _ _ _ _ _ _ _ _ _ _ _ _ _ _ _ _ _ _ _ ⟨HPan⟩ ?_ _ rfl
                  intro A2 n2 c2 v19 u22 u23 u119 u120 u121 u122 u123 u124 u125 u126 u127 u128 u129 u130 u131 u132 u133 u134 u135 u136 u137 u138 u139 u140 u141 u142 u143 u144 u145 u146 u147 u148 u149 u150 u151 u152 u153 u154 u155 u156 u157 u158 u159 u160 u161 u162 u163 u164 u165 u166 u167 u168 u169 u170 u171 u172 u173 u174 u175 u176 u177 u178 u179 u180 u181 u182 u183 u184 u185 u186 u187 u188 u189 u190 u191 u192 u193 u194 u195 u196 u197 u198 u199 u200 u201 u202 u203 u204 u205 u206 u207 u208 u209 u210 u211 u212 u213 u214 u215 u216 u217 u218 u219 u220 u221 u222 u223 u224 u225 u226 u227 u228 u229 u230 u231 u232 u233 u234 u235 u236 u237 u238 u239 u240 u241 u242 u243 u244 u245 W2 hv hst
                  subst hv
                  clear h1
                  go_wp2
                  go_meet
                  case rel => exact ⟨A2, n2, c2, rfl, ⟨hst⟩⟩
                by_cases h2 : kd = 2
                · refine kind2 w (l0 := l0) (c0 := c0) wr HA HG HK HN HMa HL HTr HXx y2 y3 HRk h2 _ _ _ _ _ _ _ _ _ _ _ _ _ _ _ _ _ _ _ _ _ _ _ _ _ _ _ _ _ _ _ _ _ _ _ _ _ _ _ _ _ _ _ _ _ _ _ _ _ _ _ _ _ _ _ _ _ _ _ _ _ _ _ _ _ _ _ _ _ _ _ _ _ _ _ _ _ _ _ _ _ _ _ _ _ _ _ _ _ _ _ _ _ _ _ _ _ _ _ _ _ _ _ _ _ _ _ _ _ _ _ _ _ _ _ _ _ _ _ _ _ _ _ _ _ _ _ _ _ _ _ _ _ _ _ _ _ _ _ _ _ _ _ _ _ _ _ _ _ _ _ _ _ _ _ _ _ _ _ _ _ _ _ _ _ _ _ _ _ _ _ _ _ _ _ _ _ _ _ _ _ _ _ _ _ _ _ _ _ _ _ _ _ _ _ _ _ _ _ _ _ _ _ _ _ _ _ _ _ _ _ _ _ _ _ _ _ _ _ _ _ _ _ _ _ _ _ _ _ _ _ _ _ _ _ _ _ _ _ _ _ _ _ _ _ _ _ _ _ _ _ _ _ ⟨HPan⟩ ?_ _ rfl
                  intro A2 n2 c2 v19 u22 u23 u119 u120 u121 u122 u123 u124 u125 u126 u127 u128 u129 u130 u131 u132 u133 u134 u135 u136 u137 u138 u139 u140 u141 u142 u143 u144 u145 u146 u147 u148 u149 u150 u151 u152 u153 u154 u155 u156 u157 u158 u159 u160 u161 u162 u163 u164 u165 u166 u167 u168 u169 u170 u171 u172 u173 u174 u175 u176 u177 u178 u179 u180 u181 u182 u183 u184 u185 u186 u187 u188 u189 u190 u191 u192 u193 u194 u195 u196 u197 u198 u199 u200 u201 u202 u203 u204 u205 u206 u207 u208 u209 u210 u211 u212 u213 u214 u215 u216 u217 u218 u219 u220 u221 u222 u223 u224 u225 u226 u227 u228 u229 u230 u231 u232 u233 u234 u235 u236 u237 u238 u239 u240 u241 u242 u243 u244 u245 W2 hv hst
                  subst hv
                  clear h2
                  go_wp2
                  go_meet
                  case rel => exact ⟨A2, n2, c2, rfl, ⟨hst⟩⟩
                by_cases h3 : kd = 3
                · refine kind3 w (l0 := l0) (c0 := c0) wr HA HG HK HN HMa HL HTr HXx y2 y3 HRk h3 _ _ _ _ _ _ _ _ _ _ _ _ _ _ _ _ _ _ _ _ _ _ _ _ _ _ _ _ _ _ _ _ _ _ _ _ _ _ _ _ _ _ _ _ _ _ _ _ _ _ _ _ _ _ _ _ _ _ _ _ _ _ _ _ _ _ _ _ _ _ _ _ _ _ _ _ _ _ _ _ _ _ _ _ _ _ _ _ _ _ _ _ _ _ _ _ _ _ _ _ _ _ _ _ _ _ _ _ _ _ _ _ _ _ _ _ _ _ _ _ _ _ _ _ _ _ _ _ _ _ _ _ _ _ _ _ _ _ _ _ _ _ _ _ _ _ _ _ _ _ _ _ _ _ _ _ _ _ _ _ _ _ _ _ _ _ _ _ _ _ _ _ _ _ _ _ _ _ _ _ _ _ _ _ _ _ _ _ _ _ _ _ _ _ _ _ _ _ _ _ _ _ _ _ _ _ _ _ _ _ _ _ _ _ _ _ _ _ _ _ _ _ _ _ _ _ _ _ _ _ _ _ _ _ _ _ _ _ _ _ _ _ _ _ _ _ _ _ _ _ _ _ _ ⟨HPan⟩ ?_ _ rfl
                  intro A2 n2 c2 v19 u22 u23 u119 u120 u121 u122 u123 u124 u125 u126 u127 u128 u129 u130 u131 u132 u133 u134 u135 u136 u137 u138 u139 u140 u141 u142 u143 u144 u145 u146 u147 u148 u149 u150 u151 u152 u153 u154 u155 u156 u157 u158 u159 u160 u161 u162 u163 u164 u165 u166 u167 u168 u169 u170 u171 u172 u173 u174 u175 u176 u177 u178 u179 u180 u181 u182 u183 u184 u185 u186 u187 u188 u189 u190 u191 u192 u193 u194 u195 u196 u197 u198 u199 u200 u201 u202 u203 u204 u205 u206 u207 u208 u209 u210 u211 u212 u213 u214 u215 u216 u217 u218 u219 u220 u221 u222 u223 u224 u225 u226 u227 u228 u229 u230 u231 u232 u233 u234 u235 u236 u237 u238 u239 u240 u241 u242 u243 u244 u245 W2 hv hst
                  subst hv
                  clear h3
                  go_wp2
                  go_meet
                  case rel => exact ⟨A2, n2, c2, rfl, ⟨hst⟩⟩
                by_cases h4 : kd = 4
                · refine kind4 w (l0 := l0) (c0 := c0) wr HA HG HK HN HMa HL HTr HXx y2 y3 HRk h4 _ _ _ _ _ _ _ _ _ _ _ _ _ _ _ _ _ _ _ _ _ _ _ _ _ _ _ _ _ _ _ _ _ _ _ _ _ _ _ _ _ _ _ _ _ _ _ _ _ _ _ _ _ _ _ _ _ _ _ _ _ _ _ _ _ _ _ _ _ _ _ _ _ _ _ _ _ _ _ _ _ _ _ _ _ _ _ _ _ _ _ _ _ _ _ _ _ _ _ _ _ _ _ _ _ _ _ _ _ _ _ _ _ _ _ _ _ _ _ _ _ _ _ _ _ _ _ _ _ _ _ _ _ _ _ _ _ _ _ _ _ _ _ _ _ _ _ _ _ _ _ _ _ _ _ _ _ _ _ _ _ _ _ _ _ _ _ _ _ _ _ _ _ _ _ _ _ _ _ _ _ _ _ _ _ _ _ _ _ _ _ _ _ _ _ _ _ _ _ _ _ _ _ _ _ _ _ _ _ _ _ _ _ _ _ _ _ _ _ _ _ _ _ _ _ _ _ _ _ _ _ _ _ _ _ _ _ _ _ _ _ _ _ _ _ _ _ _ _ _ _ _ _ ⟨HPan⟩ ?_ _ rfl
                  intro A2 n2 c2 v19 u22 u23 u119 u120 u121 u122 u123 u124 u125 u126 u127 u128 u129 u130 u131 u132 u133 u134 u135 u136 u137 u138 u139 u140 u141 u142 u143 u144 u145 u146 u147 u148 u149 u150 u151 u152 u153 u154 u155 u156 u157 u158 u159 u160 u161 u162 u163 u164 u165 u166 u167 u168 u169 u170 u171 u172 u173 u174 u175 u176 u177 u178 u179 u180 u181 u182 u183 u184 u185 u186 u187 u188 u189 u190 u191 u192 u193 u194 u195 u196 u197 u198 u199 u200 u201 u202 u203 u204 u205 u206 u207 u208 u209 u210 u211 u212 u213 u214 u215 u216 u217 u218 u219 u220 u221 u222 u223 u224 u225 u226 u227 u228 u229 u230 u231 u232 u233 u234 u235 u236 u237 u238 u239 u240 u241 u242 u243 u244 u245 W2 hv hst
                  subst hv
                  clear h4
                  go_wp2
                  go_meet
                  case rel => exact ⟨A2, n2, c2, rfl, ⟨hst⟩⟩
                by_cases h5 : kd = 5
                · refine kind5 w (l0 := l0) (c0 := c0) wr HA HG HK HN HMa HL HTr HXx y2 y3 HRk h5 _ _ _ _ _ _ _ _ _ _ _ _ _ _ _ _ _ _ _ _ _ _ _ _ _ _ _ _ _ _ _ _ _ _ _ _ _ _ _ _ _ _ _ _ _ _ _ _ _ _ _ _ _ _ _ _ _ _ _ _ _ _ _ _ _ _ _ _ _ _ _ _ _ _ _ _ _ _ _ _ _ _ _ _ _ _ _ _ _ _ _ _ _ _ _ _ _ _ _ _ _ _ _ _ _ _ _ _ _ _ _ _ _ _ _ _ _ _ _ _ _ _ _ _ _ _ _ _ _ _ _ _ _ _ _ _ _ _ _ _ _ _ _ _ _ _ _ _ _ _ _ _ _ _ _ _ _ _ _ _ _ _ _ _ _ _ _ _ _ _ _ _ _ _ _ _ _ _ _ _ _ _ _ _ _ _ _ _ _ _ _ _ _ _ _ _ _ _ _ _ _ _ _ _ _ _ _ _ _ _ _ _ _ _ _ _ _ _ _ _ _ _ _ _ _ _ _ _ _ _ _ _ _ _ _ _ _ _ _ _ _ _ _ _ _ _ _ _ _ _ _ _ _ ⟨HPan⟩ ?_ _ rfl
                  intro A2 n2 c2 v19 u22 u23 u119 u120 u121 u122 u123 u124 u125 u126 u127 u128 u129 u130 u131 u132 u133 u134 u135 u136 u137 u138 u139 u140 u141 u142 u143 u144 u145 u146 u147 u148 u149 u150 u151 u152 u153 u154 u155 u156 u157 u158 u159 u160 u161 u162 u163 u164 u165 u166 u167 u168 u169 u170 u171 u172 u173 u174 u175 u176 u177 u178 u179 u180 u181 u182 u183 u184 u185 u186 u187 u188 u189 u190 u191 u192 u193 u194 u195 u196 u197 u198 u199 u200 u201 u202 u203 u204 u205 u206 u207 u208 u209 u210 u211 u212 u213 u214 u215 u216 u217 u218 u219 u220 u221 u222 u223 u224 u225 u226 u227 u228 u229 u230 u231 u232 u233 u234 u235 u236 u237 u238 u239 u240 u241 u242 u243 u244 u245 W2 hv hst
                  subst hv
                  clear h5
                  go_wp2
                  go_meet
                  case rel => exact ⟨A2, n2, c2, rfl, ⟨hst⟩⟩
                refine kind0 w (l0 := l0) (c0 := c0) wr HA HG HK HN HMa HL HTr HXx y2 y3 HRk ⟨h1, h2, h3, h4, h5⟩ _ _ _ _ _ _ _ _ _ _ _ _ _ _ _ _ _ _ _ _ _ _ _ _ _ _ _ _ _ _ _ _ _ _ _ _ _ _ _ _ _ _ _ _ _ _ _ _ _ _ _ _ _ _ _ _ _ _ _ _ _ _ _ _ _ _ _ _ _ _ _ _ _ _ _ _ _ _ _ _ _ _ _ _ _ _ _ _ _ _ _ _ _ _ _ _ _ _ _ _ _ _ _ _ _ _ _ _ _ _ _ _ _ _ _ _ _ _ _ _ _ _ _ _ _ _ _ _ _ _ _ _ _ _ _ _ _ _ _ _ _ _ _ _ _ _ _ _ _ _ _ _ _ _ _ _ _ _ _ _ _ _ _ _ _ _ _ _ _ _ _ _ _ _ _ _ _ _ _ _ _ _ _ _ _ _ _ _ _ _ _ _ _ _ _ _ _ _ _ _ _ _ _ _ _ _ _ _ _ _ _ _ _ _ _ _ _ _ _ _ _ _ _ _ _ _ _ _ _ _ _ _ _ _ _ _ _ _ _ _ _ _ _ _ _ _ _ _ _ _ _ _ _ ⟨HPan⟩ ?_ _ rfl
                intro A2 n2 c2 v19 u22 u23 u119 u120 u121 u122 u123 u124 u125 u126 u127 u128 u129 u130 u131 u132 u133 u134 u135 u136 u137 u138 u139 u140 u141 u142 u143 u144 u145 u146 u147 u148 u149 u150 u151 u152 u153 u154 u155 u156 u157 u158 u159 u160 u161 u162 u163 u164 u165 u166 u167 u168 u169 u170 u171 u172 u173 u174 u175 u176 u177 u178 u179 u180 u181 u182 u183 u184 u185 u186 u187 u188 u189 u190 u191 u192 u193 u194 u195 u196 u197 u198 u199 u200 u201 u202 u203 u204 u205 u206 u207 u208 u209 u210 u211 u212 u213 u214 u215 u216 u217 u218 u219 u220 u221 u222 u223 u224 u225 u226 u227 u228 u229 u230 u231 u232 u233 u234 u235 u236 u237 u238 u239 u240 u241 u242 u243 u244 u245 W2 hv hst
                subst hv
                go_wp2
                go_meet
                case rel => exact ⟨A2, n2, c2, rfl, ⟨hst⟩⟩
              case rest =>
              clear HS
              obtain ⟨A2, n2, c2, rfl, HS⟩ := hcut
              obtain ⟨tag, gs2, t, dr, now, asked, lt, bl, nd, un, ws, ha, hg, hk, hw⟩ := HS.out
              have HA := Aside0.mk ha
              have HG := Aside0.mk hg
              have HK := Aside0.mk hk
              have HW := Aside0.mk hw
              clear ha hg hk hw HS HRk
              go_wp2
              go_loopg [24, 25] m (fun kq v24 v25 wd => ∃ (cn k : Int), v24 = .int .i64 cn ∧ v25 = .int .i64 k ∧ Aside0 (∃ j : Nat, k = (j : Int) ∧ j + kq = m ∧ cn = (((List.range j).countP lt : Nat) : Int)) ∧ wc = wd)
              case atStart => exact ⟨0, 0, rfl, rfl, ⟨0, rfl, by omega, by simp⟩, rfl⟩
              case round =>
                obtain ⟨cn, k, rfl, rfl, HJk, ewd⟩ := hrel
                subst ewd
                obtain ⟨j, rfl, hjk, hcn⟩ := HJk.out
                have HJk2 : Aside0 (j ≤ m ∧ 0 ≤ cn ∧ cn ≤ j) := ⟨by
                  have : (List.range j).countP lt ≤ (List.range j).length := List.countP_le_length
                  rw [List.length_range] at this
                  omega⟩
                cases gk with
                | zero =>
                  have d0 : decide ((j : Int) < (m : Int)) = false := decide_eq_false (by omega)
                  have d1 : decide (j < m) = false := decide_eq_false (by omega)
                  have HCn : Aside0 (cn = (((List.range m).countP lt : Nat) : Int)) := ⟨by
                    have e : j = m := by omega
                    rw [← e]; exact hcn⟩
                  clear hjk hcn HJk
                  obtain ⟨na, ena⟩ : ∃ na, rd now 0 = na := ⟨_, rfl⟩
                  have HLn : Aside0 (0 < now.length ∧ now.length ≤ 7 ∧ asked.length = m) := ⟨by have := HG.out.len; have := HM.out; omega⟩
                  have HNa : Aside0 (rd now 0 = na ∧ nowAt now 0 = na ∧ (0 ≤ na ∧ na ≤ MaxC)) := ⟨ena, by
                    unfold nowAt
                    have := HLn.out
                    rw [if_pos (by omega), ena], by
                    have := HK.out.2.1 0 HLn.out.1
                    rw [show ((0 : Nat) : Int) = 0 from rfl, ena] at this
                    exact this⟩
                  obtain ⟨cb, ecb⟩ : ∃ cb, countsB asked tr na = cb := ⟨_, rfl⟩
                  obtain ⟨hf, ehf⟩ : ∃ hf, (m : Int).tdiv 2 = hf := ⟨_, rfl⟩
                  have HCb : Aside0 (countsB asked tr na = cb ∧ hf = (m : Int) / 2) := ⟨ecb, by rw [← ehf, Int.tdiv_eq_ediv_of_nonneg (by omega)]⟩
                  have HSt : Aside0 (∀ W2, Below wc.heap.size wc W2 → ST w W2 m long drift tr ga ba gc bc hb lb bm (.slice A2 n2 c2)) := ⟨fun W2 hb2 => ⟨tag, gs2, t, dr, now, asked, lt, bl, nd, un, ws, HA.out.step hb2, HG.out, HK.out, HW.out⟩⟩
                  have ewf : IntKind.i64.wrap hf = hf := by rw [i64_w]; unfold wrap64; have := HCb.out.2; have := HM.out; omega
                  have HNw : Aside0 (na ≤ 9223372036854775807) := ⟨by
                    have := HNa.out.2.2.2
                    have e : MaxC ≤ 9223372036854775807 := by decide
                    omega⟩
                  clear ena ecb
                  go_wp2_with fail
                  refine (Now.at 0 _ HA.out.clk HLn.out.1 HLn.out.2.1).mono ?_
                  rintro e z1 ⟨rfl, hd⟩
                  rw [HNa.out.2.1]
                  have HZ1 := Aside0.mk (Drawn0.below hd)
                  clear hd
                  go_wp2_with fail
                  refine (Counts.at na _ (HA.out.step HZ1.out).lse HG.out.askOk (by have := HLn.out; have := HM.out; omega) (by have := HLn.out; have := HM.out; omega) HNw.out).mono ?_
                  rintro e z2 ⟨rfl, hd⟩
                  rw [HCb.out.1]
                  have HZ2 : Aside0 (Below wc.heap.size wc z2) := ⟨below_step HZ1.out (Drawn0.below hd)⟩
                  have hx1 := HX1.out
                  clear hd
                  cases cb with
                  | false =>
                    go_wp2
                    go_roundg g
                    case measure => omega
                    case rel => exact ⟨x + 1, A2, n2, c2, rfl, rfl, ⟨by obtain ⟨j, e, hj⟩ := HJx.out; exact ⟨j + 1, by omega, by omega⟩⟩, ⟨HSt.out _ HZ2.out⟩⟩
                  | true =>
                    have dd : decide (hf < cn) = false := decide_eq_false (by
                      have h := HG.out.safe (by rw [HNa.out.1]; exact HCb.out.1)
                      rw [← HCn.out, ← HCb.out.2] at h
                      exact h)
                    go_wp2
                    go_roundg g
                    case measure => omega
                    case rel => exact ⟨x + 1, A2, n2, c2, rfl, rfl, ⟨by obtain ⟨j, e, hj⟩ := HJx.out; exact ⟨j + 1, by omega, by omega⟩⟩, ⟨HSt.out _ HZ2.out⟩⟩
                | succ q =>
                  have HJm : Aside0 (j < m ∧ j + 1 + q = m ∧ cn = (((List.range j).countP lt : Nat) : Int)) := ⟨by omega, by omega, hcn⟩
                  have d0 : decide ((j : Int) < (m : Int)) = true := decide_eq_true (by omega)
                  have d1 : decide (j < m) = true := decide_eq_true (by omega)
                  have pa1 : ((j : Int) < (m : Int)) = True := eq_true (by omega)
                  have pa0 : (0 ≤ (j : Int)) = True := eq_true (by omega)
                  have pa2 : (j < m) = True := eq_true (by omega)
                  have ean : ((j : Int)).toNat = j := Int.toNat_natCast j
                  have hx2 : IntKind.i64.wrap ((j : Int) + 1) = (j : Int) + 1 := by rw [i64_w]; unfold wrap64; have := HM.out; omega
                  have hx3 : IntKind.i64.wrap (cn + 1) = cn + 1 := by rw [i64_w]; unfold wrap64; have := HM.out; have := HJk2.out; omega
                  clear hjk hcn HJk
                  obtain ⟨lj, elj⟩ : ∃ lj, lt j = lj := ⟨_, rfl⟩
                  have HLj := Aside0.mk elj
                  have o1 : wc.cell? ⟨lb, j, none⟩ = some (.bool lj) := by rw [HA.out.letAt HJm.out.1, elj]
                  clear elj
                  cases lj with
                  | false =>
                    go_wp2
                    go_roundg q
                    case measure => omega
                    case rel => exact ⟨cn, (j : Int) + 1, rfl, rfl, ⟨j + 1, by omega, by have := HJm.out; omega, by
                      rw [List.range_succ, List.countP_append, List.countP_singleton, HLj.out]
                      have := HJm.out.2.2
                      simpa using this⟩, rfl⟩
                  | true =>
                    go_wp2
                    go_roundg q
                    case measure => omega
                    case rel => exact ⟨cn + 1, (j : Int) + 1, rfl, rfl, ⟨j + 1, by omega, by have := HJm.out; omega, by
                      rw [List.range_succ, List.countP_append, List.countP_singleton, HLj.out]
                      have := HJm.out.2.2
                      simp
                      omega⟩, rfl⟩
            · have c1b : decide (x < 5000) = false := decide_eq_false hx5
              clear hx5
              go_wp2
              go_ret
              exact ⟨rfl, HS.out.below⟩
      | succ g =>
        have c0b : decide ((j : Int) < (m : Int)) = true := decide_eq_true (by have := HJk.out; omega)
        have c0c : decide (j < m) = true := decide_eq_true (by have := HJk.out; omega)
        have pa1 : ((j : Int) < (m : Int)) = True := eq_true (by have := HJk.out; omega)
        have pa0 : (0 ≤ (j : Int)) = True := eq_true (by omega)
        have pa2 : (j < m) = True := eq_true (by have := HJk.out; omega)
        have ean : ((j : Int)).toNat = j := Int.toNat_natCast j
        have HX1 : Aside0 (IntKind.i64.wrap ((j : Int) + 1) = (j : Int) + 1) := ⟨by rw [i64_w]; unfold wrap64; have := HJk.out; have := HM.out; omega⟩
        go_wp2_with fail
        refine (NewHold.at long _ HL.out.1.1 HL.out.1.2).mono ?_
        rintro e w4 ⟨g4, rfl, hg, hb2⟩
        have H4 := Aside0.mk (And.intro hg hb2)
        clear hg hb2
        have o2 : w4.frozen? ⟨hb, j, none⟩ = false := blk_frozen (HH.out.step H4.out.2).row j
        have o1 : w4.cell? ⟨hb, j, none⟩ = some (.pointer none) := (blk_cell (HH.out.step H4.out.2).row j).trans (by
          unfold ptrsTo
          rw [List.getElem?_toArray, List.getElem?_map, List.getElem?_range (by have := HJk.out; omega)]
          show some (if j < j then Value.pointer (some ⟨gs j, 0, none⟩) else .pointer none) = _
          rw [if_neg (by omega)])
        go_upto_region 16 with (fail)
        obtain ⟨y4, ey4⟩ : ∃ y4, w4.setCell ⟨hb, j, none⟩ (.pointer (some ⟨g4, 0, none⟩)) = y4 := ⟨_, rfl⟩
        have HP : Aside0 (HI z y4 m (j + 1) hb (upd gs j g4) long) := ⟨by rw [← ey4]; exact HH.out.put (by have := HJk.out; omega) H4.out.1 H4.out.2⟩
        simp only [ey4]
        clear ey4 o1 o2 H4
        have o1 : y4.cell? ⟨hb, j, none⟩ = some (.pointer (some ⟨g4, 0, none⟩)) := (blk_cell HP.out.row j).trans (by
          unfold ptrsTo
          rw [List.getElem?_toArray, List.getElem?_map, List.getElem?_range (by have := HJk.out; omega)]
          show some (if j < j + 1 then Value.pointer (some ⟨upd gs j g4 j, 0, none⟩) else .pointer none) = _
          rw [if_pos (by omega), upd_eq])
        have hx1 := HX1.out
        go_wp2
        go_roundg g
        case measure => omega
        case rel => exact ⟨(j : Int) + 1, rfl, ⟨j + 1, by omega, by have := HJk.out; omega, _, HP.out⟩⟩
theorem LeaseAlone.walked (w : World) (n : Int) (_ : (Lit.int .i64 n).wf = true) (ls : Int) (_ : (Lit.int .i64 ls).wf = true) (dr : Int) (_ : (Lit.int .i64 dr).wf = true) (A0 : Option Addr) (c0 : Nat) (l0 : List S83) (hr0 : Kd.C k83 w A0 l0.length l0) (hc0 : l0.length ≤ c0) (y0 : l0.length * Try.prog.bytesOf 83 ≤ reachBytes) (hq : ∀ y ∈ l0, s83wf y) :
    Calls Try.prog 11 #[.int .i64 n, .int .i64 ls, .int .i64 dr, .slice A0 l0.length c0] w fun e w' => e = .returned (.bool true) ∧ Below w.heap.size w w' := by
  refine LeaseAlone.at_ w A0 c0 l0 hr0 hc0 ?_ hq n ls dr
  have e : Try.prog.bytesOf 83 = 48 := by kernel_rfl
  rw [e] at y0
  have := reachBytes_lt
  omega
end Go.Proofs.Ytfmcpceilkkhfaa.P
