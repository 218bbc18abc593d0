/- Clocks.Tick: its contract. -/
import Derived.Test.YtfmcpceilkkhfaaCk
namespace Go.Proofs.Ytfmcpceilkkhfaa.P
open Go.RowKit Go.Proofs.YtfmcpceilkkhfaaW.PrintWords Go.Proofs.YtfmcpceilkkhfaaW.PrintLast Go.Proofs.YtfmcpceilkkhfaaW.PrintMore
attribute [local go_sem] max2_int min2_int max_two min_two max_three min_three max_four min_four
set_option linter.unusedVariables false
set_option linter.unusedSimpArgs false
abbrev MaxC : Int := 1152921504606846976
def addL (now on : List Int) : List Int := List.zipWith (· + ·) now on
/-- What a tick may be: its time, as many clocks, each of them. -/
def ArgOk (now : List Int) (time : Int) (on : List Int) : Prop := tkB time = true ∧ on.length = now.length ∧ on.all tkB = true
def RoomOk (t : Int) (now : List Int) (time : Int) (on : List Int) : Prop := t + time ≤ MaxC ∧ ∀ i : Nat, i < now.length → rd now i + rd on i ≤ MaxC
/-- Clocks as they may be. -/
def ClkOk (t : Int) (now : List Int) (dr : Int) : Prop := (0 ≤ t ∧ t ≤ MaxC) ∧ (∀ i : Nat, i < now.length → 0 ≤ rd now i ∧ rd now i ≤ MaxC) ∧ (0 ≤ dr ∧ dr ≤ 1000) ∧ (1 ≤ now.length ∧ now.length ≤ 7)
theorem Clk.cellAt {W : World} {B g b : Nat} {t dr : Int} {now : List Int} (h : Clk W B g b t now dr) (i : Int) (h0 : 0 ≤ i) (h1 : i < now.length) : W.cell? ⟨b, i.toNat, none⟩ = some (.int .i64 (rd now i)) ∧ W.frozen? ⟨b, i.toNat, none⟩ = false := by
  obtain ⟨c, _, h2, _⟩ := h
  exact Kd.R_cell 0 h2 i h0 h1
theorem Clk.frozen {W : World} {B g b : Nat} {t dr : Int} {now : List Int} (h : Clk W B g b t now dr) (i : Nat) : W.frozen? ⟨g, i, none⟩ = false := by
  obtain ⟨c, h1, _⟩ := h
  exact blk_frozen h1 i
theorem Clk.setTime {W : World} {B g b : Nat} {t dr : Int} {now : List Int} (h : Clk W B g b t now dr) (x : Int) : Clk (W.setCell ⟨g, 0, none⟩ (.int .i64 x)) B g b x now dr := by
  obtain ⟨c, h1, h2, h3, h4, h5, h6⟩ := h
  exact ⟨c, by simpa using blk_set h1 0 (.int .i64 x), h2.far (fun e => h6 e.symm) _, h3, h4, by simpa [World.setCell] using h5, h6⟩
theorem Clk.setDrift {W : World} {B g b : Nat} {t dr : Int} {now : List Int} (h : Clk W B g b t now dr) (x : Int) : Clk (W.setCell ⟨g, 2, none⟩ (.int .i64 x)) B g b t now x := by
  obtain ⟨c, h1, h2, h3, h4, h5, h6⟩ := h
  exact ⟨c, by simpa using blk_set h1 2 (.int .i64 x), h2.far (fun e => h6 e.symm) _, h3, h4, by simpa [World.setCell] using h5, h6⟩
theorem Clk.put {W : World} {B g b : Nat} {t dr : Int} {now : List Int} (h : Clk W B g b t now dr) (i x : Int) : Clk (W.setCell ⟨b, i.toNat, none⟩ (.int .i64 x)) B g b t (now.set i.toNat x) dr := by
  obtain ⟨c, h1, h2, h3, h4, h5, h6⟩ := h
  exact ⟨c, by rw [List.length_set]; exact blk_far h1 h6 _, h2.put i x, h3, h4, by simpa [World.setCell] using h5, h6⟩
/-- What Tick answers and leaves. -/
def TickPost (B g b : Nat) (t : Int) (now : List Int) (dr time : Int) (on : List Int) (w : World) (e : Ending) (w' : World) : Prop :=
  (ArgOk now time on ∧ RoomOk t now time on ∧ e = .returned (.int .i64 0) ∧ ∃ r, IsLeast time on r ∧ Clk w' B g b (t + time) (addL now on) (if dr < r then r else dr) ∧ Fr (fun k => k = g ∨ k = b) w w') ∨
  (ArgOk now time on ∧ ¬ RoomOk t now time on ∧ e = .returned (.int .i64 2) ∧ Below w.heap.size w w') ∨
  (¬ ArgOk now time on ∧ e = .returned (.int .i64 1) ∧ Below w.heap.size w w')
set_option maxHeartbeats 4000000 in
set_option maxRecDepth 100000 in
theorem Tick.arg {B g b : Nat} {t dr : Int} {now : List Int} (time : Int) (A0 : Option Addr) (c0 : Nat) (on : List Int) (w : World) (h : Clk w B g b t now dr) (hk : ClkOk t now dr) (hon : ∀ W', Kept w W' (fun k => k = g ∨ k = b) → Kd.C (Kd.int .i64) W' A0 on.length on) (hl : on.length < 17592186044416) (ha : ¬ ArgOk now time on) :
    Calls Try.prog 24 #[.pointer (some ⟨g, 0, none⟩), .int .i64 time, .slice A0 on.length c0] w (TickPost B g b t now dr time on w) := by
  have HM := Aside0.mk (made.at w h hk.2.2.2.1)
  obtain ⟨c, h1, h2, h3, _⟩ := h.cells
  have HA := Aside0.mk ha
  have HL := Aside0.mk hl
  have HO := Aside0.mk hon
  clear hk hon hl h
  by_cases k1 : tkB time = true
  · by_cases k2 : on.length = now.length
    · have k3 : on.all tkB = false := by
        rw [Bool.eq_false_iff]
        exact fun k3 => ha ⟨k1, k2, k3⟩
      have k2b : ((on.length : Int) != (now.length : Int)) = false := by rw [bne_eq_false_iff_eq]; omega
      clear ha k2
      go_enter Try.func24, Try.ntmps24
      go_wp2_with fail
      refine HM.out.mono ?_
      rintro e w' ⟨rfl, ⟨nd, rfl⟩⟩
      go_wp2_with fail
      refine (isTick.at _ _).mono ?_
      rintro e w' ⟨rfl, ⟨nd2, rfl⟩⟩
      go_wp2_with fail
      refine (ContainsFunc.at_Tick tkB _ _ on _ (Kd.C_drewN (HO.out _ (Kept.refl _ _)) _) HL.out (fun a w' hb => tickNot.at a w')).mono ?_
      rintro e w' ⟨rfl, hb⟩
      have HB := Aside0.mk hb
      clear hb
      go_wp2
      go_ret
      exact .inr (.inr ⟨HA.out, rfl, below_step (pw_below_drewN (Below.refl _ _) _) HB.out⟩)
    · have k2b : ((on.length : Int) != (now.length : Int)) = true := by rw [bne_iff_ne]; omega
      clear ha k2
      go_enter Try.func24, Try.ntmps24
      go_wp2_with fail
      refine HM.out.mono ?_
      rintro e w' ⟨rfl, ⟨nd, rfl⟩⟩
      go_wp2_with fail
      refine (isTick.at _ _).mono ?_
      rintro e w' ⟨rfl, ⟨nd2, rfl⟩⟩
      go_wp2
      go_ret
      exact .inr (.inr ⟨HA.out, rfl, pw_below_drewN (Below.refl _ _) _⟩)
  · have k1 : tkB time = false := by simpa using k1
    clear ha
    go_enter Try.func24, Try.ntmps24
    go_wp2_with fail
    refine HM.out.mono ?_
    rintro e w' ⟨rfl, ⟨nd, rfl⟩⟩
    go_wp2_with fail
    refine (isTick.at _ _).mono ?_
    rintro e w' ⟨rfl, ⟨nd2, rfl⟩⟩
    go_wp2
    go_ret
    exact .inr (.inr ⟨HA.out, rfl, pw_below_drewN (Below.refl _ _) _⟩)

set_option maxHeartbeats 4000000 in
set_option maxRecDepth 100000 in
theorem Tick.full {B g b : Nat} {t dr : Int} {now : List Int} (time : Int) (A0 : Option Addr) (c0 : Nat) (on : List Int) (w : World) (h : Clk w B g b t now dr) (hk : ClkOk t now dr) (hon : ∀ W', Kept w W' (fun k => k = g ∨ k = b) → Kd.C (Kd.int .i64) W' A0 on.length on) (ha : ArgOk now time on) (hf : ¬ t + time ≤ MaxC) :
    Calls Try.prog 24 #[.pointer (some ⟨g, 0, none⟩), .int .i64 time, .slice A0 on.length c0] w (TickPost B g b t now dr time on w) := by
  have HM := Aside0.mk (made.at w h hk.2.2.2.1)
  obtain ⟨c, h1, h2, h3, _⟩ := h.cells
  have HA := Aside0.mk ha
  have HF := Aside0.mk (show ¬ RoomOk t now time on from fun h => hf h.1)
  have HO := Aside0.mk hon
  obtain ⟨k1, k2, k3⟩ := ha
  have HL : Aside0 (on.length < 17592186044416) := ⟨by have := hk.2.2.2; omega⟩
  have k2b : ((on.length : Int) != (now.length : Int)) = false := by rw [bne_eq_false_iff_eq]; omega
  have e1 : IntKind.i64.wrap (1152921504606846976 - t) = 1152921504606846976 - t := by rw [i64_w]; unfold wrap64; have := hk.1; unfold MaxC at this; omega
  have kb : decide (1152921504606846976 - t < time) = true := decide_eq_true (by unfold MaxC at hf; omega)
  clear hk hon h k2 hf
  go_enter Try.func24, Try.ntmps24
  go_wp2_with fail
  refine HM.out.mono ?_
  rintro e w' ⟨rfl, ⟨nd, rfl⟩⟩
  go_wp2_with fail
  refine (isTick.at _ _).mono ?_
  rintro e w' ⟨rfl, ⟨nd2, rfl⟩⟩
  go_wp2_with fail
  refine (ContainsFunc.at_Tick tkB _ _ on _ (Kd.C_drewN (HO.out _ (Kept.refl _ _)) _) HL.out (fun a w' hb => tickNot.at a w')).mono ?_
  rintro e w' ⟨rfl, hb⟩
  have HB := Aside0.mk (below_step (pw_below_drewN (Below.refl _ _) _) hb)
  replace h1 := pw_cell_below HB.out h1
  clear hb
  go_wp2
  go_ret
  exact .inr (.inl ⟨HA.out, HF.out, rfl, HB.out⟩)
theorem rd_set {l : List Int} {i : Nat} (hi : i < l.length) (x : Int) (k : Nat) : rd (l.set i x) k = if k = i then x else rd l k := by
  unfold rd
  rw [Int.toNat_natCast, List.getD_eq_getElem?_getD, List.getElem?_set]
  by_cases h : i = k
  · subst h
    simp [hi]
  · rw [if_neg h, if_neg (fun e => h e.symm), List.getD_eq_getElem?_getD]
theorem rd_ext {a b : List Int} (h : a.length = b.length) (he : ∀ i : Nat, i < a.length → rd a i = rd b i) : a = b := by
  apply List.ext_getElem h
  intro i h1 h2
  have := he i h1
  unfold rd at this
  rw [Int.toNat_natCast, List.getD_eq_getElem?_getD, List.getD_eq_getElem?_getD, List.getElem?_eq_getElem h1, List.getElem?_eq_getElem h2] at this
  exact this
theorem addL_length (a b : List Int) (h : b.length = a.length) : (addL a b).length = a.length := by simp [addL, h]
theorem rd_addL {a b : List Int} (h : b.length = a.length) (i : Nat) (hi : i < a.length) : rd (addL a b) i = rd a i + rd b i := by
  unfold rd addL
  rw [Int.toNat_natCast, List.getD_eq_getElem?_getD, List.getD_eq_getElem?_getD, List.getD_eq_getElem?_getD, List.getElem?_zipWith, List.getElem?_eq_getElem hi, List.getElem?_eq_getElem (show i < b.length by omega)]
  rfl
theorem rd_all {ok : Int → Bool} {l : List Int} (h : l.all ok = true) (i : Nat) (hi : i < l.length) : ok (rd l i) = true := by
  rw [List.all_eq_true] at h
  refine h _ ?_
  unfold rd
  rw [Int.toNat_natCast, List.getD_eq_getElem?_getD, List.getElem?_eq_getElem hi]
  exact List.getElem_mem hi
set_option maxHeartbeats 8000000 in
set_option maxRecDepth 100000 in
theorem Tick.go {B g b : Nat} {t dr : Int} {now : List Int} (time : Int) (A0 : Option Addr) (c0 : Nat) (on : List Int) (w : World) (h : Clk w B g b t now dr) (hk : ClkOk t now dr) (hon : ∀ W', Kept w W' (fun k => k = g ∨ k = b) → Kd.C (Kd.int .i64) W' A0 on.length on) (ha : ArgOk now time on) (hf : t + time ≤ MaxC) :
    Calls Try.prog 24 #[.pointer (some ⟨g, 0, none⟩), .int .i64 time, .slice A0 on.length c0] w (TickPost B g b t now dr time on w) := by
  have HM := Aside0.mk (made.at w h hk.2.2.2.1)
  obtain ⟨c, h1, h2, h3, _⟩ := h.cells
  have HA := Aside0.mk ha
  have HF := Aside0.mk hf
  have HO := Aside0.mk hon
  have HK := Aside0.mk hk
  have HC := Aside0.mk h
  obtain ⟨k1, k2, k3⟩ := ha
  have HL : Aside0 (on.length < 17592186044416) := ⟨by have := hk.2.2.2; omega⟩
  have k2b : ((on.length : Int) != (now.length : Int)) = false := by rw [bne_eq_false_iff_eq]; omega
  have e1 : IntKind.i64.wrap (1152921504606846976 - t) = 1152921504606846976 - t := by rw [i64_w]; unfold wrap64; have := hk.1; unfold MaxC at this; omega
  have kb : decide (1152921504606846976 - t < time) = false := decide_eq_false (by unfold MaxC at hf; omega)
  clear hk hon h k2 hf
  go_enter Try.func24, Try.ntmps24
  go_wp2_with fail
  refine HM.out.mono ?_
  rintro e w' ⟨rfl, ⟨nd, rfl⟩⟩
  go_wp2_with fail
  refine (isTick.at _ _).mono ?_
  rintro e w' ⟨rfl, ⟨nd2, rfl⟩⟩
  go_wp2_with fail
  refine (ContainsFunc.at_Tick tkB _ _ on _ (Kd.C_drewN (HO.out _ (Kept.refl _ _)) _) HL.out (fun a w' hb => tickNot.at a w')).mono ?_
  rintro e w' ⟨rfl, hb⟩
  have HB := Aside0.mk (below_step (pw_below_drewN (Below.refl _ _) _) hb)
  replace h1 := pw_cell_below HB.out h1
  clear hb h2 h3
  go_wp2
  go_loopg [43] on.length (fun kq v43 w2 => ∃ x : Int, v43 = .int .i64 x ∧ Aside0 (∃ j : Nat, x = (j : Int) ∧ j + kq = on.length ∧ ∀ i : Nat, i < j → rd now i + rd on i ≤ MaxC) ∧ Aside0 (Below w.heap.size w w2))
  case atStart => exact ⟨0, rfl, ⟨0, rfl, by omega, fun i hi => absurd hi (by omega)⟩, HB⟩
  case round =>
    obtain ⟨x, rfl, HJ, HB⟩ := hrel
    cases gk with
    | zero =>
      have c0b : decide (x < (on.length : Int)) = false := decide_eq_false (by obtain ⟨j, e, hj, _⟩ := HJ.out; omega)
      have HR : Aside0 (RoomOk t now time on) := ⟨HF.out, by
        obtain ⟨j, e, hj, hall⟩ := HJ.out
        intro i hi
        exact hall i (by have := HA.out.2.1; omega)⟩
      clear HJ h1
      have HCw := Aside0.mk (HC.out.below HB.out)
      obtain ⟨cc, q1, q2, q3, _⟩ := HCw.out.cells
      have qf := HCw.out.frozen 0
      have et : IntKind.i64.wrap (t + time) = t + time := by
        rw [i64_w]; unfold wrap64; have a1 := HF.out; have a2 := HK.out.1; have a3 := tkB_iff.mp HA.out.1; unfold MaxC at a1 a2; omega
      have HX := Aside0.mk (Fr.setCell (S := fun k => k = g ∨ k = b) (Fr.of_below HB.out) (p := ⟨g, 0, none⟩) (.inl rfl) (.int .i64 (t + time)))
      have HW := Aside0.mk (HCw.out.setTime (t + time))
      clear HB HCw
      go_wp2
      go_loopg [69] on.length (fun kq v69 w2 => ∃ (x : Int) (cur : List Int), v69 = .int .i64 x ∧ Aside0 (∃ j : Nat, x = (j : Int) ∧ j + kq = on.length ∧ cur.length = now.length ∧ ∀ i : Nat, i < now.length → rd cur i = if i < j then rd now i + rd on i else rd now i) ∧ Aside0 (Clk w2 B g b (t + time) cur dr) ∧ Aside0 (Fr (fun k => k = g ∨ k = b) w w2))
      case atStart => exact ⟨0, now, rfl, ⟨0, rfl, by omega, rfl, fun i hi => by rw [if_neg (by omega)]⟩, HW, HX⟩
      case round =>
        obtain ⟨x, cur, rfl, HJ, HW, HX⟩ := hrel
        cases gk with
        | zero =>
          have c0b : decide (x < (on.length : Int)) = false := decide_eq_false (by obtain ⟨j, e, hj, _⟩ := HJ.out; omega)
          have HE : Aside0 (cur = addL now on) := ⟨by
            obtain ⟨j, e, hj, hl, hall⟩ := HJ.out
            have k2 := HA.out.2.1
            refine rd_ext (by rw [hl, addL_length _ _ k2]) (fun i hi => ?_)
            rw [hall i (by omega), if_pos (by omega), rd_addL k2 i (by omega)]⟩
          clear HJ
          obtain ⟨cc, p1, p2, p3, _⟩ := HW.out.cells
          have pf := HW.out.frozen 2
          have HLst : Aside0 (∀ w2, Below wr.heap.size wr w2 → Calls Try.prog 57 #[.int .i64 time, .slice A0 on.length c0] w2 fun e w3 => ∃ r : Int, e = .returned (.int .i64 r) ∧ w3.cell? ⟨g, 2, none⟩ = some (.int .i64 dr) ∧ w3.frozen? ⟨g, 2, none⟩ = false ∧ Aside0 (IsLeast time on r ∧ Clk w3 B g b (t + time) cur dr ∧ Fr (fun k => k = g ∨ k = b) w w3)) := ⟨fun w2 hb2 => by
            refine (least.at time A0 c0 on w2 (HO.out _ (HX.out.step hb2).kept) HL.out).mono ?_
            rintro e w3 ⟨r, rfl, hr, hb3⟩
            have h4 := below_step hb2 hb3
            have h5 := HW.out.below h4
            obtain ⟨_, _, _, h6, _⟩ := h5.cells
            exact ⟨r, rfl, h6, h5.frozen 2, ⟨hr, h5, HX.out.step h4⟩⟩⟩
          clear p1 p2
          go_wp2
          go_region_with (first | (go_at_call 57; refine (HLst.out _ ?_).mono ?_; (exact Below.drew (Below.refl _ _)); rintro e w' ⟨r, rfl, p4, p5, p6⟩))
          all_goals go_wp2
          all_goals go_ret
          all_goals exact .inl ⟨HA.out, HR.out, rfl, r, p6.out.1, by rw [← HE.out]; (first | rw [if_pos (by assumption)] | rw [if_neg (by omega)]); exact p6.out.2.1.setDrift _, p6.out.2.2.setCell (p := ⟨g, 2, none⟩) (.inl rfl) _⟩
        | succ m =>
          have c0b : decide (x < (on.length : Int)) = true := decide_eq_true (by obtain ⟨j, e, hj, _⟩ := HJ.out; omega)
          have hx1 : IntKind.i64.wrap (x + 1) = x + 1 := by rw [i64_w]; unfold wrap64; obtain ⟨j, e, hj, _⟩ := HJ.out; have := HL.out; omega
          have c1 : 0 ≤ x := by obtain ⟨j, e, hj, _⟩ := HJ.out; omega
          have c2 : x < (on.length : Int) := by obtain ⟨j, e, hj, _⟩ := HJ.out; omega
          have c3 : x < (cur.length : Int) := by obtain ⟨j, e, hj, hl, _⟩ := HJ.out; have := HA.out.2.1; omega
          obtain ⟨ad, rfl, hcell⟩ := Kd.at_int (HO.out _ HX.out.kept) x c1 c2
          obtain ⟨hn1, hn2⟩ := HW.out.cellAt x c1 c3
          obtain ⟨cc, p1, p2, p3, _⟩ := HW.out.cells
          have HQ : Aside0 (rd cur x = rd now x ∧ rd now x + rd on x ≤ MaxC ∧ 0 ≤ rd now x ∧ 0 ≤ rd on x) := ⟨by
            obtain ⟨j, e, hj, hl, hall⟩ := HJ.out
            have k2 := HA.out.2.1
            rw [e, hall j (by omega), if_neg (by omega)]
            have h5 := tkB_iff.mp (rd_all HA.out.2.2 j (by omega))
            exact ⟨rfl, HR.out.2 j (by omega), (HK.out.2.1 j (by omega)).1, h5.1⟩⟩
          have e2 : IntKind.i64.wrap (rd cur x + rd on x) = rd cur x + rd on x := by rw [i64_w]; unfold wrap64; have := HQ.out; unfold MaxC at this; omega
          have HX2 := Aside0.mk (Fr.setCell (S := fun k => k = g ∨ k = b) HX.out (p := ⟨b, x.toNat, none⟩) (.inr rfl) (.int .i64 (rd cur x + rd on x)))
          have HW2 := Aside0.mk (HW.out.put x (rd cur x + rd on x))
          replace c1 := eq_true c1
          replace c2 := eq_true c2
          replace c3 := eq_true c3
          go_wp2
          go_roundg m
          case measure => omega
          case rel => exact ⟨x + 1, cur.set x.toNat (rd cur x + rd on x), rfl, ⟨by
            obtain ⟨j, e, hj, hl, hall⟩ := HJ.out
            have k2 := HA.out.2.1
            refine ⟨j + 1, by omega, by omega, by rw [List.length_set]; exact hl, fun i hi => ?_⟩
            subst e
            rw [Int.toNat_natCast, rd_set (by omega)]
            by_cases h : i = j
            · subst h
              rw [if_pos rfl, if_pos (by omega), HQ.out.1]
            · rw [if_neg h, hall i hi]
              by_cases h2 : i < j
              · rw [if_pos h2, if_pos (by omega)]
              · rw [if_neg h2, if_neg (by omega)]⟩, HW2, HX2⟩
    | succ m =>
      have c0b : decide (x < (on.length : Int)) = true := decide_eq_true (by obtain ⟨j, e, hj, _⟩ := HJ.out; omega)
      have hx1 : IntKind.i64.wrap (x + 1) = x + 1 := by rw [i64_w]; unfold wrap64; obtain ⟨j, e, hj, _⟩ := HJ.out; have := HL.out; omega
      have c1 : 0 ≤ x := by obtain ⟨j, e, hj, _⟩ := HJ.out; omega
      have c2 : x < (on.length : Int) := by obtain ⟨j, e, hj, _⟩ := HJ.out; omega
      have c3 : x < (now.length : Int) := by have := HA.out.2.1; omega
      obtain ⟨ad, rfl, hcell⟩ := Kd.at_int (HO.out _ (Kept.of_below HB.out _)) x c1 c2
      obtain ⟨hn1, hn2⟩ := (HC.out.below HB.out).cellAt x c1 c3
      obtain ⟨cc, q1, q2, q3, _⟩ := (HC.out.below HB.out).cells
      have en : 0 ≤ rd now x ∧ rd now x ≤ MaxC := by
        obtain ⟨j, e, hj, _⟩ := HJ.out
        rw [e]
        exact HK.out.2.1 j (by have := HA.out.2.1; omega)
      have e2 : IntKind.i64.wrap (1152921504606846976 - rd now x) = 1152921504606846976 - rd now x := by rw [i64_w]; unfold wrap64; unfold MaxC at en; omega
      replace c1 := eq_true c1
      replace c2 := eq_true c2
      replace c3 := eq_true c3
      clear hn2 en h1
      by_cases hb : 1152921504606846976 - rd now x < rd on x
      · have hbb : decide (1152921504606846976 - rd now x < rd on x) = true := decide_eq_true hb
        have HN : Aside0 (¬ RoomOk t now time on) := ⟨fun h => by
          obtain ⟨j, e, hj, _⟩ := HJ.out
          have := h.2 j (by have := HA.out.2.1; omega)
          rw [← e] at this
          unfold MaxC at this
          omega⟩
        clear hb
        go_wp2
        go_ret
        exact .inr (.inl ⟨HA.out, HN.out, rfl, HB.out⟩)
      · have hbb : decide (1152921504606846976 - rd now x < rd on x) = false := decide_eq_false hb
        have HN : Aside0 (rd now x + rd on x ≤ MaxC) := ⟨by unfold MaxC; omega⟩
        clear hb
        go_wp2
        go_roundg m
        case measure => omega
        case rel => exact ⟨x + 1, rfl, ⟨by
          obtain ⟨j, e, hj, ha⟩ := HJ.out
          refine ⟨j + 1, by omega, by omega, fun i hi => ?_⟩
          rcases Nat.lt_or_ge i j with h | h
          · exact ha i h
          · obtain rfl : i = j := by omega
            rw [← e]; exact HN.out⟩, ⟨HB.out⟩⟩
/-- Tick of any clocks that may be. -/
theorem Tick.at {B g b : Nat} {t dr : Int} {now : List Int} (time : Int) (A0 : Option Addr) (c0 : Nat) (on : List Int) (w : World) (h : Clk w B g b t now dr) (hk : ClkOk t now dr) (hon : ∀ W', Kept w W' (fun k => k = g ∨ k = b) → Kd.C (Kd.int .i64) W' A0 on.length on) (hl : on.length < 17592186044416) :
    Calls Try.prog 24 #[.pointer (some ⟨g, 0, none⟩), .int .i64 time, .slice A0 on.length c0] w (TickPost B g b t now dr time on w) := by
  by_cases ha : ArgOk now time on
  · by_cases hf : t + time ≤ MaxC
    · exact Tick.go time A0 c0 on w h hk hon ha hf
    · exact Tick.full time A0 c0 on w h hk hon ha hf
  · exact Tick.arg time A0 c0 on w h hk hon hl ha
/-- Clocks that ticked are as they may be. -/
theorem ClkOk.tick {t dr time r : Int} {now on : List Int} (h : ClkOk t now dr) (ha : ArgOk now time on) (hr : RoomOk t now time on) (hl : IsLeast time on r) : ClkOk (t + time) (addL now on) (if dr < r then r else dr) := by
  obtain ⟨h1, h2, h3, h4⟩ := h
  have a1 := tkB_iff.mp ha.1
  have e := addL_length now on ha.2.1
  refine ⟨⟨by omega, hr.1⟩, fun i hi => ?_, ?_, by omega⟩
  · rw [rd_addL ha.2.1 i (by omega)]
    have a2 := tkB_iff.mp (rd_all ha.2.2 i (by have := ha.2.1; omega))
    exact ⟨by have := (h2 i (by omega)).1; omega, hr.2 i (by omega)⟩
  · have := hl.1; have := hl.2.1
    split <;> omega
end Go.Proofs.Ytfmcpceilkkhfaa.P
