/- The reference's Tick and Keeps. -/
import Derived.Test.YtfmcpceilkkhfaaRl
namespace Go.Proofs.Ytfmcpceilkkhfaa.P
open Go.RowKit Go.Proofs.YtfmcpceilkkhfaaW.PrintWords Go.Proofs.YtfmcpceilkkhfaaW.PrintLast Go.Proofs.YtfmcpceilkkhfaaW.PrintMore
attribute [local go_sem] max2_int min2_int max_two min_two max_three min_three max_four min_four
set_option linter.unusedVariables false
set_option linter.unusedSimpArgs false
theorem info44 : (Try.prog.info? 44).map (fun i => (i.zero, i.size, i.bytes)) = some (some (.agg #[.int .i64 0, .slice none 0 0]), 2, 32) := by kernel_rfl
def RTickPost (B g : Nat) (ok : Nat → Prop) (n : Int) (v : Value) (L : List S44) (time : Int) (on : List Int) (w : World) (e : Ending) (w' : World) : Prop :=
  (RArg n time on ∧ RRoom L time on ∧ e = .returned (.int .i64 0) ∧ ∃ v', Ref w' B g ok n v' (L ++ [⟨time, on⟩]) ∧ Fr (fun k => k = g ∨ v.ownBlock = some k) w w') ∨
  (RArg n time on ∧ ¬ RRoom L time on ∧ e = .returned (.int .i64 2) ∧ Below w.heap.size w w') ∨
  (¬ RArg n time on ∧ e = .returned (.int .i64 1) ∧ Below w.heap.size w w')
theorem RTick.arg {B g : Nat} {ok : Nat → Prop} {n : Int} {v : Value} {L : List S44} (time : Int) (A0 : Option Addr) (c0 : Nat) (on : List Int) (w : World) (h : Ref w B g ok n v L) (ha : ¬ (tkB time = true ∧ (on.length : Int) = n)) :
    Calls Try.prog 31 #[.pointer (some ⟨g, 0, none⟩), .int .i64 time, .slice A0 on.length c0] w (RTickPost B g ok n v L time on w) := by
  have HN : Aside0 (¬ RArg n time on) := ⟨fun q => ha ⟨q.1, q.2.1⟩⟩
  obtain ⟨A, c, rfl, hc, h1, h2, h3⟩ := h.cells
  clear h h3 hc h2
  by_cases k1 : tkB time = true
  · have k2b : ((on.length : Int) != n) = true := by rw [bne_iff_ne]; exact fun e => ha ⟨k1, e⟩
    clear ha
    go_enter Try.func31, Try.ntmps31
    go_wp2_with fail
    refine (right.at _ _).mono ?_
    rw [k1]
    rintro e w' ⟨rfl, ⟨nd, rfl⟩⟩
    go_wp2
    go_ret
    exact .inr (.inr ⟨HN.out, rfl, pw_below_drewN (Below.refl _ _) _⟩)
  · have k1 : tkB time = false := by simpa using k1
    clear ha
    go_enter Try.func31, Try.ntmps31
    go_wp2_with fail
    refine (right.at _ _).mono ?_
    rw [k1]
    rintro e w' ⟨rfl, ⟨nd, rfl⟩⟩
    go_wp2
    go_ret
    exact .inr (.inr ⟨HN.out, rfl, pw_below_drewN (Below.refl _ _) _⟩)
set_option maxHeartbeats 8000000 in
set_option maxRecDepth 100000 in
theorem RTick.go {B g : Nat} {ok : Nat → Prop} {n : Int} {v : Value} {L : List S44} (time : Int) (A0 : Option Addr) (c0 : Nat) (on : List Int) (w : World) (h : Ref w B g ok n v L) (hfresh : ∀ k, w.heap.size ≤ k → ok k) (hi : RInv n L) (hll : L.length < 4398046511104) (hon : Kd.C (Kd.int .i64) w A0 on.length on) (hl : on.length ≤ 7) (k1 : tkB time = true) (k2 : (on.length : Int) = n) :
    Calls Try.prog 31 #[.pointer (some ⟨g, 0, none⟩), .int .i64 time, .slice A0 on.length c0] w (RTickPost B g ok n v L time on w) := by
  have HR := Aside0.mk h
  have HI := Aside0.mk hi
  have HF := Aside0.mk hfresh
  have HLL := Aside0.mk hll
  have HL := Aside0.mk hl
  have HO := Aside0.mk hon
  have HK := Aside0.mk (And.intro k1 k2)
  have hv := Kd.R_slice h.2.1
  obtain ⟨A, c, rfl⟩ := hv
  have h1 : w.cell? ⟨g, 0, none⟩ = some (.int .i64 n) := (blk_cell h.1 0).trans rfl
  have k2b : ((on.length : Int) != n) = false := by rw [bne_eq_false_iff_eq]; exact k2
  clear h hfresh hi hll hl hon k2
  go_enter Try.func31, Try.ntmps31
  go_wp2_with fail
  refine (right.at _ _).mono ?_
  rw [k1]
  rintro e w' ⟨rfl, hd1⟩
  have HB := Aside0.mk (Drawn0.below hd1)
  clear k1 hd1
  replace h1 := pw_cell_below HB.out h1
  go_wp2
  clear h1
  go_loopg [7] on.length (fun kq v7 w2 => ∃ x : Int, v7 = .int .i64 x ∧ Aside0 (∃ j : Nat, x = (j : Int) ∧ j + kq = on.length ∧ ∀ i : Nat, i < j → tkB (rd on i) = true) ∧ Aside0 (Below w.heap.size w w2))
  case atStart => exact ⟨0, rfl, ⟨0, rfl, by omega, fun i hi => absurd hi (by omega)⟩, HB⟩
  case round =>
    clear HB
    obtain ⟨x, rfl, HJ, HB⟩ := hrel
    cases gk with
    | zero =>
      have c0b : decide (x < (on.length : Int)) = false := decide_eq_false (by obtain ⟨j, e, hj, _⟩ := HJ.out; omega)
      have HA : Aside0 (RArg n time on) := ⟨HK.out.1, HK.out.2, by
        obtain ⟨j, e, hj, hall⟩ := HJ.out
        rw [List.all_eq_true]
        intro y hy
        obtain ⟨i, hi, rfl⟩ := List.getElem_of_mem hy
        have := hall i (by omega)
        unfold rd at this
        rwa [Int.toNat_natCast, List.getD_eq_getElem?_getD, List.getElem?_eq_getElem hi] at this⟩
      clear HJ
      have HRw := Aside0.mk (HR.out.below HB.out)
      go_wp2_with fail
      refine (RTime.at _ HRw.out (by have := HLL.out; omega) HI.out.pt).mono ?_
      rintro e w' ⟨rfl, hd2⟩
      replace HB := Aside0.mk (below_step HB.out (Drawn0.below hd2))
      clear hd2 HRw
      have e1 : IntKind.i64.wrap (1152921504606846976 - sumT L) = 1152921504606846976 - sumT L := by rw [i64_w]; unfold wrap64; have := HI.out.whole; unfold MaxC at this; omega
      go_wp2
      clear e1
      go_loopg [8, 9] on.length (fun kq v8 v9 w2 => ∃ (f : Bool) (x : Int), v8 = .bool f ∧ v9 = .int .i64 x ∧ Aside0 (∃ j : Nat, x = (j : Int) ∧ j + kq = on.length ∧ (f = false ↔ sumT L + time ≤ MaxC ∧ ∀ i : Nat, i < j → sumOn i L + rd on i ≤ MaxC)) ∧ Aside0 (Below w.heap.size w w2))
      case atStart => exact ⟨_, 0, rfl, rfl, ⟨0, rfl, by omega, by rw [decide_eq_false_iff_not]; unfold MaxC; exact ⟨fun h => ⟨by omega, fun i hi => absurd hi (by omega)⟩, fun h => by omega⟩⟩, HB⟩
      case round =>
        clear HB
        obtain ⟨f, x, rfl, rfl, HJ, HB⟩ := hrel
        cases gk with
        | zero =>
          have c0b : decide (x < (on.length : Int)) = false := decide_eq_false (by obtain ⟨j, e, hj, _⟩ := HJ.out; omega)
          have HRm : Aside0 (f = false ↔ RRoom L time on) := ⟨by
            obtain ⟨j, e, hj, hall⟩ := HJ.out
            obtain rfl : j = on.length := by omega
            exact hall⟩
          clear HJ
          cases f with
          | true =>
            go_wp2
            go_ret
            exact .inr (.inl ⟨HA.out, fun h => by have := HRm.out.mpr h; exact absurd this (by simp), rfl, HB.out⟩)
          | false =>
            have HRok := Aside0.mk (HRm.out.mp rfl)
            clear HRm
            have HBd : Aside0 (Below w.heap.size w wr.drew) := ⟨HB.out.drew⟩
            have HNo : Aside0 (∀ k, (Value.slice A L.length c).ownBlock = some k → k < w.heap.size ∧ k ≠ g) := ⟨fun k e => by
              obtain ⟨inner, hown⟩ := Kd.R_own HR.out.2.1
              exact ⟨own_lt hown _ e, fun q => HR.out.2.2.2 (q ▸ HR.out.2.1.1 k e)⟩⟩
            have HBg : Aside0 (B ≤ w.heap.size) := ⟨by have := HR.out.2.2.1; have := blk_lt HR.out.1; omega⟩
            have q0 : wr.cell? ⟨g, 1, none⟩ = some (.slice A L.length c) := (blk_cell (HR.out.below HB.out).1 1).trans rfl
            go_upto_region 15 with (fail)
            refine start_ (n := 15) (S := fun w' => w'.cell? ⟨g, 1, none⟩ = some (.slice A L.length c)) (ds := [14]) #[false, false, false, false, false, false, false, false, false, false, false, false, false, false, false] (by kernel_rfl) rfl rfl (q0) (fun hHeld => ?_)
            refine pure_ (i := 0) (N := some 58) (v := ?_) (a' := ?_) #[true, false, false, false, false, false, false, false, false, false, false, false, false, false, false] rfl rfl (by kernel_rfl) (fun _ _ _ h => h) (Or.inl ⟨by rfl, ?_⟩) ?_ ?_
            rotate_left
            · intro w'
              go_simp
              with_reducible rfl
            rotate_left
            · simp only [Act.put, List.setIfInBounds_toArray, List.set_cons_zero, List.set_cons_succ, i64_w, i32_w]
              rfl
            refine pure_ (i := 1) (N := some 59) (v := ?_) (a' := ?_) #[true, true, false, false, false, false, false, false, false, false, false, false, false, false, false] rfl rfl (by kernel_rfl) (fun _ _ _ h => h) (Or.inl ⟨by rfl, ?_⟩) ?_ ?_
            rotate_left
            · intro w'
              go_simp
              with_reducible rfl
            rotate_left
            · simp only [Act.put, List.setIfInBounds_toArray, List.set_cons_zero, List.set_cons_succ, i64_w, i32_w]
              rfl
            refine pure_ (i := 2) (N := some 60) (v := ?_) (a' := ?_) #[true, true, true, false, false, false, false, false, false, false, false, false, false, false, false] rfl rfl (by kernel_rfl) (fun _ _ _ h => h) (Or.inl ⟨by rfl, ?_⟩) ?_ ?_
            rotate_left
            · intro w'
              go_simp
              with_reducible rfl
            rotate_left
            · simp only [Act.put, List.setIfInBounds_toArray, List.set_cons_zero, List.set_cons_succ, i64_w, i32_w]
              rfl
            refine pure_ (i := 3) (N := some 61) (v := ?_) (a' := ?_) #[true, true, true, true, false, false, false, false, false, false, false, false, false, false, false] rfl rfl (by kernel_rfl) (fun _ _ _ h => h) (Or.inl ⟨by rfl, ?_⟩) ?_ ?_
            rotate_left
            · intro w'
              go_simp
              with_reducible rfl
            rotate_left
            · simp only [Act.put, List.setIfInBounds_toArray, List.set_cons_zero, List.set_cons_succ, i64_w, i32_w]
              rfl
            refine pure_ (i := 5) (N := some 63) (v := ?_) (a' := ?_) #[true, true, true, true, false, true, false, false, false, false, false, false, false, false, false] rfl rfl (by kernel_rfl) (fun _ _ _ h => h) (Or.inl ⟨by rfl, ?_⟩) ?_ ?_
            rotate_left
            · intro w'
              go_simp
              with_reducible rfl
            rotate_left
            · simp only [Act.put, List.setIfInBounds_toArray, List.set_cons_zero, List.set_cons_succ, i64_w, i32_w]
              rfl
            refine pure_ (i := 7) (N := some 65) (v := ?_) (a' := ?_) #[true, true, true, true, false, true, false, true, false, false, false, false, false, false, false] rfl rfl (by kernel_rfl) (fun _ _ _ h => h) (Or.inl ⟨by rfl, ?_⟩) ?_ ?_
            rotate_left
            · intro w'
              go_simp
              with_reducible rfl
            rotate_left
            · simp only [Act.put, List.setIfInBounds_toArray, List.set_cons_zero, List.set_cons_succ, i64_w, i32_w]
              rfl
            refine take_ (i := 4) (N := some 62) (v := ?_) (a' := ?_) #[true, true, true, true, true, true, false, true, false, false, false, false, false, false, false] rfl rfl (by kernel_rfl) (fun _ _ _ h => h) (Or.inl ⟨by rfl, ?_⟩) hHeld ?_ ?_
            rotate_left
            · intro w' s0
              go_simp
              with_reducible rfl
            rotate_left
            · simp only [Act.put, List.setIfInBounds_toArray, List.set_cons_zero, List.set_cons_succ, i64_w, i32_w]
              rfl
            refine one_ (i := 6) (N := some 64) #[true, true, true, true, true, true, true, true, false, false, false, false, false, false, false] rfl rfl (by kernel_rfl) (by decide) (fun K hK => ?_)
            refine Kd.R_lit_step (Kd.int .i64) (w0 := w) w.heap.size 3 (by rfl) (N := 64) rfl (xs := ([] : List Int)) (inner := []) (ok := fun k => w.heap.size ≤ k) (okp := fun k => w.heap.size ≤ k) ?hr (Reps.none _ _) (fun _ hk => hk) ?hf ?hB ?hS (by simp) ?_
            (case hr => first | (go_simp; done) | (go_simp; rfl))
            (case hf => exact HBd.out.size)
            (case hB => exact HBd.out)
            (case hS => exact HBd.out.size)
            intro v1 w1 ho1 hb1 hg1 hn1
            refine hK.out _ _ (((blk_cell (HR.out.below hb1).1 1).trans rfl)) (fun hHeld => ?_)
            clear hK K
            refine norm_ (a' := ?_) ?_ ?_
            rotate_left
            · show Act.put _ (some 64) _ = _
              simp only [Act.put, List.setIfInBounds_toArray, List.set_cons_zero, List.set_cons_succ, i64_w, i32_w]
              rfl
            refine one_ (i := 8) (N := some 66) #[true, true, true, true, true, true, true, true, true, false, false, false, false, false, false] rfl rfl (by kernel_rfl) (by decide) (fun K hK => ?_)
            refine Kd.R_append_rows_step (Kd.int .i64) (w0 := w) w.heap.size (by rfl) (.tmp 64) (.tmp 65) 22 3 (.int .i64 0) 8 rfl Try.underlying22 info3 rfl (by decide) (by omega) v1 ([] : List Int) on _ _ _ (fun k => w.heap.size ≤ k) (fun _ => False) rfl rfl ?aO ?aR (fun _ _ h => h) (fun _ h => h.elim) ?aF ?aB ?aS ?aL ?_
            (case aR => exact Kd.C_below HO.out hb1)
            (case aB => exact hb1)
            (case aF => exact fun k hk => Nat.le_trans hb1.size hk)
            (case aO => exact ho1)
            (case aS => exact hb1.size)
            (case aL => have := HL.out; simp only [List.length_nil]; omega)
            intro v2 w2 ho2 hb2 hg2 hat2
            rw [List.nil_append] at ho2
            obtain ⟨A2, c2, rfl⟩ := Kd.R_slice ho2
            refine hK.out _ _ (((blk_cell (HR.out.below hb2).1 1).trans rfl)) (fun hHeld => ?_)
            clear hK K
            refine norm_ (a' := ?_) ?_ ?_
            rotate_left
            · show Act.put _ (some 66) _ = _
              simp only [Act.put, List.setIfInBounds_toArray, List.set_cons_zero, List.set_cons_succ, i64_w, i32_w]
              rfl
            refine pure_ (i := 9) (N := some 67) (v := ?_) (a' := ?_) #[true, true, true, true, true, true, true, true, true, true, false, false, false, false, false] rfl rfl (by kernel_rfl) (fun _ _ _ h => h) (Or.inl ⟨by rfl, ?_⟩) ?_ ?_
            rotate_left
            · intro w'
              go_simp
              with_reducible rfl
            rotate_left
            · simp only [Act.put, List.setIfInBounds_toArray, List.set_cons_zero, List.set_cons_succ, i64_w, i32_w]
              rfl
            refine one_ (i := 10) (N := some 68) #[true, true, true, true, true, true, true, true, true, true, true, false, false, false, false] rfl rfl (by kernel_rfl) (by decide) (fun K hK => ?_)
            refine value_ (w1 := ?_) (v := ?_) (by rfl) rfl ?_ ?_
            rotate_left 2
            · go_simp
              constructor
              · rfl
              · rfl
            refine hK.out _ _ (((blk_cell (blk_alloc (HR.out.below hb2).1 _) 1).trans rfl)) (fun hHeld => ?_)
            clear hK K
            refine norm_ (a' := ?_) ?_ ?_
            rotate_left
            · show Act.put _ (some 68) _ = _
              simp only [Act.put, List.setIfInBounds_toArray, List.set_cons_zero, List.set_cons_succ, i64_w, i32_w]
              rfl
            refine one_ (i := 11) (N := some 69) #[true, true, true, true, true, true, true, true, true, true, true, true, false, false, false] rfl rfl (by kernel_rfl) (by decide) (fun K hK => ?_)
            refine Kd.R_append_step k44 (w0 := w2) B (by rfl) (.tmp 62) (.tmp 68) 38 44 (.agg #[.int .i64 0, .slice none 0 0]) 32 rfl Try.underlying38 info44 rfl (by decide) (by omega) (.slice A L.length c) L ⟨time, on⟩ [.int .i64 time, .slice A2 on.length c2] ok (fun k => w.heap.size ≤ k) rfl rfl ?hp ?hk ?aF ?aO ?aB ?aS ?aL ?_
            (case hp => exact k44_mkM w2 B _ ⟨time, on⟩ (Kd.R_lower ho2 HBg.out))
            (case hk => exact fun k hk => ⟨HF.out k hk, fun e => by have := (HNo.out k e.symm).1; omega⟩)
            (case aF => exact fun k hk => HF.out k (Nat.le_trans hb2.size hk))
            (case aO => exact (HR.out.below hb2).2.1)
            (case aB => exact Below.refl _ _)
            (case aS => exact Nat.le_trans HBg.out hb2.size)
            (case aL => have := HLL.out; omega)
            intro v3 w3 ho3 hb3 hg3 hat3
            obtain ⟨A3, c3, rfl⟩ := Kd.R_slice ho3
            have h15 := blk_grown (HR.out.below hb2).1 hg3 (fun e => (HNo.out g e.symm).2 rfl)
            have hc14 : w3.cell? ⟨g, 1, none⟩ = some (.slice A L.length c) := (blk_cell h15 1).trans rfl
            have hf14 : w3.frozen? ⟨g, 1, none⟩ = false := blk_frozen h15 1
            refine hK.out _ _ (hc14) (fun hHeld => ?_)
            clear hK K
            refine norm_ (a' := ?_) ?_ ?_
            rotate_left
            · show Act.put _ (some 69) _ = _
              simp only [Act.put, List.setIfInBounds_toArray, List.set_cons_zero, List.set_cons_succ, i64_w, i32_w]
              rfl
            refine pure_ (i := 12) (N := some 70) (v := ?_) (a' := ?_) #[true, true, true, true, true, true, true, true, true, true, true, true, true, false, false] rfl rfl (by kernel_rfl) (fun _ _ _ h => h) (Or.inl ⟨by rfl, ?_⟩) ?_ ?_
            rotate_left
            · intro w'
              go_simp
              with_reducible rfl
            rotate_left
            · simp only [Act.put, List.setIfInBounds_toArray, List.set_cons_zero, List.set_cons_succ, i64_w, i32_w]
              rfl
            refine pure_ (i := 13) (N := some 71) (v := ?_) (a' := ?_) #[true, true, true, true, true, true, true, true, true, true, true, true, true, true, false] rfl rfl (by kernel_rfl) (fun _ _ _ h => h) (Or.inl ⟨by rfl, ?_⟩) ?_ ?_
            rotate_left
            · intro w'
              go_simp
              with_reducible rfl
            rotate_left
            · simp only [Act.put, List.setIfInBounds_toArray, List.set_cons_zero, List.set_cons_succ, i64_w, i32_w]
              rfl
            refine last_ (i := 14) (N := none) #[true, true, true, true, true, true, true, true, true, true, true, true, true, true, true] rfl rfl (by kernel_rfl) (by decide) (fun K hK => ?_)
            refine skip_ (w1 := ?_) (by rfl) rfl ?_ ?_
            rotate_left
            · go_simp
              rfl
            refine hK.out _ _ ?_
            clear hK K
            refine done_ (by kernel_rfl) ?_
            go_wp2
            go_ret
            have hRef : Ref (w3.setCell ⟨g, 1, none⟩ (.slice A3 (L ++ [(⟨time, on⟩ : S44)]).length c3)) B g ok n (.slice A3 (L ++ [(⟨time, on⟩ : S44)]).length c3) (L ++ [⟨time, on⟩]) :=
              ⟨by simpa using blk_set h15 1 (.slice A3 (L ++ [(⟨time, on⟩ : S44)]).length c3), Kd.R_far (p := ⟨g, 1, none⟩) ho3 (fun k hk e => HR.out.2.2.2 (by have e : k = g := e; subst e; exact hk)) _, HR.out.2.2.1, HR.out.2.2.2⟩
            rw [show (L ++ [(⟨time, on⟩ : S44)]).length = L.length + 1 by simp] at hRef
            have hFr3 : Fr (fun k => k = g ∨ (Value.slice A L.length c).ownBlock = some k) w2 w3 := ⟨hb3.os, hb3.tape, hb3.output, Kept.of_grown hg3 (Kept.refl _ _) (fun k hk => .inl (.inr hk))⟩
            exact .inl ⟨HA.out, HRok.out, rfl, _, hRef, ((Fr.of_below hb2).trans hFr3).setCell (p := ⟨g, 1, none⟩) (.inl rfl) _⟩
        | succ m =>
          have c0b : decide (x < (on.length : Int)) = true := decide_eq_true (by obtain ⟨j, e, hj, _⟩ := HJ.out; omega)
          have hx1 : IntKind.i64.wrap (x + 1) = x + 1 := by rw [i64_w]; unfold wrap64; obtain ⟨j, e, hj, _⟩ := HJ.out; have := HL.out; omega
          cases f with
          | true =>
            go_upto_region 12 with (fail)
            refine start_ (n := 13) (S := fun w' => True) (ds := []) #[false, false, false, false, false, false, false, false, false, false, false, false, false] (by kernel_rfl) rfl rfl trivial (fun hHeld => ?_)
            refine pure_ (i := 0) (N := some 45) (v := ?_) (a' := ?_) #[true, false, false, false, false, false, false, false, false, false, false, false, false] rfl rfl (by kernel_rfl) (fun _ _ _ h => h) (Or.inl ⟨by rfl, ?_⟩) ?_ ?_
            rotate_left
            · intro w'
              go_simp
              with_reducible rfl
            rotate_left
            · simp only [Act.put, List.setIfInBounds_toArray, List.set_cons_zero, List.set_cons_succ, i64_w, i32_w]
              rfl
            refine pure_ (i := 1) (N := some 46) (v := ?_) (a' := ?_) #[true, true, false, false, false, false, false, false, false, false, false, false, false] rfl rfl (by kernel_rfl) (fun _ _ _ h => h) (Or.inl ⟨by rfl, ?_⟩) ?_ ?_
            rotate_left
            · intro w'
              go_simp
              with_reducible rfl
            rotate_left
            · simp only [Act.put, List.setIfInBounds_toArray, List.set_cons_zero, List.set_cons_succ, i64_w, i32_w]
              rfl
            refine pure_ (i := 2) (N := some 47) (v := undef) (a' := ?_) #[true, true, true, false, false, false, false, false, false, false, false, false, false] rfl rfl (by kernel_rfl) (fun _ _ _ h => h) (Or.inr ⟨by rfl, rfl⟩) ?_ ?_
            rotate_left
            · simp only [Act.put, List.setIfInBounds_toArray, List.set_cons_zero, List.set_cons_succ, i64_w, i32_w]
              rfl
            refine pure_ (i := 3) (N := some 48) (v := undef) (a' := ?_) #[true, true, true, true, false, false, false, false, false, false, false, false, false] rfl rfl (by kernel_rfl) (fun _ _ _ h => h) (Or.inr ⟨by rfl, rfl⟩) ?_ ?_
            rotate_left
            · simp only [Act.put, List.setIfInBounds_toArray, List.set_cons_zero, List.set_cons_succ, i64_w, i32_w]
              rfl
            refine pure_ (i := 4) (N := some 49) (v := undef) (a' := ?_) #[true, true, true, true, true, false, false, false, false, false, false, false, false] rfl rfl (by kernel_rfl) (fun _ _ _ h => h) (Or.inr ⟨by rfl, rfl⟩) ?_ ?_
            rotate_left
            · simp only [Act.put, List.setIfInBounds_toArray, List.set_cons_zero, List.set_cons_succ, i64_w, i32_w]
              rfl
            refine pure_ (i := 5) (N := some 50) (v := undef) (a' := ?_) #[true, true, true, true, true, true, false, false, false, false, false, false, false] rfl rfl (by kernel_rfl) (fun _ _ _ h => h) (Or.inr ⟨by rfl, rfl⟩) ?_ ?_
            rotate_left
            · simp only [Act.put, List.setIfInBounds_toArray, List.set_cons_zero, List.set_cons_succ, i64_w, i32_w]
              rfl
            refine pure_ (i := 6) (N := some 51) (v := undef) (a' := ?_) #[true, true, true, true, true, true, true, false, false, false, false, false, false] rfl rfl (by kernel_rfl) (fun _ _ _ h => h) (Or.inr ⟨by rfl, rfl⟩) ?_ ?_
            rotate_left
            · simp only [Act.put, List.setIfInBounds_toArray, List.set_cons_zero, List.set_cons_succ, i64_w, i32_w]
              rfl
            refine pure_ (i := 7) (N := some 52) (v := undef) (a' := ?_) #[true, true, true, true, true, true, true, true, false, false, false, false, false] rfl rfl (by kernel_rfl) (fun _ _ _ h => h) (Or.inr ⟨by rfl, rfl⟩) ?_ ?_
            rotate_left
            · simp only [Act.put, List.setIfInBounds_toArray, List.set_cons_zero, List.set_cons_succ, i64_w, i32_w]
              rfl
            refine pure_ (i := 8) (N := some 53) (v := undef) (a' := ?_) #[true, true, true, true, true, true, true, true, true, false, false, false, false] rfl rfl (by kernel_rfl) (fun _ _ _ h => h) (Or.inr ⟨by rfl, rfl⟩) ?_ ?_
            rotate_left
            · simp only [Act.put, List.setIfInBounds_toArray, List.set_cons_zero, List.set_cons_succ, i64_w, i32_w]
              rfl
            refine pure_ (i := 9) (N := some 54) (v := undef) (a' := ?_) #[true, true, true, true, true, true, true, true, true, true, false, false, false] rfl rfl (by kernel_rfl) (fun _ _ _ h => h) (Or.inr ⟨by rfl, rfl⟩) ?_ ?_
            rotate_left
            · simp only [Act.put, List.setIfInBounds_toArray, List.set_cons_zero, List.set_cons_succ, i64_w, i32_w]
              rfl
            refine pure_ (i := 10) (N := some 55) (v := undef) (a' := ?_) #[true, true, true, true, true, true, true, true, true, true, true, false, false] rfl rfl (by kernel_rfl) (fun _ _ _ h => h) (Or.inr ⟨by rfl, rfl⟩) ?_ ?_
            rotate_left
            · simp only [Act.put, List.setIfInBounds_toArray, List.set_cons_zero, List.set_cons_succ, i64_w, i32_w]
              rfl
            refine pure_ (i := 11) (N := some 56) (v := ?_) (a' := ?_) #[true, true, true, true, true, true, true, true, true, true, true, true, false] rfl rfl (by kernel_rfl) (fun _ _ _ h => h) (Or.inl ⟨by rfl, ?_⟩) ?_ ?_
            rotate_left
            · intro w'
              go_simp
              with_reducible rfl
            rotate_left
            · simp only [Act.put, List.setIfInBounds_toArray, List.set_cons_zero, List.set_cons_succ, i64_w, i32_w]
              rfl
            refine pure_ (i := 12) (N := some 8) (v := ?_) (a' := ?_) #[true, true, true, true, true, true, true, true, true, true, true, true, true] rfl rfl (by kernel_rfl) (fun _ _ _ h => h) (Or.inl ⟨by rfl, ?_⟩) ?_ ?_
            rotate_left
            · intro w'
              go_simp
              with_reducible rfl
            rotate_left
            · simp only [Act.put, List.setIfInBounds_toArray, List.set_cons_zero, List.set_cons_succ, i64_w, i32_w]
              rfl
            refine done_ (by kernel_rfl) ?_
            clear hHeld
            go_wp2
            go_roundg m
            case measure => omega
            case rel => exact ⟨true, x + 1, rfl, rfl, ⟨by
              obtain ⟨j, e, hj, hall⟩ := HJ.out
              refine ⟨j + 1, by omega, by omega, ⟨fun h => absurd h (by simp), fun h => ?_⟩⟩
              exact absurd (hall.mpr ⟨h.1, fun i hi => h.2 i (by omega)⟩) (by simp)⟩, ⟨HB.out.drew⟩⟩
          | false =>
            have p0 : 0 ≤ x := by obtain ⟨j, e, hj, _⟩ := HJ.out; omega
            have p1 : x < (on.length : Int) := by obtain ⟨j, e, hj, _⟩ := HJ.out; omega
            have p2 : x < n := by have := HK.out.2; omega
            obtain ⟨ad, rfl, q0⟩ := Kd.at_int (Kd.C_below HO.out HB.out) x p0 p1
            have HN : Aside0 (∀ w2, Below wr.heap.size wr w2 → Calls Try.prog 33 #[.pointer (some ⟨g, 0, none⟩), .int .i64 x] w2 fun e w3 => e = .returned (.int .i64 (sumOn x L)) ∧ w3.cell? (ad.add x.toNat) = some (.int .i64 (rd on x)) ∧ Aside0 (Below wr.heap.size wr w3)) := ⟨fun w2 hb2 => by
              refine (RNow.at x w2 (HR.out.below (below_step HB.out hb2)) (by have := HLL.out; omega) ⟨p0, p2⟩ HI.out.each (HI.out.po x p0 p2)).mono ?_
              rintro e w3 ⟨rfl, hd⟩
              have hb3 := below_step hb2 (Drawn0.below hd)
              exact ⟨rfl, pw_cell_below hb3 q0, ⟨hb3⟩⟩⟩
            have e2 : IntKind.i64.wrap (1152921504606846976 - sumOn x L) = 1152921504606846976 - sumOn x L := by rw [i64_w]; unfold wrap64; have := HI.out.wholeOn x p0 p2; unfold MaxC at this; omega
            replace p0 := eq_true p0
            replace p1 := eq_true p1
            replace p2 := eq_true p2
            go_upto_region 12 with (fail)
            refine start_ (n := 13) (S := fun w' => w'.cell? (ad.add x.toNat) = some (.int .i64 (rd on x))) (ds := []) #[false, false, false, false, false, false, false, false, false, false, false, false, false] (by kernel_rfl) rfl rfl (q0) (fun hHeld => ?_)
            refine pure_ (i := 0) (N := some 45) (v := ?_) (a' := ?_) #[true, false, false, false, false, false, false, false, false, false, false, false, false] rfl rfl (by kernel_rfl) (fun _ _ _ h => h) (Or.inl ⟨by rfl, ?_⟩) ?_ ?_
            rotate_left
            · intro w'
              go_simp
              with_reducible rfl
            rotate_left
            · simp only [Act.put, List.setIfInBounds_toArray, List.set_cons_zero, List.set_cons_succ, i64_w, i32_w]
              rfl
            refine pure_ (i := 1) (N := some 46) (v := ?_) (a' := ?_) #[true, true, false, false, false, false, false, false, false, false, false, false, false] rfl rfl (by kernel_rfl) (fun _ _ _ h => h) (Or.inl ⟨by rfl, ?_⟩) ?_ ?_
            rotate_left
            · intro w'
              go_simp
              with_reducible rfl
            rotate_left
            · simp only [Act.put, List.setIfInBounds_toArray, List.set_cons_zero, List.set_cons_succ, i64_w, i32_w]
              rfl
            refine pure_ (i := 2) (N := some 47) (v := ?_) (a' := ?_) #[true, true, true, false, false, false, false, false, false, false, false, false, false] rfl rfl (by kernel_rfl) (fun _ _ _ h => h) (Or.inl ⟨by rfl, ?_⟩) ?_ ?_
            rotate_left
            · intro w'
              go_simp
              with_reducible rfl
            rotate_left
            · simp only [Act.put, List.setIfInBounds_toArray, List.set_cons_zero, List.set_cons_succ, i64_w, i32_w]
              rfl
            refine pure_ (i := 3) (N := some 48) (v := ?_) (a' := ?_) #[true, true, true, true, false, false, false, false, false, false, false, false, false] rfl rfl (by kernel_rfl) (fun _ _ _ h => h) (Or.inl ⟨by rfl, ?_⟩) ?_ ?_
            rotate_left
            · intro w'
              go_simp
              with_reducible rfl
            rotate_left
            · simp only [Act.put, List.setIfInBounds_toArray, List.set_cons_zero, List.set_cons_succ, i64_w, i32_w]
              rfl
            refine pure_ (i := 4) (N := some 49) (v := ?_) (a' := ?_) #[true, true, true, true, true, false, false, false, false, false, false, false, false] rfl rfl (by kernel_rfl) (fun _ _ _ h => h) (Or.inl ⟨by rfl, ?_⟩) ?_ ?_
            rotate_left
            · intro w'
              go_simp
              with_reducible rfl
            rotate_left
            · simp only [Act.put, List.setIfInBounds_toArray, List.set_cons_zero, List.set_cons_succ, i64_w, i32_w]
              rfl
            refine pure_ (i := 6) (N := some 51) (v := ?_) (a' := ?_) #[true, true, true, true, true, false, true, false, false, false, false, false, false] rfl rfl (by kernel_rfl) (fun _ _ _ h => h) (Or.inl ⟨by rfl, ?_⟩) ?_ ?_
            rotate_left
            · intro w'
              go_simp
              with_reducible rfl
            rotate_left
            · simp only [Act.put, List.setIfInBounds_toArray, List.set_cons_zero, List.set_cons_succ, i64_w, i32_w]
              rfl
            refine pure_ (i := 7) (N := some 52) (v := ?_) (a' := ?_) #[true, true, true, true, true, false, true, true, false, false, false, false, false] rfl rfl (by kernel_rfl) (fun _ _ _ h => h) (Or.inl ⟨by rfl, ?_⟩) ?_ ?_
            rotate_left
            · intro w'
              go_simp
              with_reducible rfl
            rotate_left
            · simp only [Act.put, List.setIfInBounds_toArray, List.set_cons_zero, List.set_cons_succ, i64_w, i32_w]
              rfl
            refine take_ (i := 5) (N := some 50) (v := ?_) (a' := ?_) #[true, true, true, true, true, true, true, true, false, false, false, false, false] rfl rfl (by kernel_rfl) (fun _ _ _ h => h) (Or.inl ⟨by rfl, ?_⟩) hHeld ?_ ?_
            rotate_left
            · intro w' s0
              go_simp
              with_reducible rfl
            rotate_left
            · simp only [Act.put, List.setIfInBounds_toArray, List.set_cons_zero, List.set_cons_succ, i64_w, i32_w]
              rfl
            refine one_ (i := 8) (N := some 53) #[true, true, true, true, true, true, true, true, true, false, false, false, false] rfl rfl (by kernel_rfl) (by decide) (fun K hK => ?_)
            refine goes_ Try.func33 (by kernel_rfl) rfl #[.pointer (some ⟨g, 0, none⟩), .int .i64 x] (by rfl) rfl rfl (by simp only [List.map_toArray, List.map_cons, List.map_nil]; rfl) ?_
            with_reducible refine (HN.out _ (Below.drew (Below.refl _ _))).mono ?_
            rintro e w6 ⟨rfl, q2, q4⟩
            refine ⟨_, rfl, ?_⟩
            refine hK.out _ _ (q2) (fun hHeld => ?_)
            clear hK K
            refine norm_ (a' := ?_) ?_ ?_
            rotate_left
            · show Act.put _ (some 53) _ = _
              simp only [Act.put, List.setIfInBounds_toArray, List.set_cons_zero, List.set_cons_succ, i64_w, i32_w]
              rfl
            refine pure_ (i := 9) (N := some 54) (v := ?_) (a' := ?_) #[true, true, true, true, true, true, true, true, true, true, false, false, false] rfl rfl (by kernel_rfl) (fun _ _ _ h => h) (Or.inl ⟨by rfl, ?_⟩) ?_ ?_
            rotate_left
            · intro w'
              go_simp
              with_reducible rfl
            rotate_left
            · simp only [Act.put, List.setIfInBounds_toArray, List.set_cons_zero, List.set_cons_succ, i64_w, i32_w]
              rfl
            refine pure_ (i := 10) (N := some 55) (v := ?_) (a' := ?_) #[true, true, true, true, true, true, true, true, true, true, true, false, false] rfl rfl (by kernel_rfl) (fun _ _ _ h => h) (Or.inl ⟨by rfl, ?_⟩) ?_ ?_
            rotate_left
            · intro w'
              go_simp
              with_reducible rfl
            rotate_left
            · simp only [Act.put, List.setIfInBounds_toArray, List.set_cons_zero, List.set_cons_succ, i64_w, i32_w]
              rfl
            refine pure_ (i := 11) (N := some 56) (v := ?_) (a' := ?_) #[true, true, true, true, true, true, true, true, true, true, true, true, false] rfl rfl (by kernel_rfl) (fun _ _ _ h => h) (Or.inl ⟨by rfl, ?_⟩) ?_ ?_
            rotate_left
            · intro w'
              go_simp
              with_reducible rfl
            rotate_left
            · simp only [Act.put, List.setIfInBounds_toArray, List.set_cons_zero, List.set_cons_succ, i64_w, i32_w]
              rfl
            refine pure_ (i := 12) (N := some 8) (v := ?_) (a' := ?_) #[true, true, true, true, true, true, true, true, true, true, true, true, true] rfl rfl (by kernel_rfl) (fun _ _ _ h => h) (Or.inl ⟨by rfl, ?_⟩) ?_ ?_
            rotate_left
            · intro w'
              go_simp
              with_reducible rfl
            rotate_left
            · simp only [Act.put, List.setIfInBounds_toArray, List.set_cons_zero, List.set_cons_succ, i64_w, i32_w]
              rfl
            refine done_ (by kernel_rfl) ?_
            clear hHeld q0 q2
            replace HB := Aside0.mk (below_step HB.out q4.out)
            clear q4 e2
            go_wp2
            go_roundg m
            case measure => omega
            case rel => exact ⟨_, x + 1, rfl, rfl, ⟨by
              obtain ⟨j, e, hj, hall⟩ := HJ.out
              refine ⟨j + 1, by omega, by omega, ?_⟩
              have ha := hall.mp trivial
              rw [decide_eq_false_iff_not]
              constructor
              · intro h
                refine ⟨ha.1, fun i hi => ?_⟩
                rcases Nat.lt_or_ge i j with q | q
                · exact ha.2 i q
                · obtain rfl : i = j := by omega
                  rw [← e]; unfold MaxC; omega
              · intro h
                have := h.2 j (by omega)
                rw [← e] at this
                unfold MaxC at this
                omega⟩, HB⟩
    | succ m =>
      have c0b : decide (x < (on.length : Int)) = true := decide_eq_true (by obtain ⟨j, e, hj, _⟩ := HJ.out; omega)
      have hx1 : IntKind.i64.wrap (x + 1) = x + 1 := by rw [i64_w]; unfold wrap64; obtain ⟨j, e, hj, _⟩ := HJ.out; have := HL.out; omega
      have p0 : 0 ≤ x := by obtain ⟨j, e, hj, _⟩ := HJ.out; omega
      have p1 : x < (on.length : Int) := by obtain ⟨j, e, hj, _⟩ := HJ.out; omega
      obtain ⟨ad, rfl, q0⟩ := Kd.at_int (Kd.C_below HO.out HB.out) x p0 p1
      replace p0 := eq_true p0
      replace p1 := eq_true p1
      go_wp2_with fail
      refine (right.at _ _).mono ?_
      by_cases kt : tkB (rd on x) = true
      · rw [kt]
        rintro e w' ⟨rfl, hd⟩
        replace HB := Aside0.mk (below_step HB.out (Drawn0.below hd))
        clear hd q0
        go_wp2
        go_roundg m
        case measure => omega
        case rel => exact ⟨x + 1, rfl, ⟨by
          obtain ⟨j, e, hj, hall⟩ := HJ.out
          refine ⟨j + 1, by omega, by omega, fun i hi => ?_⟩
          rcases Nat.lt_or_ge i j with q | q
          · exact hall i q
          · obtain rfl : i = j := by omega
            rw [← e]; exact kt⟩, HB⟩
      · have kt : tkB (rd on x) = false := by simpa using kt
        rw [kt]
        rintro e w' ⟨rfl, hd⟩
        replace HB := Aside0.mk (below_step HB.out (Drawn0.below hd))
        clear hd q0
        go_wp2
        go_ret
        exact .inr (.inr ⟨fun h => by
          obtain ⟨j, e, hj, _⟩ := HJ.out
          have := rd_all h.2.2 j (by omega)
          rw [← e, kt] at this
          exact absurd this (by simp), rfl, HB.out⟩)
theorem RTick.at {B g : Nat} {ok : Nat → Prop} {n : Int} {v : Value} {L : List S44} (time : Int) (A0 : Option Addr) (c0 : Nat) (on : List Int) (w : World) (h : Ref w B g ok n v L) (hfresh : ∀ k, w.heap.size ≤ k → ok k) (hi : RInv n L) (hn : n ≤ 7) (hll : L.length < 4398046511104) (hon : Kd.C (Kd.int .i64) w A0 on.length on) :
    Calls Try.prog 31 #[.pointer (some ⟨g, 0, none⟩), .int .i64 time, .slice A0 on.length c0] w (RTickPost B g ok n v L time on w) := by
  by_cases ha : tkB time = true ∧ (on.length : Int) = n
  · exact RTick.go time A0 c0 on w h hfresh hi hll hon (by omega) ha.1 ha.2
  · exact RTick.arg time A0 c0 on w h ha
set_option maxHeartbeats 4000000 in
set_option maxRecDepth 100000 in
theorem RKeeps.at {B g : Nat} {ok : Nat → Prop} {n : Int} {v : Value} {L : List S44} (d : Int) (w : World) (h : Ref w B g ok n v L) (hl : L.length < 4398046511104) (hn : ∀ x ∈ L, (x.f1.length : Int) = n) (h7 : n ≤ 7) :
    Calls Try.prog 35 #[.pointer (some ⟨g, 0, none⟩), .int .i64 d] w fun e w' => e = .returned (.bool (L.all (fun x => keepsB x.f0 x.f1 d) && drB d)) ∧ Below w.heap.size w w' := by
  obtain ⟨A, c, rfl, hc, h1, h2, h3⟩ := h.cells
  have HR := Aside0.mk h3
  have HL := Aside0.mk hl
  have HN := Aside0.mk hn
  have H7 := Aside0.mk h7
  have HQ := Aside0.mk h2
  have HB := Aside0.mk (Below.refl w.heap.size w)
  clear h hc h3 hl hn h1 h7
  go_enter Try.func35, Try.ntmps35
  go_wp2
  clear h2
  go_loopg [5] L.length (fun kq v5 w2 => ∃ x : Int, v5 = .int .i64 x ∧ Aside0 (∃ j : Nat, x = (j : Int) ∧ j + kq = L.length ∧ (L.take j).all (fun x => keepsB x.f0 x.f1 d) = true) ∧ Aside0 (Below w.heap.size w w2))
  case atStart => exact ⟨0, rfl, ⟨0, rfl, by omega, by simp⟩, HB⟩
  case round =>
    clear HB
    obtain ⟨x, rfl, HJ, HB⟩ := hrel
    have h2 := pw_cell_below HB.out HQ.out
    cases gk with
    | zero =>
      have c0b : decide (x < (L.length : Int)) = false := decide_eq_false (by obtain ⟨j, e, hj, _⟩ := HJ.out; omega)
      have HE : Aside0 (L.all (fun x => keepsB x.f0 x.f1 d) = true) := ⟨by obtain ⟨j, e, hj, hs⟩ := HJ.out; rwa [List.take_of_length_le (by omega)] at hs⟩
      clear HJ
      by_cases k1 : 0 ≤ d
      · have k1b : decide (0 ≤ d) = true := decide_eq_true k1
        by_cases k2 : d ≤ 999
        · have k2b : decide (d ≤ 999) = true := decide_eq_true k2
          have HD : Aside0 (drB d = true) := ⟨drB_iff.mpr ⟨k1, k2⟩⟩
          clear k1 k2
          go_wp2
          go_ret
          exact ⟨by rw [HE.out, HD.out]; rfl, HB.out⟩
        · have k2b : decide (d ≤ 999) = false := decide_eq_false k2
          have HD : Aside0 (drB d = false) := ⟨by rw [Bool.eq_false_iff]; exact fun h => k2 (drB_iff.mp h).2⟩
          clear k1 k2
          go_wp2
          go_ret
          exact ⟨by rw [HE.out, HD.out]; rfl, HB.out⟩
      · have k1b : decide (0 ≤ d) = false := decide_eq_false k1
        have HD : Aside0 (drB d = false) := ⟨by rw [Bool.eq_false_iff]; exact fun h => k1 (drB_iff.mp h).1⟩
        clear k1
        go_wp2
        go_ret
        exact ⟨by rw [HE.out, HD.out]; rfl, HB.out⟩
    | succ m =>
      have c0b : decide (x < (L.length : Int)) = true := decide_eq_true (by obtain ⟨j, e, hj, _⟩ := HJ.out; omega)
      have hx1 : IntKind.i64.wrap (x + 1) = x + 1 := by rw [i64_w]; unfold wrap64; obtain ⟨j, e, hj, _⟩ := HJ.out; have := HL.out; omega
      have p0 : 0 ≤ x := by obtain ⟨j, e, hj, _⟩ := HJ.out; omega
      have p1 : x < (L.length : Int) := by obtain ⟨j, e, hj, _⟩ := HJ.out; omega
      obtain ⟨ad, A1, c1, rfl, q0, q1, hl1, hi1⟩ := at_T44 (Kd.C_below HR.out HB.out) x p0 p1
      have ho : ((rd_T44 L x).f1.length : Int) = n := HN.out _ (by
        unfold rd_T44
        rw [List.getD_eq_getElem?_getD, List.getElem?_eq_getElem (by omega)]
        exact List.getElem_mem _)
      have HK : Aside0 (∀ w2, Below wr.heap.size wr w2 → Calls Try.prog 32 #[.int .i64 (rd_T44 L x).f0, .slice A1 (rd_T44 L x).f1.length c1, .int .i64 d] w2 fun e w3 => e = .returned (.bool (keepsB (rd_T44 L x).f0 (rd_T44 L x).f1 d)) ∧ Aside0 (Below wr.heap.size wr w3)) := ⟨fun w2 hb2 => by
        refine (RKeepsF.at _ d A1 c1 _ w2 (Kd.C_below hi1 hb2) hl1 (by have := H7.out; omega)).mono ?_
        rintro e w3 ⟨rfl, hd⟩
        exact ⟨rfl, ⟨below_step hb2 (Drawn0.below hd)⟩⟩⟩
      have HX : Aside0 (∃ j : Nat, x = (j : Int) ∧ j < L.length ∧ (L.take j).all (fun x => keepsB x.f0 x.f1 d) = true) := ⟨by obtain ⟨j, e, hj, h⟩ := HJ.out; exact ⟨j, e, by omega, h⟩⟩
      replace p0 := eq_true p0
      replace p1 := eq_true p1
      clear hi1 hl1 ho
      go_upto_region 4 with (fail)
      refine start_ (n := 19) (S := fun w' => w'.cell? ⟨g, 1, none⟩ = some (.slice (some ad) L.length c) ∧ w'.cell? (ad.add (x.toNat * 2)) = some (.int .i64 (rd_T44 L x).f0) ∧ w'.cell? ⟨(ad.add (x.toNat * 2)).block, (ad.add (x.toNat * 2)).off + 1, none⟩ = some (.slice A1 (rd_T44 L x).f1.length c1)) (ds := [17]) #[false, false, false, false, false, false, false, false, false, false, false, false, false, false, false, false, false, false, false] (by kernel_rfl) rfl rfl ⟨h2, q0, q1⟩ (fun hHeld => ?_)
      refine pure_ (i := 0) (N := some 15) (v := ?_) (a' := ?_) #[true, false, false, false, false, false, false, false, false, false, false, false, false, false, false, false, false, false, false] rfl rfl (by kernel_rfl) (fun _ _ _ h => h) (Or.inl ⟨by rfl, ?_⟩) ?_ ?_
      rotate_left
      · intro w'
        go_simp
        with_reducible rfl
      rotate_left
      · simp only [Act.put, List.setIfInBounds_toArray, List.set_cons_zero, List.set_cons_succ, i64_w, i32_w]
        rfl
      refine pure_ (i := 1) (N := some 16) (v := ?_) (a' := ?_) #[true, true, false, false, false, false, false, false, false, false, false, false, false, false, false, false, false, false, false] rfl rfl (by kernel_rfl) (fun _ _ _ h => h) (Or.inl ⟨by rfl, ?_⟩) ?_ ?_
      rotate_left
      · intro w'
        go_simp
        with_reducible rfl
      rotate_left
      · simp only [Act.put, List.setIfInBounds_toArray, List.set_cons_zero, List.set_cons_succ, i64_w, i32_w]
        rfl
      refine pure_ (i := 2) (N := some 17) (v := ?_) (a' := ?_) #[true, true, true, false, false, false, false, false, false, false, false, false, false, false, false, false, false, false, false] rfl rfl (by kernel_rfl) (fun _ _ _ h => h) (Or.inl ⟨by rfl, ?_⟩) ?_ ?_
      rotate_left
      · intro w'
        go_simp
        with_reducible rfl
      rotate_left
      · simp only [Act.put, List.setIfInBounds_toArray, List.set_cons_zero, List.set_cons_succ, i64_w, i32_w]
        rfl
      refine pure_ (i := 4) (N := some 19) (v := ?_) (a' := ?_) #[true, true, true, false, true, false, false, false, false, false, false, false, false, false, false, false, false, false, false] rfl rfl (by kernel_rfl) (fun _ _ _ h => h) (Or.inl ⟨by rfl, ?_⟩) ?_ ?_
      rotate_left
      · intro w'
        go_simp
        with_reducible rfl
      rotate_left
      · simp only [Act.put, List.setIfInBounds_toArray, List.set_cons_zero, List.set_cons_succ, i64_w, i32_w]
        rfl
      refine pure_ (i := 8) (N := some 23) (v := ?_) (a' := ?_) #[true, true, true, false, true, false, false, false, true, false, false, false, false, false, false, false, false, false, false] rfl rfl (by kernel_rfl) (fun _ _ _ h => h) (Or.inl ⟨by rfl, ?_⟩) ?_ ?_
      rotate_left
      · intro w'
        go_simp
        with_reducible rfl
      rotate_left
      · simp only [Act.put, List.setIfInBounds_toArray, List.set_cons_zero, List.set_cons_succ, i64_w, i32_w]
        rfl
      refine pure_ (i := 9) (N := some 24) (v := ?_) (a' := ?_) #[true, true, true, false, true, false, false, false, true, true, false, false, false, false, false, false, false, false, false] rfl rfl (by kernel_rfl) (fun _ _ _ h => h) (Or.inl ⟨by rfl, ?_⟩) ?_ ?_
      rotate_left
      · intro w'
        go_simp
        with_reducible rfl
      rotate_left
      · simp only [Act.put, List.setIfInBounds_toArray, List.set_cons_zero, List.set_cons_succ, i64_w, i32_w]
        rfl
      refine pure_ (i := 10) (N := some 25) (v := ?_) (a' := ?_) #[true, true, true, false, true, false, false, false, true, true, true, false, false, false, false, false, false, false, false] rfl rfl (by kernel_rfl) (fun _ _ _ h => h) (Or.inl ⟨by rfl, ?_⟩) ?_ ?_
      rotate_left
      · intro w'
        go_simp
        with_reducible rfl
      rotate_left
      · simp only [Act.put, List.setIfInBounds_toArray, List.set_cons_zero, List.set_cons_succ, i64_w, i32_w]
        rfl
      refine pure_ (i := 12) (N := some 27) (v := ?_) (a' := ?_) #[true, true, true, false, true, false, false, false, true, true, true, false, true, false, false, false, false, false, false] rfl rfl (by kernel_rfl) (fun _ _ _ h => h) (Or.inl ⟨by rfl, ?_⟩) ?_ ?_
      rotate_left
      · intro w'
        go_simp
        with_reducible rfl
      rotate_left
      · simp only [Act.put, List.setIfInBounds_toArray, List.set_cons_zero, List.set_cons_succ, i64_w, i32_w]
        rfl
      refine pure_ (i := 16) (N := some 31) (v := ?_) (a' := ?_) #[true, true, true, false, true, false, false, false, true, true, true, false, true, false, false, false, true, false, false] rfl rfl (by kernel_rfl) (fun _ _ _ h => h) (Or.inl ⟨by rfl, ?_⟩) ?_ ?_
      rotate_left
      · intro w'
        go_simp
        with_reducible rfl
      rotate_left
      · simp only [Act.put, List.setIfInBounds_toArray, List.set_cons_zero, List.set_cons_succ, i64_w, i32_w]
        rfl
      refine take_ (i := 3) (N := some 18) (v := ?_) (a' := ?_) #[true, true, true, true, true, false, false, false, true, true, true, false, true, false, false, false, true, false, false] rfl rfl (by kernel_rfl) (fun _ _ _ h => h) (Or.inl ⟨by rfl, ?_⟩) hHeld ?_ ?_
      rotate_left
      · rintro w' ⟨s0, s1, s2⟩
        go_simp
        with_reducible rfl
      rotate_left
      · simp only [Act.put, List.setIfInBounds_toArray, List.set_cons_zero, List.set_cons_succ, i64_w, i32_w]
        rfl
      refine pure_ (i := 5) (N := some 20) (v := ?_) (a' := ?_) #[true, true, true, true, true, true, false, false, true, true, true, false, true, false, false, false, true, false, false] rfl rfl (by kernel_rfl) (fun _ _ _ h => h) (Or.inl ⟨by rfl, ?_⟩) ?_ ?_
      rotate_left
      · intro w'
        go_simp
        with_reducible rfl
      rotate_left
      · simp only [Act.put, List.setIfInBounds_toArray, List.set_cons_zero, List.set_cons_succ, i64_w, i32_w]
        rfl
      refine pure_ (i := 6) (N := some 21) (v := ?_) (a' := ?_) #[true, true, true, true, true, true, true, false, true, true, true, false, true, false, false, false, true, false, false] rfl rfl (by kernel_rfl) (fun _ _ _ h => h) (Or.inl ⟨by rfl, ?_⟩) ?_ ?_
      rotate_left
      · intro w'
        go_simp
        with_reducible rfl
      rotate_left
      · simp only [Act.put, List.setIfInBounds_toArray, List.set_cons_zero, List.set_cons_succ, i64_w, i32_w]
        rfl
      refine take_ (i := 7) (N := some 22) (v := ?_) (a' := ?_) #[true, true, true, true, true, true, true, true, true, true, true, false, true, false, false, false, true, false, false] rfl rfl (by kernel_rfl) (fun _ _ _ h => h) (Or.inl ⟨by rfl, ?_⟩) hHeld ?_ ?_
      rotate_left
      · rintro w' ⟨s0, s1, s2⟩
        go_simp
        with_reducible rfl
      rotate_left
      · simp only [Act.put, List.setIfInBounds_toArray, List.set_cons_zero, List.set_cons_succ, i64_w, i32_w]
        rfl
      refine take_ (i := 11) (N := some 26) (v := ?_) (a' := ?_) #[true, true, true, true, true, true, true, true, true, true, true, true, true, false, false, false, true, false, false] rfl rfl (by kernel_rfl) (fun _ _ _ h => h) (Or.inl ⟨by rfl, ?_⟩) hHeld ?_ ?_
      rotate_left
      · rintro w' ⟨s0, s1, s2⟩
        go_simp
        with_reducible rfl
      rotate_left
      · simp only [Act.put, List.setIfInBounds_toArray, List.set_cons_zero, List.set_cons_succ, i64_w, i32_w]
        rfl
      refine pure_ (i := 13) (N := some 28) (v := ?_) (a' := ?_) #[true, true, true, true, true, true, true, true, true, true, true, true, true, true, false, false, true, false, false] rfl rfl (by kernel_rfl) (fun _ _ _ h => h) (Or.inl ⟨by rfl, ?_⟩) ?_ ?_
      rotate_left
      · intro w'
        go_simp
        with_reducible rfl
      rotate_left
      · simp only [Act.put, List.setIfInBounds_toArray, List.set_cons_zero, List.set_cons_succ, i64_w, i32_w]
        rfl
      refine pure_ (i := 14) (N := some 29) (v := ?_) (a' := ?_) #[true, true, true, true, true, true, true, true, true, true, true, true, true, true, true, false, true, false, false] rfl rfl (by kernel_rfl) (fun _ _ _ h => h) (Or.inl ⟨by rfl, ?_⟩) ?_ ?_
      rotate_left
      · intro w'
        go_simp
        with_reducible rfl
      rotate_left
      · simp only [Act.put, List.setIfInBounds_toArray, List.set_cons_zero, List.set_cons_succ, i64_w, i32_w]
        rfl
      refine take_ (i := 15) (N := some 30) (v := ?_) (a' := ?_) #[true, true, true, true, true, true, true, true, true, true, true, true, true, true, true, true, true, false, false] rfl rfl (by kernel_rfl) (fun _ _ _ h => h) (Or.inl ⟨by rfl, ?_⟩) hHeld ?_ ?_
      rotate_left
      · rintro w' ⟨s0, s1, s2⟩
        go_simp
        with_reducible rfl
      rotate_left
      · simp only [Act.put, List.setIfInBounds_toArray, List.set_cons_zero, List.set_cons_succ, i64_w, i32_w]
        rfl
      refine last_ (i := 17) (N := some 32) #[true, true, true, true, true, true, true, true, true, true, true, true, true, true, true, true, true, true, false] rfl rfl (by kernel_rfl) (by decide) (fun K hK => ?_)
      refine goes_ Try.func32 (by kernel_rfl) rfl #[.int .i64 (rd_T44 L x).f0, .slice A1 (rd_T44 L x).f1.length c1, .int .i64 d] (by rfl) rfl rfl (by simp only [List.map_toArray, List.map_cons, List.map_nil]; rfl) ?_
      with_reducible refine (HK.out _ (Below.drew (Below.refl _ _))).mono ?_
      rintro e w6 ⟨rfl, q4⟩
      refine ⟨_, rfl, ?_⟩
      refine hK.out _ _ ?_
      clear hK K
      refine norm_ (a' := ?_) ?_ ?_
      rotate_left
      · show Act.put _ (some 32) _ = _
        simp only [Act.put, List.setIfInBounds_toArray, List.set_cons_zero, List.set_cons_succ, i64_w, i32_w]
        rfl
      refine pure_ (i := 18) (N := some 33) (v := ?_) (a' := ?_) #[true, true, true, true, true, true, true, true, true, true, true, true, true, true, true, true, true, true, true] rfl rfl (by kernel_rfl) (fun _ _ _ h => h) (Or.inl ⟨by rfl, ?_⟩) ?_ ?_
      rotate_left
      · intro w'
        go_simp
        with_reducible rfl
      rotate_left
      · simp only [Act.put, List.setIfInBounds_toArray, List.set_cons_zero, List.set_cons_succ, i64_w, i32_w]
        rfl
      refine done_ (by kernel_rfl) ?_
      clear hHeld q0 q1 h2
      replace HB := Aside0.mk (below_step HB.out q4.out)
      clear q4
      cases hk : keepsB (rd_T44 L x).f0 (rd_T44 L x).f1 d with
      | true =>
        go_wp2
        go_roundg m
        case measure => omega
        case rel => exact ⟨x + 1, rfl, ⟨by
          obtain ⟨j, e, hj, h⟩ := HX.out
          obtain ⟨j2, e2, hj2, _⟩ := HJ.out
          refine ⟨j + 1, by omega, by omega, ?_⟩
          rw [rd44_take hj, List.all_append, h, List.all_cons, ← e, hk]
          rfl⟩, HB⟩
      | false =>
        go_wp2
        go_ret
        exact ⟨by
          rw [show L.all (fun x => keepsB x.f0 x.f1 d) = false by
            rw [List.all_eq_false]
            refine ⟨rd_T44 L x, ?_, by rw [hk]; simp⟩
            unfold rd_T44
            obtain ⟨j, e, hj, _⟩ := HX.out
            rw [List.getD_eq_getElem?_getD, List.getElem?_eq_getElem (by omega)]
            exact List.getElem_mem _]
          rfl, HB.out⟩
end Go.Proofs.Ytfmcpceilkkhfaa.P
