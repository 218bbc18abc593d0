/- LinSerial, walked: whatever calls it is handed, it answers true. -/
import Derived.Test.YtmijalplheoekaaLr
namespace Go.Proofs.Ytmijalplheoekaa.P
open Go.RowKit Go.Maps Go.WideMaps Go.Proofs.YtmijalplheoekaaW.PrintWords Go.Proofs.YtmijalplheoekaaW.PrintLast Go.Proofs.YtmijalplheoekaaW.PrintMore
set_option linter.unusedVariables false
set_option linter.unusedSimpArgs false
set_option maxHeartbeats 8000000 in
set_option maxRecDepth 100000 in
theorem LinSerial.at (A0 : Option Addr) (c0 : Nat) (l0 : List S31) (w : World) (hr : Kd.C k31 w A0 l0.length l0) (hc : l0.length * 48 ≤ 140737488355328) (hs : ∀ x ∈ l0, x.f1.size ≤ maxLen) :
    Calls Try.prog 5 #[.slice A0 l0.length c0] w fun e w' => e = .returned (.bool true) ∧ Below w.heap.size w w' := by
  have HR0 := Aside0.mk hr
  have HCc := Aside0.mk hc
  have HS0 := Aside0.mk hs
  clear hr hc hs
  have HLv : Aside0 (∀ W, Calls Try.prog 7 #[] W fun e w' => e = .returned (.bool true) ∧ Below W.heap.size W w') := ⟨lives.at⟩
  go_enter Try.func5, Try.ntmps5
  go_wp2_with fail
  refine (HLv.out _).mono ?_
  rintro e w1 ⟨rfl, hb⟩
  have HB := Aside0.mk hb
  clear hb
  go_wp2
  go_loopg [3, 4, 5] (min l0.length 300) (fun kq v3 v4 v5 wc => ∃ (x : Int) (T : List ByteArray) (S : List S31), v5 = .int .i64 x ∧ Aside0 (∃ j : Nat, x = (j : Int) ∧ j + kq = min l0.length 300 ∧ SL l0 j T S) ∧ Aside0 (Kd.string.R 9 wc w.heap.size (fun _ => True) v3 T) ∧ Aside0 (k31.R 31 wc w.heap.size (fun _ => True) v4 S) ∧ Aside0 (Below w.heap.size w wc))
  case atStart => exact ⟨0, [], [], rfl, ⟨0, rfl, by omega, SL.nil l0⟩, ⟨Kd.R_nil _ _ _ _ _⟩, ⟨Kd.R_nil _ _ _ _ _⟩, HB⟩
  case round =>
    clear HB
    obtain ⟨x, T, S, rfl, HJ, HT, HS, HB⟩ := hrel
    obtain ⟨AT, cT, rfl⟩ := Kd.R_slice HT.out
    obtain ⟨AS, cS, rfl⟩ := Kd.R_slice HS.out
    cases gk with
    | zero =>
      have c0b : (decide (x < (l0.length : Int)) && decide (x < 300)) = false := by
        rw [Bool.and_eq_false_iff, decide_eq_false_iff_not, decide_eq_false_iff_not]
        obtain ⟨j, e, hj, _⟩ := HJ.out
        omega
      have c0d : decide (x < (l0.length : Int)) = true ∧ decide (x < 300) = false ∨ decide (x < (l0.length : Int)) = false := by
        by_cases q : x < (l0.length : Int)
        · left
          refine ⟨decide_eq_true q, decide_eq_false ?_⟩
          obtain ⟨j, e, hj, _⟩ := HJ.out
          omega
        · right
          exact decide_eq_false q
      have hrS := Kd.R_reads' HS.out
      have hrT := Kd.R_reads' HT.out
      have HC3 : Aside0 (Calls Try.prog 9 #[.slice AS S.length cS, .slice AT T.length cT] wr fun e w' => e = .returned (.int .i64 0) ∧ Below wr.heap.size wr w') := ⟨by
        obtain ⟨j, e, hj, hsl⟩ := HJ.out
        have h1 := Check.at AS cS S AT cT T wr ⟨hrS.2.2, hrT.2.2, hrS.2.1, by have := hsl.ls; omega, by have := hsl.lt; omega, hsl.ss, hsl.st⟩
        rw [(checkC_zero (by decide) (by decide)).2 (hsl.okay (by omega))] at h1
        exact h1⟩
      clear hrS hrT c0b HJ
      rcases c0d with ⟨c0b, c0c⟩ | c0b
      · go_wp2_with fail
        refine HC3.out.mono ?_
        rintro e w4 ⟨rfl, hb⟩
        have HB4 := Aside0.mk (below_step HB.out hb)
        clear hb
        go_wp2
        go_ret
        exact ⟨rfl, HB4.out⟩
      · go_wp2_with fail
        refine HC3.out.mono ?_
        rintro e w4 ⟨rfl, hb⟩
        have HB4 := Aside0.mk (below_step HB.out hb)
        clear hb
        go_wp2
        go_ret
        exact ⟨rfl, HB4.out⟩
    | succ m =>
      have c0b : decide (x < (l0.length : Int)) = true := decide_eq_true (by obtain ⟨j, e, hj, _⟩ := HJ.out; omega)
      have c0c : decide (x < 300) = true := decide_eq_true (by obtain ⟨j, e, hj, _⟩ := HJ.out; omega)
      have HX : Aside0 (0 ≤ x ∧ x < (l0.length : Int) ∧ x < 300) := ⟨by obtain ⟨j, e, hj, _⟩ := HJ.out; omega⟩
      have hx1 : IntKind.i64.wrap (x + 1) = x + 1 := by rw [i64_w]; unfold wrap64; have := HX.out; omega
      have hx2 : IntKind.i64.wrap (2 * x) = 2 * x := by rw [i64_w]; unfold wrap64; have := HX.out; omega
      have hx3 : IntKind.i64.wrap (2 * x + 1) = 2 * x + 1 := by rw [i64_w]; unfold wrap64; have := HX.out; omega
      have hx4 : IntKind.i64.wrap (2 * x + 2) = 2 * x + 2 := by rw [i64_w]; unfold wrap64; have := HX.out; omega
      have c1 : 0 ≤ x := HX.out.1
      have c2 : x < (l0.length : Int) := HX.out.2.1
      obtain ⟨ad, rfl, q0, q1, q2, q3, q4⟩ := at_T31 (Kd.C_below HR0.out HB.out) x c1 c2
      clear q2 q3 q4
      obtain ⟨fc, efc⟩ : ∃ f, (rd_T31 l0 x).f0 = f := ⟨_, rfl⟩
      obtain ⟨ft, eft⟩ : ∃ f, (rd_T31 l0 x).f1 = f := ⟨_, rfl⟩
      have HFc := Aside0.mk efc
      have HFt := Aside0.mk eft
      rw [efc] at q0
      rw [eft] at q1
      clear efc eft
      replace c1 := eq_true c1
      replace c2 := eq_true c2
      go_upto_region 8 with (fail)
      refine start_ (n := 19) (S := fun w' => w'.cell? (ad.add (x.toNat * 5)) = some (.bool fc) ∧ w'.cell? ⟨(ad.add (x.toNat * 5)).block, (ad.add (x.toNat * 5)).off + 1, none⟩ = some (.string ft)) (ds := [18]) #[false, false, false, false, false, false, false, false, false, false, false, false, false, false, false, false, false, false, false] (by kernel_rfl) rfl rfl ⟨q0, q1⟩ (fun hHeld => ?_)
      refine pure_ (i := 0) (N := some 20) (v := ?_) (a' := ?_) #[true, false, false, false, false, false, false, false, false, false, false, false, false, false, false, false, false, false, false] rfl rfl (by kernel_rfl) (fun _ _ _ h => h) (Or.inl ⟨by rfl, ?_⟩) ?_ ?_
      rotate_left
      · intro w'
        go_simp
        with_reducible rfl
      rotate_left
      · simp only [Act.put, List.setIfInBounds_toArray, List.set_cons_zero, List.set_cons_succ, i64_w, i32_w]
        rfl
      refine pure_ (i := 1) (N := some 21) (v := ?_) (a' := ?_) #[true, true, false, false, false, false, false, false, false, false, false, false, false, false, false, false, false, false, false] rfl rfl (by kernel_rfl) (fun _ _ _ h => h) (Or.inl ⟨by rfl, ?_⟩) ?_ ?_
      rotate_left
      · intro w'
        go_simp
        with_reducible rfl
      rotate_left
      · simp only [Act.put, List.setIfInBounds_toArray, List.set_cons_zero, List.set_cons_succ, i64_w, i32_w]
        rfl
      refine pure_ (i := 2) (N := some 22) (v := ?_) (a' := ?_) #[true, true, true, false, false, false, false, false, false, false, false, false, false, false, false, false, false, false, false] rfl rfl (by kernel_rfl) (fun _ _ _ h => h) (Or.inl ⟨by rfl, ?_⟩) ?_ ?_
      rotate_left
      · intro w'
        go_simp
        with_reducible rfl
      rotate_left
      · simp only [Act.put, List.setIfInBounds_toArray, List.set_cons_zero, List.set_cons_succ, i64_w, i32_w]
        rfl
      refine pure_ (i := 3) (N := some 23) (v := ?_) (a' := ?_) #[true, true, true, true, false, false, false, false, false, false, false, false, false, false, false, false, false, false, false] rfl rfl (by kernel_rfl) (fun _ _ _ h => h) (Or.inl ⟨by rfl, ?_⟩) ?_ ?_
      rotate_left
      · intro w'
        go_simp
        with_reducible rfl
      rotate_left
      · simp only [Act.put, List.setIfInBounds_toArray, List.set_cons_zero, List.set_cons_succ, i64_w, i32_w]
        rfl
      refine pure_ (i := 5) (N := some 25) (v := ?_) (a' := ?_) #[true, true, true, true, false, true, false, false, false, false, false, false, false, false, false, false, false, false, false] rfl rfl (by kernel_rfl) (fun _ _ _ h => h) (Or.inl ⟨by rfl, ?_⟩) ?_ ?_
      rotate_left
      · intro w'
        go_simp
        with_reducible rfl
      rotate_left
      · simp only [Act.put, List.setIfInBounds_toArray, List.set_cons_zero, List.set_cons_succ, i64_w, i32_w]
        rfl
      refine pure_ (i := 6) (N := some 26) (v := ?_) (a' := ?_) #[true, true, true, true, false, true, true, false, false, false, false, false, false, false, false, false, false, false, false] rfl rfl (by kernel_rfl) (fun _ _ _ h => h) (Or.inl ⟨by rfl, ?_⟩) ?_ ?_
      rotate_left
      · intro w'
        go_simp
        with_reducible rfl
      rotate_left
      · simp only [Act.put, List.setIfInBounds_toArray, List.set_cons_zero, List.set_cons_succ, i64_w, i32_w]
        rfl
      refine pure_ (i := 7) (N := some 27) (v := ?_) (a' := ?_) #[true, true, true, true, false, true, true, true, false, false, false, false, false, false, false, false, false, false, false] rfl rfl (by kernel_rfl) (fun _ _ _ h => h) (Or.inl ⟨by rfl, ?_⟩) ?_ ?_
      rotate_left
      · intro w'
        go_simp
        with_reducible rfl
      rotate_left
      · simp only [Act.put, List.setIfInBounds_toArray, List.set_cons_zero, List.set_cons_succ, i64_w, i32_w]
        rfl
      refine pure_ (i := 8) (N := some 28) (v := ?_) (a' := ?_) #[true, true, true, true, false, true, true, true, true, false, false, false, false, false, false, false, false, false, false] rfl rfl (by kernel_rfl) (fun _ _ _ h => h) (Or.inl ⟨by rfl, ?_⟩) ?_ ?_
      rotate_left
      · intro w'
        go_simp
        with_reducible rfl
      rotate_left
      · simp only [Act.put, List.setIfInBounds_toArray, List.set_cons_zero, List.set_cons_succ, i64_w, i32_w]
        rfl
      refine pure_ (i := 10) (N := some 30) (v := ?_) (a' := ?_) #[true, true, true, true, false, true, true, true, true, false, true, false, false, false, false, false, false, false, false] rfl rfl (by kernel_rfl) (fun _ _ _ h => h) (Or.inl ⟨by rfl, ?_⟩) ?_ ?_
      rotate_left
      · intro w'
        go_simp
        with_reducible rfl
      rotate_left
      · simp only [Act.put, List.setIfInBounds_toArray, List.set_cons_zero, List.set_cons_succ, i64_w, i32_w]
        rfl
      refine pure_ (i := 11) (N := some 31) (v := ?_) (a' := ?_) #[true, true, true, true, false, true, true, true, true, false, true, true, false, false, false, false, false, false, false] rfl rfl (by kernel_rfl) (fun _ _ _ h => h) (Or.inl ⟨by rfl, ?_⟩) ?_ ?_
      rotate_left
      · intro w'
        go_simp
        with_reducible rfl
      rotate_left
      · simp only [Act.put, List.setIfInBounds_toArray, List.set_cons_zero, List.set_cons_succ, i64_w, i32_w]
        rfl
      refine pure_ (i := 12) (N := some 32) (v := ?_) (a' := ?_) #[true, true, true, true, false, true, true, true, true, false, true, true, true, false, false, false, false, false, false] rfl rfl (by kernel_rfl) (fun _ _ _ h => h) (Or.inl ⟨by rfl, ?_⟩) ?_ ?_
      rotate_left
      · intro w'
        go_simp
        with_reducible rfl
      rotate_left
      · simp only [Act.put, List.setIfInBounds_toArray, List.set_cons_zero, List.set_cons_succ, i64_w, i32_w]
        rfl
      refine pure_ (i := 13) (N := some 33) (v := ?_) (a' := ?_) #[true, true, true, true, false, true, true, true, true, false, true, true, true, true, false, false, false, false, false] rfl rfl (by kernel_rfl) (fun _ _ _ h => h) (Or.inl ⟨by rfl, ?_⟩) ?_ ?_
      rotate_left
      · intro w'
        go_simp
        with_reducible rfl
      rotate_left
      · simp only [Act.put, List.setIfInBounds_toArray, List.set_cons_zero, List.set_cons_succ, i64_w, i32_w]
        rfl
      refine pure_ (i := 14) (N := some 34) (v := ?_) (a' := ?_) #[true, true, true, true, false, true, true, true, true, false, true, true, true, true, true, false, false, false, false] rfl rfl (by kernel_rfl) (fun _ _ _ h => h) (Or.inl ⟨by rfl, ?_⟩) ?_ ?_
      rotate_left
      · intro w'
        go_simp
        with_reducible rfl
      rotate_left
      · simp only [Act.put, List.setIfInBounds_toArray, List.set_cons_zero, List.set_cons_succ, i64_w, i32_w]
        rfl
      refine pure_ (i := 15) (N := some 35) (v := ?_) (a' := ?_) #[true, true, true, true, false, true, true, true, true, false, true, true, true, true, true, true, false, false, false] rfl rfl (by kernel_rfl) (fun _ _ _ h => h) (Or.inl ⟨by rfl, ?_⟩) ?_ ?_
      rotate_left
      · intro w'
        go_simp
        with_reducible rfl
      rotate_left
      · simp only [Act.put, List.setIfInBounds_toArray, List.set_cons_zero, List.set_cons_succ, i64_w, i32_w]
        rfl
      refine take_ (i := 4) (N := some 24) (v := ?_) (a' := ?_) #[true, true, true, true, true, true, true, true, true, false, true, true, true, true, true, true, false, false, false] rfl rfl (by kernel_rfl) (fun _ _ _ h => h) (Or.inl ⟨by rfl, ?_⟩) hHeld ?_ ?_
      rotate_left
      · rintro w' ⟨s0, s1⟩
        go_simp
        with_reducible rfl
      rotate_left
      · simp only [Act.put, List.setIfInBounds_toArray, List.set_cons_zero, List.set_cons_succ, i64_w, i32_w]
        rfl
      refine take_ (i := 9) (N := some 29) (v := ?_) (a' := ?_) #[true, true, true, true, true, true, true, true, true, true, true, true, true, true, true, true, false, false, false] rfl rfl (by kernel_rfl) (fun _ _ _ h => h) (Or.inl ⟨by rfl, ?_⟩) hHeld ?_ ?_
      rotate_left
      · rintro w' ⟨s0, s1⟩
        go_simp
        with_reducible rfl
      rotate_left
      · simp only [Act.put, List.setIfInBounds_toArray, List.set_cons_zero, List.set_cons_succ, i64_w, i32_w]
        rfl
      refine pure_ (i := 16) (N := some 36) (v := ?_) (a' := ?_) #[true, true, true, true, true, true, true, true, true, true, true, true, true, true, true, true, true, false, false] rfl rfl (by kernel_rfl) (fun _ _ _ h => h) (Or.inl ⟨by rfl, ?_⟩) ?_ ?_
      rotate_left
      · intro w'
        go_simp
        with_reducible rfl
      rotate_left
      · simp only [Act.put, List.setIfInBounds_toArray, List.set_cons_zero, List.set_cons_succ, i64_w, i32_w]
        rfl
      refine one_ (i := 17) (N := some 6) #[true, true, true, true, true, true, true, true, true, true, true, true, true, true, true, true, true, true, false] rfl rfl (by kernel_rfl) (by decide) (fun K hK => ?_)
      refine value_ (w1 := ?_) (v := ?_) (by rfl) rfl ?_ ?_
      rotate_left 2
      · go_simp
        constructor
        · rfl
        · rfl
      refine hK.out _ _ ⟨(pw_cell_below (below_alloc (Below.refl _ _) _) q0), (pw_cell_below (below_alloc (Below.refl _ _) _) q1)⟩ (fun hHeld => ?_)
      clear hK K
      refine norm_ (a' := ?_) ?_ ?_
      rotate_left
      · show Act.put _ (some 6) _ = _
        simp only [Act.put, List.setIfInBounds_toArray, List.set_cons_zero, List.set_cons_succ, i64_w, i32_w]
        rfl
      refine last_ (i := 18) (N := none) #[true, true, true, true, true, true, true, true, true, true, true, true, true, true, true, true, true, true, true] rfl rfl (by kernel_rfl) (by decide) (fun K hK => ?_)
      refine skip_ (w1 := ?_) (by rfl) rfl ?_ ?_
      rotate_left
      · go_simp
        rfl
      refine hK.out _ _ ?_
      clear hK K
      refine done_ (by kernel_rfl) ?_
      clear hHeld q0 q1
      obtain ⟨bo, ebo⟩ : ∃ bo, wr.heap.size = bo := ⟨_, rfl⟩
      have HX1 : Aside0 (BX w (wr.alloc (Obj.cells #[.bool fc, .string ft, .int .i64 (2 * x + 1), .int .i64 (2 * x + 2), .int .i64 0] 31)).drew bo fc ft (2 * x + 1) (2 * x + 2) 0 (.slice AT T.length cT) (.slice AS S.length cS) T S) := ⟨BX.drew ⟨below_alloc HB.out _, by rw [← ebo]; exact HB.out.size, by rw [← ebo]; exact blk_new _ _, Kd.R_alloc HT.out _, Kd.R_alloc (Kd.R_mono (Kd.R_bound HS.out) (fun k hk => by have := hk.2.2.1; omega)) _⟩⟩
      obtain ⟨wb, ewb⟩ : ∃ wb, (wr.alloc (Obj.cells #[.bool fc, .string ft, .int .i64 (2 * x + 1), .int .i64 (2 * x + 2), .int .i64 0] 31)).drew = wb := ⟨_, rfl⟩
      rw [ewb, ebo]
      rw [ewb] at HX1
      clear ewb ebo HT HS HB
      go_wp2
      go_loopg [7] T.length (fun kq v7 wx => ∃ (y id : Int), v7 = .int .i64 y ∧ Aside0 (∃ q : Nat, y = (q : Int) ∧ q + kq = T.length ∧ id = num ft.toList ((toks T).take q)) ∧ Aside0 (BX w wx bo fc ft (2 * x + 1) (2 * x + 2) id (.slice AT T.length cT) (.slice AS S.length cS) T S))
      case atStart => exact ⟨0, 0, rfl, ⟨0, rfl, by omega, by simp [num]⟩, HX1⟩
      case round =>
        clear HX1
        obtain ⟨y, id, rfl, HQ, HX1⟩ := hrel
        have o0 : wr.cell? ⟨bo, 0, none⟩ = some (.bool fc) := (blk_cell HX1.out.box 0).trans rfl
        have o1 : wr.cell? ⟨bo, 1, none⟩ = some (.string ft) := (blk_cell HX1.out.box 1).trans rfl
        have o2 : wr.cell? ⟨bo, 2, none⟩ = some (.int .i64 (2 * x + 1)) := (blk_cell HX1.out.box 2).trans rfl
        have o3 : wr.cell? ⟨bo, 3, none⟩ = some (.int .i64 (2 * x + 2)) := (blk_cell HX1.out.box 3).trans rfl
        have o4 : wr.cell? ⟨bo, 4, none⟩ = some (.int .i64 id) := (blk_cell HX1.out.box 4).trans rfl
        cases gk with
        | zero =>
          have d0 : decide (y < (T.length : Int)) = false := decide_eq_false (by obtain ⟨q, e, hq, _⟩ := HQ.out; omega)
          have HN : Aside0 (num ft.toList (toks T) = id) := ⟨by
            obtain ⟨q, e, hq, hid⟩ := HQ.out
            rw [hid, List.take_of_length_le (by unfold toks; rw [List.length_map]; omega)]⟩
          by_cases k1 : id = 0 ∧ fc = true
          · obtain ⟨k1, k2⟩ := k1
            subst k1; subst k2
            have f4 : wr.frozen? ⟨bo, 4, none⟩ = false := blk_frozen HX1.out.box _
            go_upto_region 16 with (((with_reducible refine gate_builtin (b := .append) (xs := #[.tmp 60, .tmp 63]) rfl ?_); at_builtin; refine Kd.R_append Kd.string (w0 := w) w.heap.size rfl (.tmp 60) (.tmp 63) 23 9 (.string (⟨#[]⟩ : ByteArray)) 16 rfl Try.underlying23 info9 rfl (by decide) (by decide) (.slice AT T.length cT) T ft [.string ft] (fun _ => True) (fun _ => False) rfl rfl rfl (fun _ h => h.elim) (fun _ _ => trivial) HX1.out.rT HX1.out.bl HX1.out.bl.size ?hl ?_; (case hl => obtain ⟨j, e, hj, hsl⟩ := HJ.out; have := hsl.lt; omega); intro v2 w2 ho hb hg hat; obtain ⟨A2, c2', rfl⟩ := Kd.R_slice ho; have HX2 : Aside0 (BX w w2 bo true ft (2 * x + 1) (2 * x + 2) 0 (.slice A2 (T ++ [ft]).length c2') (.slice AS S.length cS) (T ++ [ft]) S) := ⟨hb, HX1.out.nw, (hg.block bo (blk_lt HX1.out.box) (Kd.R_ne HX1.out.rT HX1.out.box (by decide))).trans HX1.out.box, ho, Kd.R_over HX1.out.rS HX1.out.rT (by decide) hg⟩; clear ho hb hg hat))
            clear o0 o1 o2 o3 o4 f4
            rw [List.length_append, List.length_singleton] at HX2
            have o4 : w2.cell? ⟨bo, 4, none⟩ = some (.int .i64 0) := (blk_cell HX2.out.box 4).trans rfl
            have f4 : w2.frozen? ⟨bo, 4, none⟩ = false := blk_frozen HX2.out.box _
            go_upto_region 17 with (fail)
            have HX3 := Aside0.mk (HX2.out.setId ((T.length : Int) + 1))
            obtain ⟨w3, ew3⟩ : ∃ w3, w2.setCell ⟨bo, 4, none⟩ (.int .i64 ((T.length : Int) + 1)) = w3 := ⟨_, rfl⟩
            rw [ew3] at HX3 ⊢
            clear ew3 HX2 HX1 o4 f4
            have o0 : w3.cell? ⟨bo, 0, none⟩ = some (.bool true) := (blk_cell HX3.out.box 0).trans rfl
            have o1 : w3.cell? ⟨bo, 1, none⟩ = some (.string ft) := (blk_cell HX3.out.box 1).trans rfl
            have o2 : w3.cell? ⟨bo, 2, none⟩ = some (.int .i64 (2 * x + 1)) := (blk_cell HX3.out.box 2).trans rfl
            have o3 : w3.cell? ⟨bo, 3, none⟩ = some (.int .i64 (2 * x + 2)) := (blk_cell HX3.out.box 3).trans rfl
            have o4 : w3.cell? ⟨bo, 4, none⟩ = some (.int .i64 ((T.length : Int) + 1)) := (blk_cell HX3.out.box 4).trans rfl
            go_wp2_with (((with_reducible refine gate_builtin (b := .append) (xs := #[.tmp 68, .tmp 70]) rfl ?_); at_builtin; refine Kd.R_append k31 (w0 := w) w.heap.size rfl (.tmp 68) (.tmp 70) 22 31 (.agg #[.bool false, .string (⟨#[]⟩ : ByteArray), .int .i64 0, .int .i64 0, .int .i64 0]) 48 rfl Try.underlying22 info31s rfl (by decide) (by decide) (.slice AS S.length cS) S (⟨true, ft, 2 * x + 1, 2 * x + 2, (T.length : Int) + 1⟩ : S31) _ (fun k => k ≠ bo) (fun _ => False) rfl rfl (k31_mkM _ _ _ (⟨true, ft, 2 * x + 1, 2 * x + 2, (T.length : Int) + 1⟩ : S31)) (fun _ h => h.elim) (fun k hk => by have := blk_lt HX3.out.box; omega) HX3.out.rS HX3.out.bl HX3.out.bl.size ?hl ?_; (case hl => obtain ⟨j, e, hj, hsl⟩ := HJ.out; have := hsl.ls; omega); intro v2 w2 ho hb hg hat; have HT2 := Aside0.mk (Kd.R_over HX3.out.rT HX3.out.rS (by decide) hg); have HS2 := Aside0.mk (Kd.R_mono ho (fun _ _ => trivial)); have HB2 := Aside0.mk hb; clear ho hb hg hat))
            go_roundg m
            case measure => omega
            case rel => exact ⟨x + 1, T ++ [ft], _, rfl, ⟨by
              obtain ⟨j, e, hj, hsl⟩ := HJ.out
              have h := hsl.add HS0.out (by omega) (by omega) (t := ft) (by rw [← e]; exact HFc.out) (by rw [← e]; exact HFt.out) HN.out
              rw [← e] at h
              exact ⟨j + 1, by omega, by omega, h⟩⟩, HT2, HS2, HB2⟩
          · have HK := Aside0.mk k1
            have HE : Aside0 (((id == 0) && fc) = false) := ⟨by
              cases fc with
              | false => simp
              | true => simp; exact fun e => HK.out ⟨e, rfl⟩⟩
            have kb : (id == 0) = true ∧ fc = false ∨ (id == 0) = false := by
              by_cases q : (id == 0) = true
              · left
                refine ⟨q, ?_⟩
                have := HE.out
                rw [q] at this
                simpa using this
              · right
                simpa using q
            clear k1
            rcases kb with ⟨kb, kc⟩ | kb
            · subst kc
              go_wp2_with (((with_reducible refine gate_builtin (b := .append) (xs := #[.tmp 68, .tmp 70]) rfl ?_); at_builtin; refine Kd.R_append k31 (w0 := w) w.heap.size rfl (.tmp 68) (.tmp 70) 22 31 (.agg #[.bool false, .string (⟨#[]⟩ : ByteArray), .int .i64 0, .int .i64 0, .int .i64 0]) 48 rfl Try.underlying22 info31s rfl (by decide) (by decide) (.slice AS S.length cS) S (⟨false, ft, 2 * x + 1, 2 * x + 2, id⟩ : S31) _ (fun k => k ≠ bo) (fun _ => False) rfl rfl (k31_mkM _ _ _ (⟨false, ft, 2 * x + 1, 2 * x + 2, id⟩ : S31)) (fun _ h => h.elim) (fun k hk => by have := blk_lt HX1.out.box; omega) HX1.out.rS HX1.out.bl HX1.out.bl.size ?hl ?_; (case hl => obtain ⟨j, e, hj, hsl⟩ := HJ.out; have := hsl.ls; omega); intro v2 w2 ho hb hg hat; have HT2 := Aside0.mk (Kd.R_over HX1.out.rT HX1.out.rS (by decide) hg); have HS2 := Aside0.mk (Kd.R_mono ho (fun _ _ => trivial)); have HB2 := Aside0.mk hb; clear ho hb hg hat))
              go_roundg m
              case measure => omega
              case rel => exact ⟨x + 1, T, _, rfl, ⟨by
                obtain ⟨j, e, hj, hsl⟩ := HJ.out
                have h := hsl.more HS0.out (by omega) (by omega) (c := false) (t := ft) (by rw [← e]; exact HFc.out) (by rw [← e]; exact HFt.out) HN.out HK.out
                rw [← e] at h
                exact ⟨j + 1, by omega, by omega, h⟩⟩, HT2, HS2, HB2⟩
            · go_wp2_with (((with_reducible refine gate_builtin (b := .append) (xs := #[.tmp 68, .tmp 70]) rfl ?_); at_builtin; refine Kd.R_append k31 (w0 := w) w.heap.size rfl (.tmp 68) (.tmp 70) 22 31 (.agg #[.bool false, .string (⟨#[]⟩ : ByteArray), .int .i64 0, .int .i64 0, .int .i64 0]) 48 rfl Try.underlying22 info31s rfl (by decide) (by decide) (.slice AS S.length cS) S (⟨fc, ft, 2 * x + 1, 2 * x + 2, id⟩ : S31) _ (fun k => k ≠ bo) (fun _ => False) rfl rfl (k31_mkM _ _ _ (⟨fc, ft, 2 * x + 1, 2 * x + 2, id⟩ : S31)) (fun _ h => h.elim) (fun k hk => by have := blk_lt HX1.out.box; omega) HX1.out.rS HX1.out.bl HX1.out.bl.size ?hl ?_; (case hl => obtain ⟨j, e, hj, hsl⟩ := HJ.out; have := hsl.ls; omega); intro v2 w2 ho hb hg hat; have HT2 := Aside0.mk (Kd.R_over HX1.out.rT HX1.out.rS (by decide) hg); have HS2 := Aside0.mk (Kd.R_mono ho (fun _ _ => trivial)); have HB2 := Aside0.mk hb; clear ho hb hg hat))
              go_roundg m
              case measure => omega
              case rel => exact ⟨x + 1, T, _, rfl, ⟨by
                obtain ⟨j, e, hj, hsl⟩ := HJ.out
                have h := hsl.more HS0.out (by omega) (by omega) (c := fc) (t := ft) (by rw [← e]; exact HFc.out) (by rw [← e]; exact HFt.out) HN.out HK.out
                rw [← e] at h
                exact ⟨j + 1, by omega, by omega, h⟩⟩, HT2, HS2, HB2⟩
        | succ m2 =>
          have d0 : decide (y < (T.length : Int)) = true := decide_eq_true (by obtain ⟨q, e, hq, _⟩ := HQ.out; omega)
          have hy1 : IntKind.i64.wrap (y + 1) = y + 1 := by rw [i64_w]; unfold wrap64; obtain ⟨q, e, hq, _⟩ := HQ.out; obtain ⟨j, e2, hj, hsl⟩ := HJ.out; have := hsl.lt; omega
          have c1 : 0 ≤ y := by obtain ⟨q, e, hq, _⟩ := HQ.out; omega
          have c2 : y < (T.length : Int) := by obtain ⟨q, e, hq, _⟩ := HQ.out; omega
          obtain ⟨adT, e129, hx129⟩ := Kd.at_string (Kd.R_reads' HX1.out.rT).2.2 y c1 c2
          cases e129
          replace c1 := eq_true c1
          replace c2 := eq_true c2
          have f4 : wr.frozen? ⟨bo, 4, none⟩ = false := blk_frozen HX1.out.box _
          have HNt : Aside0 (∀ q : Nat, y = (q : Int) → q < T.length → num ft.toList ((toks T).take (q + 1)) = if (rdOf ByteArray.empty T y).toList = ft.toList then (q : Int) + 1 else num ft.toList ((toks T).take q)) := ⟨fun q e h => by
            obtain ⟨j, e2, hj, hsl⟩ := HJ.out
            rw [e]
            exact num_take hsl.nd ft h⟩
          by_cases hq : (rdOf ByteArray.empty T y).toList = ft.toList
          · have c5b0 : ((rdOf ByteArray.empty T y).toList == ft.toList) = true := beq_iff_eq.mpr hq
            have HQq := Aside0.mk hq
            clear hq
            go_upto_region 12 with (fail)
            refine start_ (n := 7) (S := fun w' => w'.cell? (adT.add y.toNat) = some (.string (rdOf ByteArray.empty T y)) ∧ w'.cell? ⟨bo, 1, none⟩ = some (.string ft)) (ds := []) #[false, false, false, false, false, false, false] (by kernel_rfl) rfl rfl ⟨hx129, o1⟩ (fun hHeld => ?_)
            refine pure_ (i := 0) (N := some 43) (v := ?_) (a' := ?_) #[true, false, false, false, false, false, false] rfl rfl (by kernel_rfl) (fun _ _ _ h => h) (Or.inl ⟨by rfl, ?_⟩) ?_ ?_
            rotate_left
            · intro w'
              go_simp
              with_reducible rfl
            rotate_left
            · simp only [Act.put, List.setIfInBounds_toArray, List.set_cons_zero, List.set_cons_succ, i64_w, i32_w]
              rfl
            refine pure_ (i := 1) (N := some 44) (v := ?_) (a' := ?_) #[true, true, false, false, false, false, false] rfl rfl (by kernel_rfl) (fun _ _ _ h => h) (Or.inl ⟨by rfl, ?_⟩) ?_ ?_
            rotate_left
            · intro w'
              go_simp
              with_reducible rfl
            rotate_left
            · simp only [Act.put, List.setIfInBounds_toArray, List.set_cons_zero, List.set_cons_succ, i64_w, i32_w]
              rfl
            refine pure_ (i := 2) (N := some 45) (v := ?_) (a' := ?_) #[true, true, true, false, false, false, false] rfl rfl (by kernel_rfl) (fun _ _ _ h => h) (Or.inl ⟨by rfl, ?_⟩) ?_ ?_
            rotate_left
            · intro w'
              go_simp
              with_reducible rfl
            rotate_left
            · simp only [Act.put, List.setIfInBounds_toArray, List.set_cons_zero, List.set_cons_succ, i64_w, i32_w]
              rfl
            refine pure_ (i := 4) (N := some 47) (v := ?_) (a' := ?_) #[true, true, true, false, true, false, false] rfl rfl (by kernel_rfl) (fun _ _ _ h => h) (Or.inl ⟨by rfl, ?_⟩) ?_ ?_
            rotate_left
            · intro w'
              go_simp
              with_reducible rfl
            rotate_left
            · simp only [Act.put, List.setIfInBounds_toArray, List.set_cons_zero, List.set_cons_succ, i64_w, i32_w]
              rfl
            refine take_ (i := 3) (N := some 46) (v := ?_) (a' := ?_) #[true, true, true, true, true, false, false] rfl rfl (by kernel_rfl) (fun _ _ _ h => h) (Or.inl ⟨by rfl, ?_⟩) hHeld ?_ ?_
            rotate_left
            · rintro w' ⟨s0, s1⟩
              go_simp
              with_reducible rfl
            rotate_left
            · simp only [Act.put, List.setIfInBounds_toArray, List.set_cons_zero, List.set_cons_succ, i64_w, i32_w]
              rfl
            refine take_ (i := 5) (N := some 48) (v := ?_) (a' := ?_) #[true, true, true, true, true, true, false] rfl rfl (by kernel_rfl) (fun _ _ _ h => h) (Or.inl ⟨by rfl, ?_⟩) hHeld ?_ ?_
            rotate_left
            · rintro w' ⟨s0, s1⟩
              go_simp
              with_reducible rfl
            rotate_left
            · simp only [Act.put, List.setIfInBounds_toArray, List.set_cons_zero, List.set_cons_succ, i64_w, i32_w]
              rfl
            refine pure_ (i := 6) (N := some 49) (v := ?_) (a' := ?_) #[true, true, true, true, true, true, true] rfl rfl (by kernel_rfl) (fun _ _ _ h => h) (Or.inl ⟨by rfl, ?_⟩) ?_ ?_
            rotate_left
            · intro w'
              go_simp
              with_reducible rfl
            rotate_left
            · simp only [Act.put, List.setIfInBounds_toArray, List.set_cons_zero, List.set_cons_succ, i64_w, i32_w]
              rfl
            refine done_ (by kernel_rfl) ?_
            clear hHeld
            go_wp2
            go_roundg m2
            case measure => omega
            case rel => exact ⟨y + 1, y + 1, rfl, ⟨by
              obtain ⟨q, e, hq, hid⟩ := HQ.out
              refine ⟨q + 1, by omega, by omega, ?_⟩
              rw [HNt.out q e (by omega), if_pos HQq.out, e]⟩, ⟨HX1.out.drew.setId (y + 1)⟩⟩
          · have c5b0 : ((rdOf ByteArray.empty T y).toList == ft.toList) = false := beq_eq_false_iff_ne.mpr hq
            have HQq := Aside0.mk hq
            clear hq
            go_upto_region 12 with (fail)
            refine start_ (n := 7) (S := fun w' => w'.cell? (adT.add y.toNat) = some (.string (rdOf ByteArray.empty T y)) ∧ w'.cell? ⟨bo, 1, none⟩ = some (.string ft)) (ds := []) #[false, false, false, false, false, false, false] (by kernel_rfl) rfl rfl ⟨hx129, o1⟩ (fun hHeld => ?_)
            refine pure_ (i := 0) (N := some 43) (v := ?_) (a' := ?_) #[true, false, false, false, false, false, false] rfl rfl (by kernel_rfl) (fun _ _ _ h => h) (Or.inl ⟨by rfl, ?_⟩) ?_ ?_
            rotate_left
            · intro w'
              go_simp
              with_reducible rfl
            rotate_left
            · simp only [Act.put, List.setIfInBounds_toArray, List.set_cons_zero, List.set_cons_succ, i64_w, i32_w]
              rfl
            refine pure_ (i := 1) (N := some 44) (v := ?_) (a' := ?_) #[true, true, false, false, false, false, false] rfl rfl (by kernel_rfl) (fun _ _ _ h => h) (Or.inl ⟨by rfl, ?_⟩) ?_ ?_
            rotate_left
            · intro w'
              go_simp
              with_reducible rfl
            rotate_left
            · simp only [Act.put, List.setIfInBounds_toArray, List.set_cons_zero, List.set_cons_succ, i64_w, i32_w]
              rfl
            refine pure_ (i := 2) (N := some 45) (v := ?_) (a' := ?_) #[true, true, true, false, false, false, false] rfl rfl (by kernel_rfl) (fun _ _ _ h => h) (Or.inl ⟨by rfl, ?_⟩) ?_ ?_
            rotate_left
            · intro w'
              go_simp
              with_reducible rfl
            rotate_left
            · simp only [Act.put, List.setIfInBounds_toArray, List.set_cons_zero, List.set_cons_succ, i64_w, i32_w]
              rfl
            refine pure_ (i := 4) (N := some 47) (v := ?_) (a' := ?_) #[true, true, true, false, true, false, false] rfl rfl (by kernel_rfl) (fun _ _ _ h => h) (Or.inl ⟨by rfl, ?_⟩) ?_ ?_
            rotate_left
            · intro w'
              go_simp
              with_reducible rfl
            rotate_left
            · simp only [Act.put, List.setIfInBounds_toArray, List.set_cons_zero, List.set_cons_succ, i64_w, i32_w]
              rfl
            refine take_ (i := 3) (N := some 46) (v := ?_) (a' := ?_) #[true, true, true, true, true, false, false] rfl rfl (by kernel_rfl) (fun _ _ _ h => h) (Or.inl ⟨by rfl, ?_⟩) hHeld ?_ ?_
            rotate_left
            · rintro w' ⟨s0, s1⟩
              go_simp
              with_reducible rfl
            rotate_left
            · simp only [Act.put, List.setIfInBounds_toArray, List.set_cons_zero, List.set_cons_succ, i64_w, i32_w]
              rfl
            refine take_ (i := 5) (N := some 48) (v := ?_) (a' := ?_) #[true, true, true, true, true, true, false] rfl rfl (by kernel_rfl) (fun _ _ _ h => h) (Or.inl ⟨by rfl, ?_⟩) hHeld ?_ ?_
            rotate_left
            · rintro w' ⟨s0, s1⟩
              go_simp
              with_reducible rfl
            rotate_left
            · simp only [Act.put, List.setIfInBounds_toArray, List.set_cons_zero, List.set_cons_succ, i64_w, i32_w]
              rfl
            refine pure_ (i := 6) (N := some 49) (v := ?_) (a' := ?_) #[true, true, true, true, true, true, true] rfl rfl (by kernel_rfl) (fun _ _ _ h => h) (Or.inl ⟨by rfl, ?_⟩) ?_ ?_
            rotate_left
            · intro w'
              go_simp
              with_reducible rfl
            rotate_left
            · simp only [Act.put, List.setIfInBounds_toArray, List.set_cons_zero, List.set_cons_succ, i64_w, i32_w]
              rfl
            refine done_ (by kernel_rfl) ?_
            clear hHeld
            go_wp2
            go_roundg m2
            case measure => omega
            case rel => exact ⟨y + 1, id, rfl, ⟨by
              obtain ⟨q, e, hq, hid⟩ := HQ.out
              refine ⟨q + 1, by omega, by omega, ?_⟩
              rw [HNt.out q e (by omega), if_neg HQq.out, hid]⟩, ⟨HX1.out.drew⟩⟩
end Go.Proofs.Ytmijalplheoekaa.P
