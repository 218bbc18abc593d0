/- The clocks of package clock: contracts of its methods. -/
import Derived.Test.YtfmcpceilkkhfaaKp
import Derived.Test.YtfmcpceilkkhfaaP58
namespace Go.Proofs.Ytfmcpceilkkhfaa.P
open Go.RowKit Go.Proofs.YtfmcpceilkkhfaaW.PrintWords Go.Proofs.YtfmcpceilkkhfaaW.PrintLast Go.Proofs.YtfmcpceilkkhfaaW.PrintMore
attribute [local go_sem] max2_int min2_int max_two min_two max_three min_three max_four min_four
set_option linter.unusedVariables false
set_option linter.unusedSimpArgs false
/-- The clocks lie in block g, their row in block b. -/
def Clk (W : World) (B g b : Nat) (t : Int) (now : List Int) (dr : Int) : Prop := ∃ c, W.heap[g]? = some (.cells #[.int .i64 t, .slice (some ⟨b, 0, none⟩) now.length c, .int .i64 dr] 94 (0, 0)) ∧ Row W B b now c ∧ B ≤ g ∧ B ≤ b ∧ b < W.heap.size ∧ g ≠ b
theorem Clk.kept {W W' : World} {B g b : Nat} {t dr : Int} {now : List Int} {S : Nat → Prop} (h : Clk W B g b t now dr) (hk : Kept W W' S) (hg : ¬ S g) (hb : ¬ S b) : Clk W' B g b t now dr := by
  obtain ⟨c, h1, h2, h3, h4, h5, h6⟩ := h
  exact ⟨c, blk_kept h1 hk hg, h2.kept hk hb, h3, h4, Nat.lt_of_lt_of_le h5 hk.1, h6⟩
theorem Clk.below {W W' : World} {B g b : Nat} {t dr : Int} {now : List Int} (h : Clk W B g b t now dr) (hb : Below W.heap.size W W') : Clk W' B g b t now dr := h.kept (Kept.of_below hb (fun _ => False)) (fun h => h) (fun h => h)
theorem Clk.cells {W : World} {B g b : Nat} {t dr : Int} {now : List Int} (h : Clk W B g b t now dr) : ∃ c, W.cell? ⟨g, 0, none⟩ = some (.int .i64 t) ∧ W.cell? ⟨g, 1, none⟩ = some (.slice (some ⟨b, 0, none⟩) now.length c) ∧ W.cell? ⟨g, 2, none⟩ = some (.int .i64 dr) ∧ now.length ≤ c ∧ Kd.C (Kd.int .i64) W (some ⟨b, 0, none⟩) now.length now := by
  obtain ⟨c, h1, h2, _⟩ := h
  exact ⟨c, (blk_cell h1 0).trans rfl, (blk_cell h1 1).trans rfl, (blk_cell h1 2).trans rfl, h2.reads.1, h2.reads.2⟩
set_option maxHeartbeats 400000 in
theorem made.nil (w : World) : Calls Try.prog 51 #[.pointer none] w fun e w' => e = .returned (.bool false) ∧ Drawn0 w w' := by
  go_enter Try.func51, Try.ntmps51
  go_wp2
  go_ret
  exact ⟨rfl, by repeat (first | exact Drawn0.refl _ | apply Drawn0.step)⟩
set_option maxHeartbeats 400000 in
theorem made.at {B g b : Nat} {t dr : Int} {now : List Int} (w : World) (h : Clk w B g b t now dr) (hp : 0 < now.length) : Calls Try.prog 51 #[.pointer (some ⟨g, 0, none⟩)] w fun e w' => e = .returned (.bool true) ∧ Drawn0 w w' := by
  obtain ⟨c, _, h2, _⟩ := h.cells
  have hpb : decide (0 < (now.length : Int)) = true := decide_eq_true (by omega)
  have HP := Aside0.mk hp
  clear h hp
  go_enter Try.func51, Try.ntmps51
  go_wp2
  go_ret
  exact ⟨by simp [HP.out], by repeat (first | exact Drawn0.refl _ | apply Drawn0.step)⟩
set_option maxHeartbeats 400000 in
theorem Time.nil (w : World) : Calls Try.prog 25 #[.pointer none] w fun e w' => e = .returned (.int .i64 0) ∧ Drawn0 w w' := by
  go_enter Try.func25, Try.ntmps25
  go_wp2_with fail
  refine (made.nil _).mono ?_
  rintro e w' ⟨rfl, ⟨nd, rfl⟩⟩
  go_wp2
  go_ret
  exact ⟨rfl, ⟨nd, rfl⟩⟩
set_option maxHeartbeats 400000 in
theorem Time.at {B g b : Nat} {t dr : Int} {now : List Int} (w : World) (h : Clk w B g b t now dr) (hp : 0 < now.length) : Calls Try.prog 25 #[.pointer (some ⟨g, 0, none⟩)] w fun e w' => e = .returned (.int .i64 t) ∧ Drawn0 w w' := by
  have HM := Aside0.mk (made.at w h hp)
  obtain ⟨c, h1, _⟩ := h.cells
  clear h hp
  go_enter Try.func25, Try.ntmps25
  go_wp2_with fail
  refine HM.out.mono ?_
  rintro e w' ⟨rfl, ⟨nd, rfl⟩⟩
  go_wp2
  go_ret
  exact ⟨rfl, ⟨nd, rfl⟩⟩

set_option maxHeartbeats 400000 in
theorem CKeeps.nil (d : Int) (w : World) : Calls Try.prog 22 #[.pointer none, .int .i64 d] w fun e w' => e = .returned (.bool false) ∧ Drawn0 w w' := by
  go_enter Try.func22, Try.ntmps22
  go_wp2_with fail
  refine (made.nil _).mono ?_
  rintro e w' ⟨rfl, ⟨nd, rfl⟩⟩
  go_wp2
  go_ret
  exact ⟨rfl, ⟨nd, rfl⟩⟩
set_option maxHeartbeats 400000 in
theorem CKeeps.at (d : Int) {B g b : Nat} {t dr : Int} {now : List Int} (w : World) (h : Clk w B g b t now dr) (hp : 0 < now.length) : Calls Try.prog 22 #[.pointer (some ⟨g, 0, none⟩), .int .i64 d] w fun e w' => e = .returned (.bool (drB d && decide (dr ≤ d))) ∧ Drawn0 w w' := by
  have HM := Aside0.mk (made.at w h hp)
  obtain ⟨c, _, _, h3, _⟩ := h.cells
  clear h hp
  by_cases k : drB d = true
  · go_enter Try.func22, Try.ntmps22
    go_wp2_with fail
    refine HM.out.mono ?_
    rintro e w' ⟨rfl, ⟨nd, rfl⟩⟩
    go_wp2_with fail
    refine (isDrift.at _ _).mono ?_
    rintro e w' ⟨rfl, ⟨nd2, rfl⟩⟩
    go_wp2
    go_ret
    exact ⟨by rw [k]; rfl, ⟨_, rfl⟩⟩
  · have k : drB d = false := by simpa using k
    go_enter Try.func22, Try.ntmps22
    go_wp2_with fail
    refine HM.out.mono ?_
    rintro e w' ⟨rfl, ⟨nd, rfl⟩⟩
    go_wp2_with fail
    refine (isDrift.at _ _).mono ?_
    rintro e w' ⟨rfl, ⟨nd2, rfl⟩⟩
    go_wp2
    go_ret
    exact ⟨by rw [k]; rfl, ⟨_, rfl⟩⟩
def nowAt (l : List Int) (n : Int) : Int := if 0 ≤ n ∧ n < (l.length : Int) then rd l n else 0
set_option maxHeartbeats 400000 in
theorem Now.nil (n : Int) (w : World) : Calls Try.prog 26 #[.pointer none, .int .i64 n] w fun e w' => e = .returned (.int .i64 0) ∧ Drawn0 w w' := by
  go_enter Try.func26, Try.ntmps26
  go_wp2_with fail
  refine (made.nil _).mono ?_
  rintro e w' ⟨rfl, ⟨nd, rfl⟩⟩
  go_wp2
  go_ret
  exact ⟨rfl, ⟨nd, rfl⟩⟩
set_option maxHeartbeats 1000000 in
theorem Now.at (n : Int) {B g b : Nat} {t dr : Int} {now : List Int} (w : World) (h : Clk w B g b t now dr) (hp : 0 < now.length) (hl : now.length ≤ 7) : Calls Try.prog 26 #[.pointer (some ⟨g, 0, none⟩), .int .i64 n] w fun e w' => e = .returned (.int .i64 (nowAt now n)) ∧ Drawn0 w w' := by
  have HM := Aside0.mk (made.at w h hp)
  obtain ⟨c, _, h2, _, hc, hr⟩ := h.cells
  have HR := Aside0.mk hr
  have e1 : IntKind.i64.wrap ((now.length : Int) - 1) = (now.length : Int) - 1 := by rw [i64_w]; unfold wrap64; omega
  clear h hp hc hr
  by_cases k : 0 ≤ n ∧ n < (now.length : Int)
  · have HN : Aside0 (nowAt now n = rd now n) := ⟨if_pos k⟩
    have k1 : (decide (0 ≤ n) && decide (n ≤ (now.length : Int) - 1)) = true := by rw [decide_eq_true k.1, decide_eq_true (show n ≤ (now.length : Int) - 1 by omega)]; rfl
    obtain ⟨c1, c2⟩ := k
    obtain ⟨ad, ea, hcell⟩ := Kd.at_int HR.out n c1 c2
    rw [ea] at h2
    replace c1 := eq_true c1
    replace c2 := eq_true c2
    clear hl
    go_enter Try.func26, Try.ntmps26
    go_wp2_with fail
    refine HM.out.mono ?_
    rintro e w' ⟨rfl, ⟨nd, rfl⟩⟩
    go_wp2_with fail
    refine (within.at _ _ _ _).mono ?_
    rw [k1]
    rintro e w' ⟨rfl, ⟨nd2, rfl⟩⟩
    go_wp2
    go_ret
    exact ⟨by rw [HN.out]; rfl, ⟨_, rfl⟩⟩
  · have HN : Aside0 (nowAt now n = 0) := ⟨if_neg k⟩
    have k1 : (decide (0 ≤ n) && decide (n ≤ (now.length : Int) - 1)) = false := by
      rw [Bool.and_eq_false_iff, decide_eq_false_iff_not, decide_eq_false_iff_not]
      omega
    clear k hl
    go_enter Try.func26, Try.ntmps26
    go_wp2_with fail
    refine HM.out.mono ?_
    rintro e w' ⟨rfl, ⟨nd, rfl⟩⟩
    go_wp2_with fail
    refine (within.at _ _ _ _).mono ?_
    rw [k1]
    rintro e w' ⟨rfl, ⟨nd2, rfl⟩⟩
    go_wp2
    go_ret
    exact ⟨by rw [HN.out]; rfl, ⟨_, rfl⟩⟩
set_option maxHeartbeats 1000000 in
theorem New.bad (n : Int) (w : World) (hn : ¬ (1 ≤ n ∧ n ≤ 7)) : Calls Try.prog 20 #[.int .i64 n] w fun e w' => e = .returned (.tuple #[.pointer none, .int .i64 1]) ∧ Drawn0 w w' := by
  have k1 : (decide (1 ≤ n) && decide (n ≤ 7)) = false := by
    rw [Bool.and_eq_false_iff, decide_eq_false_iff_not, decide_eq_false_iff_not]
    omega
  clear hn
  go_enter Try.func20, Try.ntmps20
  go_wp2_with fail
  refine (within.at _ _ _ _).mono ?_
  rw [k1]
  rintro e w' ⟨rfl, ⟨nd2, rfl⟩⟩
  go_wp2
  go_ret2
  exact ⟨by rfl, ⟨_, rfl⟩⟩
theorem Row.made (W : World) {B : Nat} (m : Nat) (hB : B ≤ W.heap.size) (hm : m ≤ 9223372036854775807) : Row (W.alloc (.cells (madeCells #[.int .i64 0] m) 3)) B W.heap.size (List.replicate m 0) m := by
  have h := own_made W B 3 .i64 m hB hm
  unfold Row
  rw [List.length_replicate]
  refine Kd.R_of_own (by rw [List.length_replicate]; exact h) (fun k e => by injection e with e; exact e.symm)
set_option maxHeartbeats 1000000 in
theorem New.at (n : Int) (w : World) (h1 : 1 ≤ n) (h2 : n ≤ 7) : Calls Try.prog 20 #[.int .i64 n] w fun e w' => ∃ g b, e = .returned (.tuple #[.pointer (some ⟨g, 0, none⟩), .int .i64 0]) ∧ Clk w' w.heap.size g b 0 (List.replicate n.toNat 0) 0 ∧ Below w.heap.size w w' := by
  have k1 : (decide (1 ≤ n) && decide (n ≤ 7)) = true := by rw [decide_eq_true h1, decide_eq_true h2]; rfl
  obtain ⟨m, rfl⟩ := Int.eq_ofNat_of_zero_le (show 0 ≤ n by omega)
  have hmk := print_make (P := Try.prog) 22 3 .i64 8 (by kernel_rfl) info3 (by decide) m (by omega)
  have HM : Aside0 (1 ≤ m ∧ m ≤ 7) := ⟨by omega⟩
  clear h1 h2
  go_enter Try.func20, Try.ntmps20
  go_wp2_with fail
  refine (within.at _ _ _ _).mono ?_
  rw [k1]
  rintro e w' ⟨rfl, ⟨nd2, rfl⟩⟩
  go_wp2
  go_ret2
  have hm := HM.out
  have e0 : ((m : Int)).toNat = m := Int.toNat_natCast m
  rw [e0]
  refine ⟨w.heap.size + 1, w.heap.size, by rfl, ⟨m, ?_, ?_, ?_, ?_, ?_, ?_⟩, ?_⟩
  · rw [List.length_replicate, show w.heap.size + 1 = ((w.drewN nd2).alloc (Obj.cells (madeCells #[Value.int IntKind.i64 0] m) 3)).heap.size by simp]
    exact heap_alloc_new _ _
  · exact (Row.made (w.drewN nd2) m (Nat.le_refl _) (by omega)).kept (Kept.of_below (below_alloc (Below.refl _ _) _) (fun _ => False)) (fun h => h)
  · omega
  · omega
  · go_simp
  · omega
  · exact below_alloc (below_alloc (pw_below_drewN (Below.refl _ _) _) _) _

set_option maxHeartbeats 400000 in
theorem Tick.nil (n : Int) (v : Value) (w : World) : Calls Try.prog 24 #[.pointer none, .int .i64 n, v] w fun e w' => e = .returned (.int .i64 6) ∧ Drawn0 w w' := by
  go_enter Try.func24, Try.ntmps24
  go_wp2_with fail
  refine (made.nil _).mono ?_
  rintro e w' ⟨rfl, ⟨nd, rfl⟩⟩
  go_wp2
  go_ret
  exact ⟨rfl, ⟨nd, rfl⟩⟩
set_option maxHeartbeats 400000 in
theorem Fork.nil (w : World) : Calls Try.prog 30 #[.pointer none] w fun e w' => e = .returned (.pointer none) ∧ Drawn0 w w' := by
  go_enter Try.func30, Try.ntmps30
  go_wp2_with fail
  refine (made.nil _).mono ?_
  rintro e w' ⟨rfl, ⟨nd, rfl⟩⟩
  go_wp2
  go_ret
  exact ⟨rfl, ⟨nd, rfl⟩⟩
set_option maxHeartbeats 4000000 in
theorem Fork.at {B g b : Nat} {t dr : Int} {now : List Int} (w : World) (h : Clk w B g b t now dr) (hp : 0 < now.length) (hl : now.length ≤ 7) : Calls Try.prog 30 #[.pointer (some ⟨g, 0, none⟩)] w fun e w' => ∃ g2 b2, e = .returned (.pointer (some ⟨g2, 0, none⟩)) ∧ Clk w' w.heap.size g2 b2 t now dr ∧ Below w.heap.size w w' := by
  have HM := Aside0.mk (made.at w h hp)
  obtain ⟨c, h1, h2, h3, hc, hr⟩ := h.cells
  have HP := Aside0.mk hp
  have HC : Aside0 (∀ w', Below w.heap.size w w' → Calls Try.prog 58 #[.slice (some ⟨b, 0, none⟩) now.length c] w' fun e w2 => ∃ b2 c2, e = .returned (.slice (some ⟨b2, 0, none⟩) now.length c2) ∧ w2.cell? ⟨g, 0, none⟩ = some (.int .i64 t) ∧ w2.cell? ⟨g, 1, none⟩ = some (.slice (some ⟨b, 0, none⟩) now.length c) ∧ w2.cell? ⟨g, 2, none⟩ = some (.int .i64 dr) ∧ Below w.heap.size w w2 ∧ Aside0 (w.heap.size ≤ b2 ∧ b2 < w2.heap.size ∧ Row w2 w.heap.size b2 now c2)) := ⟨fun w' h0 => by
    refine (slices_Clone_int_int.calls_n (some ⟨b, 0, none⟩) c now.length now w' rfl (Kd.C_below hr h0) hc (by omega)).mono ?_
    rintro e w2 ⟨v, rfl, ho, hb⟩
    obtain ⟨b2, c2, rfl, hb1, hb2, hrow⟩ := Row.of_own ho hp
    have HB := below_step h0 hb
    exact ⟨b2, c2, rfl, pw_cell_below HB h1, pw_cell_below HB h2, pw_cell_below HB h3, HB, ⟨Nat.le_trans h0.size hb1, hb2, hrow _ (Nat.le_trans h0.size hb1)⟩⟩⟩
  clear h hp hc hr
  go_enter Try.func30, Try.ntmps30
  go_wp2_with fail
  refine HM.out.mono ?_
  rintro e w' ⟨rfl, ⟨nd, rfl⟩⟩
  go_wp2_with fail
  go_region_held3 (fun w' => w'.cell? ⟨g, 0, none⟩ = some (.int .i64 t) ∧ w'.cell? ⟨g, 1, none⟩ = some (.slice (some ⟨b, 0, none⟩) now.length c) ∧ w'.cell? ⟨g, 2, none⟩ = some (.int .i64 dr) ∧ Below w.heap.size w w') (refine ⟨?_, ?_, ?_, ?_⟩ <;> first | assumption | (simp [*, World.cell?_alloc_some]; done) | exact Below.drew (pw_below_drewN (Below.refl _ _) _) | exact below_alloc (by assumption) _)
    (first | (go_at_call 58; refine (HC.out _ ?_).mono ?_; (rename_i q _ _; exact q.2.2.2); rintro e w' ⟨b2, c2, rfl, q0, q1, q2, q3, q4⟩))
  go_wp2
  go_ret
  refine ⟨w'.heap.size, b2, rfl, ⟨c2, heap_alloc_new _ _, q4.out.2.2.kept (Kept.of_below (below_alloc (Below.refl _ _) _) (fun _ => False)) (fun h => h), q3.size, q4.out.1, ?_, ?_⟩, below_alloc q3 _⟩
  · have := q4.out.2.1
    simp
    omega
  · have := q4.out.2.1
    omega
end Go.Proofs.Ytfmcpceilkkhfaa.P
