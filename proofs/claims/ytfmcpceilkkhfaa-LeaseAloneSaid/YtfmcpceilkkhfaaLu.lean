/- lease.New, the forks, what must come of every program (lives of the lease's statements). -/
import Derived.Test.YtfmcpceilkkhfaaLt
namespace Go.Proofs.Ytfmcpceilkkhfaa.P
open Go.RowKit Go.Proofs.YtfmcpceilkkhfaaW.PrintWords Go.Proofs.YtfmcpceilkkhfaaW.PrintLast Go.Proofs.YtfmcpceilkkhfaaW.PrintMore
attribute [local go_sem] max2_int min2_int max_two min_two max_three min_three max_four min_four
set_option linter.unusedVariables false
set_option linter.unusedSimpArgs false
attribute [local go_sem high] eqA34
set_option maxHeartbeats 400000 in
theorem LFork.nil (w : World) : Calls Try.prog 45 #[.pointer none] w fun e w' => e = .returned (.pointer none) ∧ Drawn0 w w' := by
  go_enter Try.func45, Try.ntmps45
  go_wp2
  go_ret
  exact ⟨rfl, by repeat (first | exact Drawn0.refl _ | apply Drawn0.step)⟩
set_option maxHeartbeats 4000000 in
theorem LFork.at {B g b : Nat} {trust : Int} {asked : List Int} (w : World) (h : Lse w B g b asked trust) (hp : 0 < asked.length) (hl : asked.length ≤ 7) : Calls Try.prog 45 #[.pointer (some ⟨g, 0, none⟩)] w fun e w' => ∃ g2 b2, e = .returned (.pointer (some ⟨g2, 0, none⟩)) ∧ Lse w' w.heap.size g2 b2 asked trust ∧ Below w.heap.size w w' := by
  obtain ⟨c, h1, h2, hc, hr⟩ := h.cells
  have HP := Aside0.mk hp
  have HC : Aside0 (∀ w', Below w.heap.size w w' → Calls Try.prog 58 #[.slice (some ⟨b, 0, none⟩) asked.length c] w' fun e w2 => ∃ b2 c2, e = .returned (.slice (some ⟨b2, 0, none⟩) asked.length c2) ∧ w2.cell? ⟨g, 0, none⟩ = some (.slice (some ⟨b, 0, none⟩) asked.length c) ∧ w2.cell? ⟨g, 1, none⟩ = some (.int .i64 trust) ∧ Below w.heap.size w w2 ∧ Aside0 (w.heap.size ≤ b2 ∧ b2 < w2.heap.size ∧ Row w2 w.heap.size b2 asked c2)) := ⟨fun w' h0 => by
    refine (slices_Clone_int_int.calls_n (some ⟨b, 0, none⟩) c asked.length asked w' rfl (Kd.C_below hr h0) hc (by omega)).mono ?_
    rintro e w2 ⟨v, rfl, ho, hb⟩
    obtain ⟨b2, c2, rfl, hb1, hb2, hrow⟩ := Row.of_own ho hp
    have HB := below_step h0 hb
    exact ⟨b2, c2, rfl, pw_cell_below HB h1, pw_cell_below HB h2, HB, ⟨Nat.le_trans h0.size hb1, hb2, hrow _ (Nat.le_trans h0.size hb1)⟩⟩⟩
  clear h hp hc hr
  go_enter Try.func45, Try.ntmps45
  go_wp2
  go_region_held3 (fun w' => w'.cell? ⟨g, 0, none⟩ = some (.slice (some ⟨b, 0, none⟩) asked.length c) ∧ w'.cell? ⟨g, 1, none⟩ = some (.int .i64 trust) ∧ Below w.heap.size w w') (refine ⟨?_, ?_, ?_⟩ <;> first | assumption | (simp [*, World.cell?_alloc_some]; done) | exact Below.drew (Below.refl _ _) | exact below_alloc (by assumption) _)
    (first | (go_at_call 58; refine (HC.out _ ?_).mono ?_; (rename_i q _ _; exact q.2.2); rintro e w' ⟨b2, c2, rfl, q0, q1, q3, q4⟩))
  go_wp2
  go_ret
  refine ⟨w'.heap.size, b2, rfl, ⟨c2, heap_alloc_new _ _, q4.out.2.2.kept (Kept.of_below (below_alloc (Below.refl _ _) _) (fun _ => False)) (fun h => h), q3.size, q4.out.1, ?_, ?_⟩, below_alloc q3 _⟩
  · have := q4.out.2.1
    simp
    omega
  · have := q4.out.2.1
    omega
set_option maxHeartbeats 400000 in
theorem HFork.nil (w : World) : Calls Try.prog 46 #[.pointer none] w fun e w' => e = .returned (.pointer none) ∧ Drawn0 w w' := by
  go_enter Try.func46, Try.ntmps46
  go_wp2
  go_ret
  exact ⟨rfl, by repeat (first | exact Drawn0.refl _ | apply Drawn0.step)⟩
set_option maxHeartbeats 1000000 in
theorem HFork.at {B g : Nat} {ls rd nd un : Int} (w : World) (h : Hld w B g ls rd nd un) : Calls Try.prog 46 #[.pointer (some ⟨g, 0, none⟩)] w fun e w' => ∃ g2, e = .returned (.pointer (some ⟨g2, 0, none⟩)) ∧ Hld w' w.heap.size g2 ls rd nd un ∧ Below w.heap.size w w' := by
  obtain ⟨h0, h1, h2, h3, _⟩ := h.cells
  clear h
  go_enter Try.func46, Try.ntmps46
  go_wp2
  go_ret
  exact ⟨w.heap.size, by rfl, ⟨heap_alloc_new w _, Nat.le_refl _⟩, below_alloc (Below.refl _ _) _⟩
theorem Lse.fresh (w : World) (m : Nat) (trust : Int) (n : Nat) (hm : 1 ≤ m ∧ m ≤ 7) : Lse (((w.drewN n).alloc (Obj.cells (madeCells #[Value.int IntKind.i64 0] m) 3)).alloc (Obj.cells #[Value.slice (some { block := w.heap.size, off := 0 }) m m, Value.int IntKind.i64 trust] 88)) w.heap.size (w.heap.size + 1) w.heap.size (List.replicate m 0) trust ∧ Below w.heap.size w (((w.drewN n).alloc (Obj.cells (madeCells #[Value.int IntKind.i64 0] m) 3)).alloc (Obj.cells #[Value.slice (some { block := w.heap.size, off := 0 }) m m, Value.int IntKind.i64 trust] 88)) := by
  refine ⟨⟨m, ?_, ?_, ?_, ?_, ?_, ?_⟩, ?_⟩
  · rw [List.length_replicate, show w.heap.size + 1 = ((w.drewN n).alloc (Obj.cells (madeCells #[Value.int IntKind.i64 0] m) 3)).heap.size by simp]
    exact heap_alloc_new _ _
  · exact (Row.made (w.drewN n) m (Nat.le_refl _) (by omega)).kept (Kept.of_below (below_alloc (Below.refl _ _) _) (fun _ => False)) (fun h => h)
  · omega
  · omega
  · go_simp
  · omega
  · exact below_alloc (below_alloc (pw_below_drewN (Below.refl _ _) _) _) _
/-- What New lets by. -/
def lnewB (nodes long drift : Int) : Bool := decide (1 ≤ nodes) && (decide (nodes ≤ 7) && (decide (1 ≤ long) && (decide (long ≤ 1048576) && drB drift)))
set_option maxHeartbeats 4000000 in
theorem LNew.at (nodes long drift : Int) (w : World) (h : lnewB nodes long drift = true) : Calls Try.prog 12 #[.int .i64 nodes, .int .i64 long, .int .i64 drift] w fun e w' => ∃ g b, e = .returned (.tuple #[.pointer (some ⟨g, 0, none⟩), .int .i64 0]) ∧ Lse w' w.heap.size g b (List.replicate nodes.toNat (-1)) (trustI long drift) ∧ Below w.heap.size w w' := by
  simp only [lnewB, Bool.and_eq_true, decide_eq_true_eq, drB_iff] at h
  obtain ⟨h1, h2, h3, h4, h5, h6⟩ := h
  obtain ⟨m, rfl⟩ := Int.eq_ofNat_of_zero_le (show 0 ≤ nodes by omega)
  have hmk := print_make (P := Try.prog) 22 3 .i64 8 (by kernel_rfl) info3 (by decide) m (by omega)
  have HM : Aside0 (1 ≤ m ∧ m ≤ 7) := ⟨by omega⟩
  have b1 : decide ((m : Int) < 1) = false := decide_eq_false (by omega)
  have b2 : decide (7 < (m : Int)) = false := decide_eq_false (by omega)
  have b3 : decide (long < 1) = false := decide_eq_false (by omega)
  have b4 : decide (1048576 < long) = false := decide_eq_false (by omega)
  have b5 : decide (drift < 0) = false := decide_eq_false (by omega)
  have b6 : decide (1000 ≤ drift) = false := decide_eq_false (by omega)
  clear h1 h2 h3 h4 h5 h6
  go_enter Try.func12, Try.ntmps12
  go_wp2
  go_region_with (first | (go_at_call 27; refine (Trust.at _ _ _).mono ?_; rintro e w' ⟨rfl, ⟨nd, rfl⟩⟩))
  all_goals go_wp2_with fail
  all_goals refine (Clear.at _ (Lse.fresh w m _ _ HM.out).1 (by rw [List.length_replicate]; exact HM.out.2)).mono ?_
  all_goals rintro e w2 ⟨rfl, h5, h6⟩
  all_goals have H5 := Aside0.mk h5
  all_goals have H6 := Aside0.mk h6
  all_goals clear h5 h6
  all_goals go_wp2
  all_goals go_ret2
  all_goals refine ⟨w.heap.size + 1, w.heap.size, rfl, ?_, H6.out.below (fun k hk => by rcases hk with rfl | rfl <;> omega) (by simp; omega) (Lse.fresh w m _ _ HM.out).2⟩
  all_goals have h7 := H5.out
  all_goals unfold clearL at h7
  all_goals rw [List.length_replicate] at h7
  all_goals rw [Int.toNat_natCast]
  all_goals exact h7
set_option maxHeartbeats 4000000 in
theorem LNew.bad (nodes long drift : Int) (w : World) (h : lnewB nodes long drift = false) : Calls Try.prog 12 #[.int .i64 nodes, .int .i64 long, .int .i64 drift] w fun e w' => e = .returned (.tuple #[.pointer none, .int .i64 1]) ∧ Drawn0 w w' := by
  by_cases h0 : nodes < 1
  · have c0 : decide (nodes < 1) = true := decide_eq_true h0
    clear h h0
    go_enter Try.func12, Try.ntmps12
    go_wp2
    go_ret2
    exact ⟨by rfl, by repeat (first | exact Drawn0.refl _ | apply Drawn0.step)⟩
  have c0 : decide (nodes < 1) = false := decide_eq_false h0
  by_cases h1 : 7 < nodes
  · have c1 : decide (7 < nodes) = true := decide_eq_true h1
    clear h h0 h1
    go_enter Try.func12, Try.ntmps12
    go_wp2
    go_ret2
    exact ⟨by rfl, by repeat (first | exact Drawn0.refl _ | apply Drawn0.step)⟩
  have c1 : decide (7 < nodes) = false := decide_eq_false h1
  by_cases h2 : long < 1
  · have c2 : decide (long < 1) = true := decide_eq_true h2
    clear h h0 h1 h2
    go_enter Try.func12, Try.ntmps12
    go_wp2
    go_ret2
    exact ⟨by rfl, by repeat (first | exact Drawn0.refl _ | apply Drawn0.step)⟩
  have c2 : decide (long < 1) = false := decide_eq_false h2
  by_cases h3 : 1048576 < long
  · have c3 : decide (1048576 < long) = true := decide_eq_true h3
    clear h h0 h1 h2 h3
    go_enter Try.func12, Try.ntmps12
    go_wp2
    go_ret2
    exact ⟨by rfl, by repeat (first | exact Drawn0.refl _ | apply Drawn0.step)⟩
  have c3 : decide (1048576 < long) = false := decide_eq_false h3
  by_cases h4 : drift < 0
  · have c4 : decide (drift < 0) = true := decide_eq_true h4
    clear h h0 h1 h2 h3 h4
    go_enter Try.func12, Try.ntmps12
    go_wp2
    go_ret2
    exact ⟨by rfl, by repeat (first | exact Drawn0.refl _ | apply Drawn0.step)⟩
  have c4 : decide (drift < 0) = false := decide_eq_false h4
  by_cases h5 : 1000 ≤ drift
  · have c5 : decide (1000 ≤ drift) = true := decide_eq_true h5
    clear h h0 h1 h2 h3 h4 h5
    go_enter Try.func12, Try.ntmps12
    go_wp2
    go_ret2
    exact ⟨by rfl, by repeat (first | exact Drawn0.refl _ | apply Drawn0.step)⟩
  have c5 : decide (1000 ≤ drift) = false := decide_eq_false h5
  exfalso
  rw [Bool.eq_false_iff] at h
  apply h
  simp only [lnewB, Bool.and_eq_true, decide_eq_true_eq, drB_iff]
  omega
end Go.Proofs.Ytfmcpceilkkhfaa.P
