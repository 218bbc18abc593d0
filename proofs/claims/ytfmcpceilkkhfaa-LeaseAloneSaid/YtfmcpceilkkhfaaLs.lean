/- Leases and holds of package lease: contracts of the methods. -/
import Derived.Test.YtfmcpceilkkhfaaLv
import Derived.Test.YtfmcpceilkkhfaaEq
import Derived.Test.YtfmcpceilkkhfaaP47
import Derived.Test.YtfmcpceilkkhfaaP48
namespace Go.Proofs.Ytfmcpceilkkhfaa.P
open Go.RowKit Go.Proofs.YtfmcpceilkkhfaaW.PrintWords Go.Proofs.YtfmcpceilkkhfaaW.PrintLast Go.Proofs.YtfmcpceilkkhfaaW.PrintMore
attribute [local go_sem] max2_int min2_int max_two min_two max_three min_three max_four min_four
set_option linter.unusedVariables false
set_option linter.unusedSimpArgs false
attribute [local go_sem high] eqA34
def nowB (n : Int) : Bool := decide (0 ≤ n) && decide (n ≤ 1152921504606846976)
theorem nowB_iff {n : Int} : nowB n = true ↔ 0 ≤ n ∧ n ≤ MaxC := by simp [nowB, MaxC]
theorem isNow_is (n : Int) : lease_isNow.f n = some (nowB n) := by
  unfold lease_isNow.f nowB
  by_cases h : n ≥ 0
  · rw [if_pos h, decide_eq_true (show 0 ≤ n from h)]; rfl
  · rw [if_neg h, decide_eq_false (show ¬ 0 ≤ n from h)]; rfl
theorem isNow.at (n : Int) (w : World) : Calls Try.prog 47 #[.int .i64 n] w fun e w' => e = .returned (.bool (nowB n)) ∧ Drawn0 w w' := lease_isNow.calls n _ w (isNow_is n)
/-- A hold: how long, to which ballot, until when. -/
def Hld (W : World) (B g : Nat) (ls rd nd un : Int) : Prop := W.heap[g]? = some (.cells #[.int .i64 ls, .int .i64 rd, .int .i64 nd, .int .i64 un] 90 (0, 0)) ∧ B ≤ g
theorem Hld.kept {W W' : World} {B g : Nat} {ls rd nd un : Int} {S : Nat → Prop} (h : Hld W B g ls rd nd un) (hk : Kept W W' S) (hg : ¬ S g) : Hld W' B g ls rd nd un := ⟨blk_kept h.1 hk hg, h.2⟩
theorem Hld.below {W W' : World} {B g : Nat} {ls rd nd un : Int} (h : Hld W B g ls rd nd un) (hb : Below W.heap.size W W') : Hld W' B g ls rd nd un := h.kept (Kept.of_below hb (fun _ => False)) (fun h => h)
theorem Hld.lt {W : World} {B g : Nat} {ls rd nd un : Int} (h : Hld W B g ls rd nd un) : g < W.heap.size := blk_lt h.1
theorem Hld.cells {W : World} {B g : Nat} {ls rd nd un : Int} (h : Hld W B g ls rd nd un) : W.cell? ⟨g, 0, none⟩ = some (.int .i64 ls) ∧ W.cell? ⟨g, 1, none⟩ = some (.int .i64 rd) ∧ W.cell? ⟨g, 2, none⟩ = some (.int .i64 nd) ∧ W.cell? ⟨g, 3, none⟩ = some (.int .i64 un) ∧ (∀ i, W.frozen? ⟨g, i, none⟩ = false) :=
  ⟨(blk_cell h.1 0).trans rfl, (blk_cell h.1 1).trans rfl, (blk_cell h.1 2).trans rfl, (blk_cell h.1 3).trans rfl, fun i => blk_frozen h.1 i⟩
set_option maxHeartbeats 400000 in
theorem NewHold.bad (n : Int) (w : World) (hn : ¬ (1 ≤ n ∧ n ≤ 1048576)) : Calls Try.prog 13 #[.int .i64 n] w fun e w' => e = .returned (.tuple #[.pointer none, .int .i64 1]) ∧ Drawn0 w w' := by
  by_cases h : n < 1
  · have b1 : decide (n < 1) = true := decide_eq_true h
    clear hn h
    go_enter Try.func13, Try.ntmps13
    go_wp2
    go_ret2
    exact ⟨by rfl, by repeat (first | exact Drawn0.refl _ | apply Drawn0.step)⟩
  · have b1 : decide (n < 1) = false := decide_eq_false h
    have b2 : decide (1048576 < n) = true := decide_eq_true (by omega)
    clear hn h
    go_enter Try.func13, Try.ntmps13
    go_wp2
    go_ret2
    exact ⟨by rfl, by repeat (first | exact Drawn0.refl _ | apply Drawn0.step)⟩
set_option maxHeartbeats 400000 in
theorem NewHold.at (n : Int) (w : World) (h1 : 1 ≤ n) (h2 : n ≤ 1048576) : Calls Try.prog 13 #[.int .i64 n] w fun e w' => ∃ g, e = .returned (.tuple #[.pointer (some ⟨g, 0, none⟩), .int .i64 0]) ∧ Hld w' w.heap.size g n 0 0 0 ∧ Below w.heap.size w w' := by
  have b1 : decide (n < 1) = false := decide_eq_false (by omega)
  have b2 : decide (1048576 < n) = false := decide_eq_false (by omega)
  clear h1 h2
  go_enter Try.func13, Try.ntmps13
  go_wp2
  go_ret2
  exact ⟨w.heap.size, by rfl, ⟨heap_alloc_new w _, Nat.le_refl _⟩, below_alloc (Below.refl _ _) _⟩
set_option maxHeartbeats 400000 in
theorem Until.nil (w : World) : Calls Try.prog 18 #[.pointer none] w fun e w' => e = .returned (.int .i64 0) ∧ Drawn0 w w' := by
  go_enter Try.func18, Try.ntmps18
  go_wp2
  go_ret
  exact ⟨rfl, by repeat (first | exact Drawn0.refl _ | apply Drawn0.step)⟩
set_option maxHeartbeats 400000 in
theorem Until.at {B g : Nat} {ls rd nd un : Int} (w : World) (h : Hld w B g ls rd nd un) : Calls Try.prog 18 #[.pointer (some ⟨g, 0, none⟩)] w fun e w' => e = .returned (.int .i64 un) ∧ Drawn0 w w' := by
  obtain ⟨_, _, _, h3, _⟩ := h.cells
  clear h
  go_enter Try.func18, Try.ntmps18
  go_wp2
  go_ret
  exact ⟨rfl, by repeat (first | exact Drawn0.refl _ | apply Drawn0.step)⟩
def blocksB (rd nd un b0 b1 now : Int) : Bool := decide (now < un) && !(b0 == rd && b1 == nd)
set_option maxHeartbeats 4000000 in
theorem Blocks.nil (b0 b1 now : Int) (w : World) : Calls Try.prog 19 #[.pointer none, .agg #[.int .i64 b0, .int .i64 b1], .int .i64 now] w fun e w' => e = .returned (.bool false) ∧ Below w.heap.size w w' := by
  go_enter Try.func19, Try.ntmps19
  go_wp2
  refine start_ (n := 19) (S := fun w' => True) (ds := []) #[false, false, false, false, false, false, false, false, false, false, false, false, false, false, false, false, false, false, false] (by kernel_rfl) rfl rfl trivial (fun hHeld => ?_)
  refine pure_ (i := 0) (N := some 7) (v := ?_) (a' := ?_) #[true, false, false, false, false, false, false, false, false, false, false, false, false, false, false, false, false, false, false] rfl rfl (by kernel_rfl) (fun _ _ _ h => h) (Or.inl ⟨by rfl, ?_⟩) ?_ ?_
  rotate_left
  · intro w'
    go_simp
    with_reducible rfl
  rotate_left
  · simp only [Act.put, List.setIfInBounds_toArray, List.set_cons_zero, List.set_cons_succ, i64_w, i32_w]
    rfl
  refine pure_ (i := 1) (N := some 8) (v := ?_) (a' := ?_) #[true, true, false, false, false, false, false, false, false, false, false, false, false, false, false, false, false, false, false] rfl rfl (by kernel_rfl) (fun _ _ _ h => h) (Or.inl ⟨by rfl, ?_⟩) ?_ ?_
  rotate_left
  · intro w'
    go_simp
    with_reducible rfl
  rotate_left
  · simp only [Act.put, List.setIfInBounds_toArray, List.set_cons_zero, List.set_cons_succ, i64_w, i32_w]
    rfl
  refine pure_ (i := 2) (N := some 9) (v := ?_) (a' := ?_) #[true, true, true, false, false, false, false, false, false, false, false, false, false, false, false, false, false, false, false] rfl rfl (by kernel_rfl) (fun _ _ _ h => h) (Or.inl ⟨by rfl, ?_⟩) ?_ ?_
  rotate_left
  · intro w'
    go_simp
    with_reducible rfl
  rotate_left
  · simp only [Act.put, List.setIfInBounds_toArray, List.set_cons_zero, List.set_cons_succ, i64_w, i32_w]
    rfl
  refine pure_ (i := 3) (N := some 10) (v := undef) (a' := ?_) #[true, true, true, true, false, false, false, false, false, false, false, false, false, false, false, false, false, false, false] rfl rfl (by kernel_rfl) (fun _ _ _ h => h) (Or.inr ⟨by rfl, rfl⟩) ?_ ?_
  rotate_left
  · simp only [Act.put, List.setIfInBounds_toArray, List.set_cons_zero, List.set_cons_succ, i64_w, i32_w]
    rfl
  refine pure_ (i := 4) (N := some 11) (v := undef) (a' := ?_) #[true, true, true, true, true, false, false, false, false, false, false, false, false, false, false, false, false, false, false] rfl rfl (by kernel_rfl) (fun _ _ _ h => h) (Or.inr ⟨by rfl, rfl⟩) ?_ ?_
  rotate_left
  · simp only [Act.put, List.setIfInBounds_toArray, List.set_cons_zero, List.set_cons_succ, i64_w, i32_w]
    rfl
  refine pure_ (i := 5) (N := some 12) (v := undef) (a' := ?_) #[true, true, true, true, true, true, false, false, false, false, false, false, false, false, false, false, false, false, false] rfl rfl (by kernel_rfl) (fun _ _ _ h => h) (Or.inr ⟨by rfl, rfl⟩) ?_ ?_
  rotate_left
  · simp only [Act.put, List.setIfInBounds_toArray, List.set_cons_zero, List.set_cons_succ, i64_w, i32_w]
    rfl
  refine pure_ (i := 6) (N := some 13) (v := undef) (a' := ?_) #[true, true, true, true, true, true, true, false, false, false, false, false, false, false, false, false, false, false, false] rfl rfl (by kernel_rfl) (fun _ _ _ h => h) (Or.inr ⟨by rfl, rfl⟩) ?_ ?_
  rotate_left
  · simp only [Act.put, List.setIfInBounds_toArray, List.set_cons_zero, List.set_cons_succ, i64_w, i32_w]
    rfl
  refine pure_ (i := 7) (N := some 14) (v := undef) (a' := ?_) #[true, true, true, true, true, true, true, true, false, false, false, false, false, false, false, false, false, false, false] rfl rfl (by kernel_rfl) (fun _ _ _ h => h) (Or.inr ⟨by rfl, rfl⟩) ?_ ?_
  rotate_left
  · simp only [Act.put, List.setIfInBounds_toArray, List.set_cons_zero, List.set_cons_succ, i64_w, i32_w]
    rfl
  refine pure_ (i := 8) (N := some 15) (v := undef) (a' := ?_) #[true, true, true, true, true, true, true, true, true, false, false, false, false, false, false, false, false, false, false] rfl rfl (by kernel_rfl) (fun _ _ _ h => h) (Or.inr ⟨by rfl, rfl⟩) ?_ ?_
  rotate_left
  · simp only [Act.put, List.setIfInBounds_toArray, List.set_cons_zero, List.set_cons_succ, i64_w, i32_w]
    rfl
  refine pure_ (i := 9) (N := some 16) (v := ?_) (a' := ?_) #[true, true, true, true, true, true, true, true, true, true, false, false, false, false, false, false, false, false, false] rfl rfl (by kernel_rfl) (fun _ _ _ h => h) (Or.inl ⟨by rfl, ?_⟩) ?_ ?_
  rotate_left
  · intro w'
    go_simp
    with_reducible rfl
  rotate_left
  · simp only [Act.put, List.setIfInBounds_toArray, List.set_cons_zero, List.set_cons_succ, i64_w, i32_w]
    rfl
  refine pure_ (i := 10) (N := some 17) (v := ?_) (a' := ?_) #[true, true, true, true, true, true, true, true, true, true, true, false, false, false, false, false, false, false, false] rfl rfl (by kernel_rfl) (fun _ _ _ h => h) (Or.inl ⟨by rfl, ?_⟩) ?_ ?_
  rotate_left
  · intro w'
    go_simp
    with_reducible rfl
  rotate_left
  · simp only [Act.put, List.setIfInBounds_toArray, List.set_cons_zero, List.set_cons_succ, i64_w, i32_w]
    rfl
  refine pure_ (i := 11) (N := some 18) (v := undef) (a' := ?_) #[true, true, true, true, true, true, true, true, true, true, true, true, false, false, false, false, false, false, false] rfl rfl (by kernel_rfl) (fun _ _ _ h => h) (Or.inr ⟨by rfl, rfl⟩) ?_ ?_
  rotate_left
  · simp only [Act.put, List.setIfInBounds_toArray, List.set_cons_zero, List.set_cons_succ, i64_w, i32_w]
    rfl
  refine pure_ (i := 12) (N := some 19) (v := undef) (a' := ?_) #[true, true, true, true, true, true, true, true, true, true, true, true, true, false, false, false, false, false, false] rfl rfl (by kernel_rfl) (fun _ _ _ h => h) (Or.inr ⟨by rfl, rfl⟩) ?_ ?_
  rotate_left
  · simp only [Act.put, List.setIfInBounds_toArray, List.set_cons_zero, List.set_cons_succ, i64_w, i32_w]
    rfl
  refine pure_ (i := 13) (N := some 20) (v := undef) (a' := ?_) #[true, true, true, true, true, true, true, true, true, true, true, true, true, true, false, false, false, false, false] rfl rfl (by kernel_rfl) (fun _ _ _ h => h) (Or.inr ⟨by rfl, rfl⟩) ?_ ?_
  rotate_left
  · simp only [Act.put, List.setIfInBounds_toArray, List.set_cons_zero, List.set_cons_succ, i64_w, i32_w]
    rfl
  refine pure_ (i := 14) (N := some 21) (v := undef) (a' := ?_) #[true, true, true, true, true, true, true, true, true, true, true, true, true, true, true, false, false, false, false] rfl rfl (by kernel_rfl) (fun _ _ _ h => h) (Or.inr ⟨by rfl, rfl⟩) ?_ ?_
  rotate_left
  · simp only [Act.put, List.setIfInBounds_toArray, List.set_cons_zero, List.set_cons_succ, i64_w, i32_w]
    rfl
  refine pure_ (i := 15) (N := some 22) (v := undef) (a' := ?_) #[true, true, true, true, true, true, true, true, true, true, true, true, true, true, true, true, false, false, false] rfl rfl (by kernel_rfl) (fun _ _ _ h => h) (Or.inr ⟨by rfl, rfl⟩) ?_ ?_
  rotate_left
  · simp only [Act.put, List.setIfInBounds_toArray, List.set_cons_zero, List.set_cons_succ, i64_w, i32_w]
    rfl
  refine pure_ (i := 16) (N := some 23) (v := undef) (a' := ?_) #[true, true, true, true, true, true, true, true, true, true, true, true, true, true, true, true, true, false, false] rfl rfl (by kernel_rfl) (fun _ _ _ h => h) (Or.inr ⟨by rfl, rfl⟩) ?_ ?_
  rotate_left
  · simp only [Act.put, List.setIfInBounds_toArray, List.set_cons_zero, List.set_cons_succ, i64_w, i32_w]
    rfl
  refine pure_ (i := 17) (N := some 24) (v := ?_) (a' := ?_) #[true, true, true, true, true, true, true, true, true, true, true, true, true, true, true, true, true, true, false] rfl rfl (by kernel_rfl) (fun _ _ _ h => h) (Or.inl ⟨by rfl, ?_⟩) ?_ ?_
  rotate_left
  · intro w'
    go_simp
    with_reducible rfl
  rotate_left
  · simp only [Act.put, List.setIfInBounds_toArray, List.set_cons_zero, List.set_cons_succ, i64_w, i32_w]
    rfl
  refine pure_ (i := 18) (N := some 6) (v := ?_) (a' := ?_) #[true, true, true, true, true, true, true, true, true, true, true, true, true, true, true, true, true, true, true] rfl rfl (by kernel_rfl) (fun _ _ _ h => h) (Or.inl ⟨by rfl, ?_⟩) ?_ ?_
  rotate_left
  · intro w'
    go_simp
    with_reducible rfl
  rotate_left
  · simp only [Act.put, List.setIfInBounds_toArray, List.set_cons_zero, List.set_cons_succ, i64_w, i32_w]
    rfl
  refine done_ (by kernel_rfl) ?_
  go_wp2
  go_ret
  exact ⟨by rfl, Below.drew (below_alloc (Below.refl _ _) _)⟩
set_option maxHeartbeats 4000000 in
theorem Blocks.at {B g : Nat} {ls rd nd un : Int} (b0 b1 now : Int) (w : World) (h : Hld w B g ls rd nd un) : Calls Try.prog 19 #[.pointer (some ⟨g, 0, none⟩), .agg #[.int .i64 b0, .int .i64 b1], .int .i64 now] w fun e w' => e = .returned (.bool (blocksB rd nd un b0 b1 now)) ∧ Below w.heap.size w w' := by
  obtain ⟨_, h1, h2, h3, _⟩ := h.cells
  clear h
  by_cases k : now < un
  · have kb : decide (now < un) = true := decide_eq_true k
    have HE : Aside0 (blocksB rd nd un b0 b1 now = !(b0 == rd && b1 == nd)) := ⟨by unfold blocksB; rw [kb]; rfl⟩
    clear k
    go_enter Try.func19, Try.ntmps19
    go_wp2
    first
    | go_region_held3 (fun w' => w'.cell? ⟨g, 1, none⟩ = some (.int .i64 rd) ∧ w'.cell? ⟨g, 2, none⟩ = some (.int .i64 nd) ∧ w'.cell? ⟨g, 3, none⟩ = some (.int .i64 un) ∧ w'.cell? ⟨w.heap.size, 0, none⟩ = some (.int .i64 b0) ∧ w'.cell? ⟨w.heap.size, 1, none⟩ = some (.int .i64 b1)) (go_keep) (fail)
    all_goals go_wp2
    all_goals go_ret
    all_goals exact ⟨by rw [HE.out]; simp, by first | assumption | exact Below.drew (below_alloc (Below.refl _ _) _)⟩
  · have kb : decide (now < un) = false := decide_eq_false k
    have HE : Aside0 (blocksB rd nd un b0 b1 now = false) := ⟨by unfold blocksB; rw [kb]; rfl⟩
    clear k
    go_enter Try.func19, Try.ntmps19
    go_wp2
    refine start_ (n := 19) (S := fun w' => w'.cell? ⟨g, 3, none⟩ = some (.int .i64 un)) (ds := []) #[false, false, false, false, false, false, false, false, false, false, false, false, false, false, false, false, false, false, false] (by kernel_rfl) rfl rfl ((by first | go_keep | go_simp)) (fun hHeld => ?_)
    refine pure_ (i := 0) (N := some 7) (v := ?_) (a' := ?_) #[true, false, false, false, false, false, false, false, false, false, false, false, false, false, false, false, false, false, false] rfl rfl (by kernel_rfl) (fun _ _ _ h => h) (Or.inl ⟨by rfl, ?_⟩) ?_ ?_
    rotate_left
    · intro w'
      go_simp
      with_reducible rfl
    rotate_left
    · simp only [Act.put, List.setIfInBounds_toArray, List.set_cons_zero, List.set_cons_succ, i64_w, i32_w]
      rfl
    refine pure_ (i := 1) (N := some 8) (v := ?_) (a' := ?_) #[true, true, false, false, false, false, false, false, false, false, false, false, false, false, false, false, false, false, false] rfl rfl (by kernel_rfl) (fun _ _ _ h => h) (Or.inl ⟨by rfl, ?_⟩) ?_ ?_
    rotate_left
    · intro w'
      go_simp
      with_reducible rfl
    rotate_left
    · simp only [Act.put, List.setIfInBounds_toArray, List.set_cons_zero, List.set_cons_succ, i64_w, i32_w]
      rfl
    refine pure_ (i := 2) (N := some 9) (v := ?_) (a' := ?_) #[true, true, true, false, false, false, false, false, false, false, false, false, false, false, false, false, false, false, false] rfl rfl (by kernel_rfl) (fun _ _ _ h => h) (Or.inl ⟨by rfl, ?_⟩) ?_ ?_
    rotate_left
    · intro w'
      go_simp
      with_reducible rfl
    rotate_left
    · simp only [Act.put, List.setIfInBounds_toArray, List.set_cons_zero, List.set_cons_succ, i64_w, i32_w]
      rfl
    refine pure_ (i := 3) (N := some 10) (v := ?_) (a' := ?_) #[true, true, true, true, false, false, false, false, false, false, false, false, false, false, false, false, false, false, false] rfl rfl (by kernel_rfl) (fun _ _ _ h => h) (Or.inl ⟨by rfl, ?_⟩) ?_ ?_
    rotate_left
    · intro w'
      go_simp
      with_reducible rfl
    rotate_left
    · simp only [Act.put, List.setIfInBounds_toArray, List.set_cons_zero, List.set_cons_succ, i64_w, i32_w]
      rfl
    refine pure_ (i := 4) (N := some 11) (v := ?_) (a' := ?_) #[true, true, true, true, true, false, false, false, false, false, false, false, false, false, false, false, false, false, false] rfl rfl (by kernel_rfl) (fun _ _ _ h => h) (Or.inl ⟨by rfl, ?_⟩) ?_ ?_
    rotate_left
    · intro w'
      go_simp
      with_reducible rfl
    rotate_left
    · simp only [Act.put, List.setIfInBounds_toArray, List.set_cons_zero, List.set_cons_succ, i64_w, i32_w]
      rfl
    refine pure_ (i := 5) (N := some 12) (v := ?_) (a' := ?_) #[true, true, true, true, true, true, false, false, false, false, false, false, false, false, false, false, false, false, false] rfl rfl (by kernel_rfl) (fun _ _ _ h => h) (Or.inl ⟨by rfl, ?_⟩) ?_ ?_
    rotate_left
    · intro w'
      go_simp
      with_reducible rfl
    rotate_left
    · simp only [Act.put, List.setIfInBounds_toArray, List.set_cons_zero, List.set_cons_succ, i64_w, i32_w]
      rfl
    refine pure_ (i := 6) (N := some 13) (v := ?_) (a' := ?_) #[true, true, true, true, true, true, true, false, false, false, false, false, false, false, false, false, false, false, false] rfl rfl (by kernel_rfl) (fun _ _ _ h => h) (Or.inl ⟨by rfl, ?_⟩) ?_ ?_
    rotate_left
    · intro w'
      go_simp
      with_reducible rfl
    rotate_left
    · simp only [Act.put, List.setIfInBounds_toArray, List.set_cons_zero, List.set_cons_succ, i64_w, i32_w]
      rfl
    refine take_ (i := 7) (N := some 14) (v := ?_) (a' := ?_) #[true, true, true, true, true, true, true, true, false, false, false, false, false, false, false, false, false, false, false] rfl rfl (by kernel_rfl) (fun _ _ _ h => h) (Or.inl ⟨by rfl, ?_⟩) hHeld ?_ ?_
    rotate_left
    · intro w' s0
      go_simp
      with_reducible rfl
    rotate_left
    · simp only [Act.put, List.setIfInBounds_toArray, List.set_cons_zero, List.set_cons_succ, i64_w, i32_w]
      rfl
    refine pure_ (i := 8) (N := some 15) (v := ?_) (a' := ?_) #[true, true, true, true, true, true, true, true, true, false, false, false, false, false, false, false, false, false, false] rfl rfl (by kernel_rfl) (fun _ _ _ h => h) (Or.inl ⟨by rfl, ?_⟩) ?_ ?_
    rotate_left
    · intro w'
      go_simp
      with_reducible rfl
    rotate_left
    · simp only [Act.put, List.setIfInBounds_toArray, List.set_cons_zero, List.set_cons_succ, i64_w, i32_w]
      rfl
    refine pure_ (i := 9) (N := some 16) (v := ?_) (a' := ?_) #[true, true, true, true, true, true, true, true, true, true, false, false, false, false, false, false, false, false, false] rfl rfl (by kernel_rfl) (fun _ _ _ h => h) (Or.inl ⟨by rfl, ?_⟩) ?_ ?_
    rotate_left
    · intro w'
      go_simp
      with_reducible rfl
    rotate_left
    · simp only [Act.put, List.setIfInBounds_toArray, List.set_cons_zero, List.set_cons_succ, i64_w, i32_w]
      rfl
    refine pure_ (i := 10) (N := some 17) (v := ?_) (a' := ?_) #[true, true, true, true, true, true, true, true, true, true, true, false, false, false, false, false, false, false, false] rfl rfl (by kernel_rfl) (fun _ _ _ h => h) (Or.inl ⟨by rfl, ?_⟩) ?_ ?_
    rotate_left
    · intro w'
      go_simp
      with_reducible rfl
    rotate_left
    · simp only [Act.put, List.setIfInBounds_toArray, List.set_cons_zero, List.set_cons_succ, i64_w, i32_w]
      rfl
    refine pure_ (i := 11) (N := some 18) (v := undef) (a' := ?_) #[true, true, true, true, true, true, true, true, true, true, true, true, false, false, false, false, false, false, false] rfl rfl (by kernel_rfl) (fun _ _ _ h => h) (Or.inr ⟨by rfl, rfl⟩) ?_ ?_
    rotate_left
    · simp only [Act.put, List.setIfInBounds_toArray, List.set_cons_zero, List.set_cons_succ, i64_w, i32_w]
      rfl
    refine pure_ (i := 12) (N := some 19) (v := undef) (a' := ?_) #[true, true, true, true, true, true, true, true, true, true, true, true, true, false, false, false, false, false, false] rfl rfl (by kernel_rfl) (fun _ _ _ h => h) (Or.inr ⟨by rfl, rfl⟩) ?_ ?_
    rotate_left
    · simp only [Act.put, List.setIfInBounds_toArray, List.set_cons_zero, List.set_cons_succ, i64_w, i32_w]
      rfl
    refine pure_ (i := 13) (N := some 20) (v := undef) (a' := ?_) #[true, true, true, true, true, true, true, true, true, true, true, true, true, true, false, false, false, false, false] rfl rfl (by kernel_rfl) (fun _ _ _ h => h) (Or.inr ⟨by rfl, rfl⟩) ?_ ?_
    rotate_left
    · simp only [Act.put, List.setIfInBounds_toArray, List.set_cons_zero, List.set_cons_succ, i64_w, i32_w]
      rfl
    refine pure_ (i := 14) (N := some 21) (v := undef) (a' := ?_) #[true, true, true, true, true, true, true, true, true, true, true, true, true, true, true, false, false, false, false] rfl rfl (by kernel_rfl) (fun _ _ _ h => h) (Or.inr ⟨by rfl, rfl⟩) ?_ ?_
    rotate_left
    · simp only [Act.put, List.setIfInBounds_toArray, List.set_cons_zero, List.set_cons_succ, i64_w, i32_w]
      rfl
    refine pure_ (i := 15) (N := some 22) (v := undef) (a' := ?_) #[true, true, true, true, true, true, true, true, true, true, true, true, true, true, true, true, false, false, false] rfl rfl (by kernel_rfl) (fun _ _ _ h => h) (Or.inr ⟨by rfl, rfl⟩) ?_ ?_
    rotate_left
    · simp only [Act.put, List.setIfInBounds_toArray, List.set_cons_zero, List.set_cons_succ, i64_w, i32_w]
      rfl
    refine pure_ (i := 16) (N := some 23) (v := undef) (a' := ?_) #[true, true, true, true, true, true, true, true, true, true, true, true, true, true, true, true, true, false, false] rfl rfl (by kernel_rfl) (fun _ _ _ h => h) (Or.inr ⟨by rfl, rfl⟩) ?_ ?_
    rotate_left
    · simp only [Act.put, List.setIfInBounds_toArray, List.set_cons_zero, List.set_cons_succ, i64_w, i32_w]
      rfl
    refine pure_ (i := 17) (N := some 24) (v := ?_) (a' := ?_) #[true, true, true, true, true, true, true, true, true, true, true, true, true, true, true, true, true, true, false] rfl rfl (by kernel_rfl) (fun _ _ _ h => h) (Or.inl ⟨by rfl, ?_⟩) ?_ ?_
    rotate_left
    · intro w'
      go_simp
      with_reducible rfl
    rotate_left
    · simp only [Act.put, List.setIfInBounds_toArray, List.set_cons_zero, List.set_cons_succ, i64_w, i32_w]
      rfl
    refine pure_ (i := 18) (N := some 6) (v := ?_) (a' := ?_) #[true, true, true, true, true, true, true, true, true, true, true, true, true, true, true, true, true, true, true] rfl rfl (by kernel_rfl) (fun _ _ _ h => h) (Or.inl ⟨by rfl, ?_⟩) ?_ ?_
    rotate_left
    · intro w'
      go_simp
      with_reducible rfl
    rotate_left
    · simp only [Act.put, List.setIfInBounds_toArray, List.set_cons_zero, List.set_cons_succ, i64_w, i32_w]
      rfl
    refine done_ (by kernel_rfl) ?_
    go_wp2
    go_ret
    exact ⟨by rw [HE.out]; rfl, Below.drew (below_alloc (Below.refl _ _) _)⟩
/-- A lease: when each node was asked for what it granted, how long that is trusted. -/
def Lse (W : World) (B g b : Nat) (asked : List Int) (trust : Int) : Prop := ∃ c, W.heap[g]? = some (.cells #[.slice (some ⟨b, 0, none⟩) asked.length c, .int .i64 trust] 88 (0, 0)) ∧ Row W B b asked c ∧ B ≤ g ∧ B ≤ b ∧ b < W.heap.size ∧ g ≠ b
theorem Lse.kept {W W' : World} {B g b : Nat} {trust : Int} {asked : List Int} {S : Nat → Prop} (h : Lse W B g b asked trust) (hk : Kept W W' S) (hg : ¬ S g) (hb : ¬ S b) : Lse W' B g b asked trust := by
  obtain ⟨c, h1, h2, h3, h4, h5, h6⟩ := h
  exact ⟨c, blk_kept h1 hk hg, h2.kept hk hb, h3, h4, Nat.lt_of_lt_of_le h5 hk.1, h6⟩
theorem Lse.below {W W' : World} {B g b : Nat} {trust : Int} {asked : List Int} (h : Lse W B g b asked trust) (hb : Below W.heap.size W W') : Lse W' B g b asked trust := h.kept (Kept.of_below hb (fun _ => False)) (fun h => h) (fun h => h)
theorem Lse.lt {W : World} {B g b : Nat} {trust : Int} {asked : List Int} (h : Lse W B g b asked trust) : g < W.heap.size ∧ b < W.heap.size := by
  obtain ⟨c, h1, _, _, _, h5, _⟩ := h
  exact ⟨blk_lt h1, h5⟩
theorem Lse.ge {W : World} {B g b : Nat} {trust : Int} {asked : List Int} (h : Lse W B g b asked trust) : B ≤ g ∧ B ≤ b ∧ g ≠ b := by
  obtain ⟨c, h1, _, h3, h4, h5, h6⟩ := h
  exact ⟨h3, h4, h6⟩
theorem Lse.cells {W : World} {B g b : Nat} {trust : Int} {asked : List Int} (h : Lse W B g b asked trust) : ∃ c, W.cell? ⟨g, 0, none⟩ = some (.slice (some ⟨b, 0, none⟩) asked.length c) ∧ W.cell? ⟨g, 1, none⟩ = some (.int .i64 trust) ∧ asked.length ≤ c ∧ Kd.C (Kd.int .i64) W (some ⟨b, 0, none⟩) asked.length asked := by
  obtain ⟨c, h1, h2, _⟩ := h
  exact ⟨c, (blk_cell h1 0).trans rfl, (blk_cell h1 1).trans rfl, h2.reads.1, h2.reads.2⟩
theorem Lse.cellAt {W : World} {B g b : Nat} {trust : Int} {asked : List Int} (h : Lse W B g b asked trust) (i : Int) (h0 : 0 ≤ i) (h1 : i < asked.length) : W.cell? ⟨b, i.toNat, none⟩ = some (.int .i64 (rd asked i)) ∧ W.frozen? ⟨b, i.toNat, none⟩ = false := by
  obtain ⟨c, _, h2, _⟩ := h
  exact Kd.R_cell 0 h2 i h0 h1
theorem Lse.put {W : World} {B g b : Nat} {trust : Int} {asked : List Int} (h : Lse W B g b asked trust) (i x : Int) : Lse (W.setCell ⟨b, i.toNat, none⟩ (.int .i64 x)) B g b (asked.set i.toNat x) trust := by
  obtain ⟨c, h1, h2, h3, h4, h5, h6⟩ := h
  exact ⟨c, by rw [List.length_set]; exact blk_far h1 h6 _, h2.put i x, h3, h4, by simpa [World.setCell] using h5, h6⟩
set_option maxHeartbeats 400000 in
theorem Grant.nil (a b : Int) (w : World) : Calls Try.prog 15 #[.pointer none, .int .i64 a, .int .i64 b] w fun e w' => e = .returned (.tuple #[]) ∧ Drawn0 w w' := by
  go_enter Try.func15, Try.ntmps15
  go_wp2
  go_end0
  exact ⟨rfl, by repeat (first | exact Drawn0.refl _ | apply Drawn0.step)⟩
def grantL (l : List Int) (node x : Int) : List Int := if (0 ≤ node ∧ node < (l.length : Int)) ∧ nowB x = true then l.set node.toNat (if rd l node < x then x else rd l node) else l
set_option maxHeartbeats 4000000 in
set_option maxRecDepth 100000 in
theorem Grant.at {B g b : Nat} {trust : Int} {asked : List Int} (node x : Int) (w : World) (h : Lse w B g b asked trust) :
    Calls Try.prog 15 #[.pointer (some ⟨g, 0, none⟩), .int .i64 node, .int .i64 x] w fun e w' => e = .returned (.tuple #[]) ∧ Lse w' B g b (grantL asked node x) trust ∧ Fr (fun k => k = g ∨ k = b) w w' := by
  obtain ⟨c, h1, h2, _⟩ := h.cells
  have HL := Aside0.mk h
  by_cases k0 : 0 ≤ node
  · have kb0 : decide (0 ≤ node) = true := decide_eq_true k0
    by_cases k1 : node < (asked.length : Int)
    · have kb1 : decide (node < (asked.length : Int)) = true := decide_eq_true k1
      by_cases k2 : nowB x = true
      · have HG : Aside0 (grantL asked node x = asked.set node.toNat (if rd asked node < x then x else rd asked node)) := ⟨if_pos ⟨⟨k0, k1⟩, k2⟩⟩
        obtain ⟨h3, h4⟩ := h.cellAt node k0 k1
        clear h
        replace k0 := eq_true k0
        replace k1 := eq_true k1
        go_enter Try.func15, Try.ntmps15
        go_wp2_with fail
        refine (isNow.at _ _).mono ?_
        rintro e w' ⟨rfl, ⟨nd, rfl⟩⟩
        go_wp2_with fail
        go_region_with (fail)
        all_goals go_end0
        all_goals exact ⟨rfl, by rw [HG.out]; exact (HL.out.below (pw_below_drewN (Below.refl _ _) _)).put _ _, ((Fr.refl _ _).drewN _).setCell (p := ⟨b, node.toNat, none⟩) (.inr rfl) _⟩
      · have k2 : nowB x = false := by simpa using k2
        have HG : Aside0 (grantL asked node x = asked) := ⟨if_neg (fun h => by rw [h.2] at k2; exact absurd k2 (by simp))⟩
        clear h k0 k1
        go_enter Try.func15, Try.ntmps15
        go_wp2_with fail
        refine (isNow.at _ _).mono ?_
        rintro e w' ⟨rfl, ⟨nd, rfl⟩⟩
        go_wp2
        go_end0
        exact ⟨rfl, by rw [HG.out]; exact HL.out.below (pw_below_drewN (Below.refl _ _) _), (Fr.refl _ _).drewN _⟩
    · have kb1 : decide (node < (asked.length : Int)) = false := decide_eq_false k1
      have HG : Aside0 (grantL asked node x = asked) := ⟨if_neg (fun h => k1 h.1.2)⟩
      clear h k0 k1
      go_enter Try.func15, Try.ntmps15
      go_wp2
      go_end0
      exact ⟨rfl, by rw [HG.out]; exact HL.out, Fr.refl _ _⟩
  · have kb0 : decide (0 ≤ node) = false := decide_eq_false k0
    have HG : Aside0 (grantL asked node x = asked) := ⟨if_neg (fun h => k0 h.1.1)⟩
    clear h k0
    go_enter Try.func15, Try.ntmps15
    go_wp2
    go_end0
    exact ⟨rfl, by rw [HG.out]; exact HL.out, Fr.refl _ _⟩

def clearL (l : List Int) : List Int := List.replicate l.length (-1)
set_option maxHeartbeats 400000 in
theorem Clear.nil (w : World) : Calls Try.prog 40 #[.pointer none] w fun e w' => e = .returned (.tuple #[]) ∧ Drawn0 w w' := by
  go_enter Try.func40, Try.ntmps40
  go_wp2
  go_end0
  exact ⟨rfl, by repeat (first | exact Drawn0.refl _ | apply Drawn0.step)⟩
set_option maxHeartbeats 4000000 in
set_option maxRecDepth 100000 in
theorem Clear.at {B g b : Nat} {trust : Int} {asked : List Int} (w : World) (h : Lse w B g b asked trust) (hl : asked.length ≤ 7) :
    Calls Try.prog 40 #[.pointer (some ⟨g, 0, none⟩)] w fun e w' => e = .returned (.tuple #[]) ∧ Lse w' B g b (clearL asked) trust ∧ Fr (fun k => k = g ∨ k = b) w w' := by
  obtain ⟨c, h1, h2, _⟩ := h.cells
  have HW := Aside0.mk h
  have HL := Aside0.mk hl
  have HX := Aside0.mk (Fr.refl (fun k => k = g ∨ k = b) w)
  clear h hl
  go_enter Try.func40, Try.ntmps40
  go_wp2
  go_loopg [10] asked.length (fun kq v10 w2 => ∃ (x : Int) (cur : List Int), v10 = .int .i64 x ∧ Aside0 (∃ j : Nat, x = (j : Int) ∧ j + kq = asked.length ∧ cur.length = asked.length ∧ ∀ i : Nat, i < j → rd cur i = -1) ∧ Aside0 (Lse w2 B g b cur trust) ∧ Aside0 (Fr (fun k => k = g ∨ k = b) w w2))
  case atStart => exact ⟨0, asked, rfl, ⟨0, rfl, by omega, rfl, fun i hi => absurd hi (by omega)⟩, HW, HX⟩
  case round =>
    obtain ⟨x, cur, rfl, HJ, HW, HX⟩ := hrel
    cases gk with
    | zero =>
      have c0b : decide (x < (asked.length : Int)) = false := decide_eq_false (by obtain ⟨j, e, hj, _⟩ := HJ.out; omega)
      have HE : Aside0 (cur = clearL asked) := ⟨by
        obtain ⟨j, e, hj, hl, hall⟩ := HJ.out
        refine rd_ext (by rw [hl, clearL, List.length_replicate]) (fun i hi => ?_)
        rw [hall i (by omega)]
        unfold clearL rd
        rw [List.getD_eq_getElem?_getD, Int.toNat_natCast, List.getElem?_replicate, if_pos (by omega)]
        rfl⟩
      clear HJ h1 h2
      go_wp2
      first | go_end0 | (refine bodyPost_ret (results_none rfl _ _ _) rfl ?_)
      exact ⟨rfl, by rw [← HE.out]; exact HW.out, HX.out⟩
    | succ m =>
      have c0b : decide (x < (asked.length : Int)) = true := decide_eq_true (by obtain ⟨j, e, hj, _⟩ := HJ.out; omega)
      have hx1 : IntKind.i64.wrap (x + 1) = x + 1 := by rw [i64_w]; unfold wrap64; obtain ⟨j, e, hj, _⟩ := HJ.out; have := HL.out; omega
      have c1 : 0 ≤ x := by obtain ⟨j, e, hj, _⟩ := HJ.out; omega
      have c3 : x < (cur.length : Int) := by obtain ⟨j, e, hj, hl, _⟩ := HJ.out; omega
      obtain ⟨hn1, hn2⟩ := HW.out.cellAt x c1 c3
      obtain ⟨cc, p1, p2, _⟩ := HW.out.cells
      have HX2 := Aside0.mk (Fr.setCell (S := fun k => k = g ∨ k = b) HX.out (p := ⟨b, x.toNat, none⟩) (.inr rfl) (.int .i64 (-1)))
      have HW2 := Aside0.mk (HW.out.put x (-1))
      replace c1 := eq_true c1
      replace c3 := eq_true c3
      clear h1 h2
      go_wp2
      go_roundg m
      case measure => omega
      case rel => exact ⟨x + 1, cur.set x.toNat (-1), rfl, ⟨by
        obtain ⟨j, e, hj, hl, hall⟩ := HJ.out
        refine ⟨j + 1, by omega, by omega, by rw [List.length_set]; exact hl, fun i hi => ?_⟩
        subst e
        rw [Int.toNat_natCast, rd_set (by omega)]
        by_cases h : i = j
        · rw [if_pos h]
        · rw [if_neg h, hall i (by omega)]⟩, HW2, HX2⟩
/-- One grant counts. -/
def cntOk (trust now a : Int) : Bool := (a != -1) && (decide (a ≤ now) && decide (now - a < trust))
def countsB (l : List Int) (trust now : Int) : Bool := decide ((l.length : Int) / 2 + 1 ≤ (l.countP (cntOk trust now) : Int))
theorem Quorum.at (n : Int) (w : World) (h1 : 1 ≤ n) (h2 : n ≤ 7) : Calls Try.prog 48 #[.int .i64 n] w fun e w' => e = .returned (.int .i64 (n / 2 + 1)) ∧ Drawn0 w w' := by
  refine ballot_Quorum.calls n _ w ?_
  unfold ballot_Quorum.f
  rw [if_neg (by omega), if_neg (by omega), Int.tdiv_eq_ediv_of_nonneg (by omega)]
  congr 1
  unfold wrap64
  omega
theorem countP_take_succ (ok : Int → Bool) (l : List Int) (j : Nat) (h : j < l.length) : ((l.take (j + 1)).countP ok : Int) = ((l.take j).countP ok : Int) + (if ok (rd l j) = true then 1 else 0) := by
  have e : rd l j = l[j] := by
    unfold rd
    rw [Int.toNat_natCast, List.getD_eq_getElem?_getD, List.getElem?_eq_getElem h]
    rfl
  rw [List.take_succ_eq_append_getElem h, List.countP_append, e]
  by_cases k : ok l[j] = true
  · rw [if_pos k, List.countP_singleton, if_pos k]
    omega
  · rw [if_neg k, List.countP_singleton, if_neg k]
    omega
end Go.Proofs.Ytfmcpceilkkhfaa.P
