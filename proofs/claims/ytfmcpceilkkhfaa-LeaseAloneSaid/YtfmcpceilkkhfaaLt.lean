/- Leases and holds of package lease: further contracts. -/
import Derived.Test.YtfmcpceilkkhfaaLs
namespace Go.Proofs.Ytfmcpceilkkhfaa.P
open Go.RowKit Go.Proofs.YtfmcpceilkkhfaaW.PrintWords Go.Proofs.YtfmcpceilkkhfaaW.PrintLast Go.Proofs.YtfmcpceilkkhfaaW.PrintMore
attribute [local go_sem] max2_int min2_int max_two min_two max_three min_three max_four min_four
set_option linter.unusedVariables false
set_option linter.unusedSimpArgs false
attribute [local go_sem high] eqA34
theorem countP_bound (ok : Int → Bool) (l : List Int) : (l.countP ok : Int) ≤ l.length := by
  have := @List.countP_le_length _ ok l
  omega
set_option maxHeartbeats 400000 in
theorem Counts.nil (n : Int) (w : World) : Calls Try.prog 16 #[.pointer none, .int .i64 n] w fun e w' => e = .returned (.bool false) ∧ Drawn0 w w' := by
  go_enter Try.func16, Try.ntmps16
  go_wp2
  go_ret
  exact ⟨rfl, by repeat (first | exact Drawn0.refl _ | apply Drawn0.step)⟩
/-- Grants as they may be. -/
def AskOk (l : List Int) : Prop := ∀ i : Nat, i < l.length → rd l i = -1 ∨ (0 ≤ rd l i ∧ rd l i ≤ MaxC)
set_option maxHeartbeats 8000000 in
set_option maxRecDepth 100000 in
theorem Counts.at {B g b : Nat} {trust : Int} {asked : List Int} (now : Int) (w : World) (h : Lse w B g b asked trust) (ha : AskOk asked) (h0 : 1 ≤ asked.length) (hl : asked.length ≤ 7) (hwf : now ≤ 9223372036854775807) :
    Calls Try.prog 16 #[.pointer (some ⟨g, 0, none⟩), .int .i64 now] w fun e w' => e = .returned (.bool (countsB asked trust now)) ∧ Drawn0 w w' := by
  obtain ⟨c, h1, h2, _, hr⟩ := h.cells
  have HR := Aside0.mk h
  have HL : Aside0 (1 ≤ asked.length ∧ asked.length ≤ 7) := ⟨h0, hl⟩
  have HA := Aside0.mk ha
  have HN := Aside0.mk hwf
  have hz : ((asked.length : Int) == 0) = false := by rw [beq_eq_false_iff_ne]; omega
  have HD := Aside0.mk (Drawn0.refl w)
  clear h hr h0 hl ha hwf
  go_enter Try.func16, Try.ntmps16
  go_wp2
  go_loopg [5, 23] asked.length (fun kq v5 v23 w2 => ∃ (n x : Int), v5 = .int .i64 n ∧ v23 = .int .i64 x ∧ Aside0 (∃ j : Nat, x = (j : Int) ∧ j + kq = asked.length ∧ n = ((asked.take j).countP (cntOk trust now) : Int)) ∧ Aside0 (Drawn0 w w2))
  case atStart => exact ⟨0, 0, rfl, rfl, ⟨0, rfl, by omega, by simp⟩, HD⟩
  case round =>
    obtain ⟨n, x, rfl, rfl, HJ, HD⟩ := hrel
    obtain ⟨nq, rfl⟩ := HD.out
    cases gk with
    | zero =>
      have c0b : decide (x < (asked.length : Int)) = false := decide_eq_false (by obtain ⟨j, e, hj, _⟩ := HJ.out; omega)
      have HE : Aside0 (n = ((asked.countP (cntOk trust now) : Nat) : Int)) := ⟨by
        obtain ⟨j, e, hj, hn⟩ := HJ.out
        rw [hn, List.take_of_length_le (by omega)]⟩
      clear HJ
      go_wp2_with fail
      refine (Quorum.at _ _ (by have := HL.out; omega) (by have := HL.out; omega)).mono ?_
      rintro e w' ⟨rfl, ⟨nd, rfl⟩⟩
      go_wp2
      go_ret
      exact ⟨by rw [HE.out]; rfl, ⟨_, rfl⟩⟩
    | succ m =>
      have c0b : decide (x < (asked.length : Int)) = true := decide_eq_true (by obtain ⟨j, e, hj, _⟩ := HJ.out; omega)
      have hx1 : IntKind.i64.wrap (x + 1) = x + 1 := by rw [i64_w]; unfold wrap64; obtain ⟨j, e, hj, _⟩ := HJ.out; have := HL.out; omega
      have hn1 : IntKind.i64.wrap (n + 1) = n + 1 := by
        rw [i64_w]; unfold wrap64; obtain ⟨j, e, hj, hn⟩ := HJ.out
        have := countP_bound (cntOk trust now) (asked.take j)
        rw [List.length_take] at this
        have := HL.out; omega
      have c1 : 0 ≤ x := by obtain ⟨j, e, hj, _⟩ := HJ.out; omega
      have c2 : x < (asked.length : Int) := by obtain ⟨j, e, hj, _⟩ := HJ.out; omega
      obtain ⟨hcell, _⟩ := HR.out.cellAt x c1 c2
      have HO : Aside0 (rd asked x = -1 ∨ (0 ≤ rd asked x ∧ rd asked x ≤ MaxC)) := ⟨by
        obtain ⟨j, e, hj, hn⟩ := HJ.out
        rw [e]; exact HA.out j (by omega)⟩
      replace c1 := eq_true c1
      replace c2 := eq_true c2
      have HS : ∀ (b : Bool), cntOk trust now (rd asked x) = b → Aside0 (∃ j : Nat, x + 1 = (j : Int) ∧ j + m = asked.length ∧ n + (if b = true then 1 else 0) = ((asked.take j).countP (cntOk trust now) : Int)) := fun b hb => ⟨by
        obtain ⟨j, e, hj, hn⟩ := HJ.out
        refine ⟨j + 1, by omega, by omega, ?_⟩
        rw [countP_take_succ _ _ _ (by omega), ← e, hb, hn]⟩
      by_cases k1 : rd asked x = -1
      · have kb : (rd asked x != -1) = false := by rw [k1]; rfl
        have HS' := HS false (by unfold cntOk; rw [kb]; rfl)
        rw [if_neg (by decide), Int.add_zero] at HS'
        clear HS k1
        go_wp2
        go_roundg m
        case measure => omega
        case rel => exact ⟨_, x + 1, rfl, rfl, HS', ⟨_, rfl⟩⟩
      · have kb : (rd asked x != -1) = true := by rw [bne_iff_ne]; exact k1
        by_cases k2 : rd asked x ≤ now
        · have kb2 : decide (rd asked x ≤ now) = true := decide_eq_true k2
          have e2 : IntKind.i64.wrap (now - rd asked x) = now - rd asked x := by rw [i64_w]; unfold wrap64; have a1 := HO.out; have a2 := HN.out; unfold MaxC at a1; omega
          by_cases k3 : now - rd asked x < trust
          · have kb3 : decide (now - rd asked x < trust) = true := decide_eq_true k3
            have HS' := HS true (by unfold cntOk; rw [kb, kb2, kb3]; rfl)
            clear HS k1 k2 k3
            go_wp2
            go_roundg m
            case measure => omega
            case rel => exact ⟨_, x + 1, rfl, rfl, HS', ⟨_, rfl⟩⟩
          · have kb3 : decide (now - rd asked x < trust) = false := decide_eq_false k3
            have HS' := HS false (by unfold cntOk; rw [kb, kb2, kb3]; rfl)
            rw [if_neg (by decide), Int.add_zero] at HS'
            clear HS k1 k2 k3
            go_wp2
            go_roundg m
            case measure => omega
            case rel => exact ⟨_, x + 1, rfl, rfl, HS', ⟨_, rfl⟩⟩
        · have kb2 : decide (rd asked x ≤ now) = false := decide_eq_false k2
          have HS' := HS false (by unfold cntOk; rw [kb, kb2]; rfl)
          rw [if_neg (by decide), Int.add_zero] at HS'
          clear HS k1 k2
          go_wp2
          go_roundg m
          case measure => omega
          case rel => exact ⟨_, x + 1, rfl, rfl, HS', ⟨_, rfl⟩⟩

theorem Hld.set3 {W : World} {B g : Nat} {ls rd nd un : Int} (h : Hld W B g ls rd nd un) (a b c : Int) : Hld (((W.setCell ⟨g, 1, none⟩ (.int .i64 a)).setCell ⟨g, 2, none⟩ (.int .i64 b)).setCell ⟨g, 3, none⟩ (.int .i64 c)) B g ls a b c :=
  ⟨by simpa using blk_set (blk_set (blk_set h.1 1 (.int .i64 a)) 2 (.int .i64 b)) 3 (.int .i64 c), h.2⟩
set_option maxHeartbeats 4000000 in
theorem take.at {B g : Nat} {ls rd nd un : Int} (b0 b1 now : Int) (w : World) (h : Hld w B g ls rd nd un) (hw : IntKind.i64.wrap (now + ls) = now + ls) :
    Calls Try.prog 49 #[.pointer (some ⟨g, 0, none⟩), .agg #[.int .i64 b0, .int .i64 b1], .int .i64 now] w fun e w' => e = .returned (.tuple #[]) ∧ Hld w' B g ls b0 b1 (if un < now + ls then now + ls else un) ∧ Fr (fun k => k = g) w w' := by
  have HH := Aside0.mk (h.below (below_alloc (Below.refl _ _) (Obj.cells #[.int .i64 b0, .int .i64 b1] 34)))
  obtain ⟨h0, h1, h2, h3, hf⟩ := HH.out.cells
  have HX := Aside0.mk (Fr.of_below (S := fun k => k = g) (below_alloc (Below.refl w.heap.size w) (Obj.cells #[.int .i64 b0, .int .i64 b1] 34)))
  clear h
  have hf1 := hf 1
  have hf2 := hf 2
  have hf3 := hf 3
  clear hf
  go_enter Try.func49, Try.ntmps49
  go_wp2
  refine start_ (n := 20) (S := fun w' => w'.cell? ⟨g, 0, none⟩ = some (.int .i64 ls) ∧ w'.cell? ⟨g, 3, none⟩ = some (.int .i64 un) ∧ w'.cell? ⟨w.heap.size, 0, none⟩ = some (.int .i64 b0) ∧ w'.cell? ⟨w.heap.size, 1, none⟩ = some (.int .i64 b1)) (ds := [16, 19]) #[false, false, false, false, false, false, false, false, false, false, false, false, false, false, false, false, false, false, false, false] (by kernel_rfl) rfl rfl ⟨(by first | go_keep | go_simp), (by first | go_keep | go_simp), (by first | go_keep | go_simp), (by first | go_keep | go_simp)⟩ (fun hHeld => ?_)
  refine pure_ (i := 0) (N := some 6) (v := ?_) (a' := ?_) #[true, false, false, false, false, false, false, false, false, false, false, false, false, false, false, false, false, false, false, false] rfl rfl (by kernel_rfl) (fun _ _ _ h => h) (Or.inl ⟨by rfl, ?_⟩) ?_ ?_
  rotate_left
  · intro w'
    go_simp
    with_reducible rfl
  rotate_left
  · simp only [Act.put, List.setIfInBounds_toArray, List.set_cons_zero, List.set_cons_succ, i64_w, i32_w]
    rfl
  refine pure_ (i := 1) (N := some 7) (v := ?_) (a' := ?_) #[true, true, false, false, false, false, false, false, false, false, false, false, false, false, false, false, false, false, false, false] rfl rfl (by kernel_rfl) (fun _ _ _ h => h) (Or.inl ⟨by rfl, ?_⟩) ?_ ?_
  rotate_left
  · intro w'
    go_simp
    with_reducible rfl
  rotate_left
  · simp only [Act.put, List.setIfInBounds_toArray, List.set_cons_zero, List.set_cons_succ, i64_w, i32_w]
    rfl
  refine pure_ (i := 3) (N := some 9) (v := ?_) (a' := ?_) #[true, true, false, true, false, false, false, false, false, false, false, false, false, false, false, false, false, false, false, false] rfl rfl (by kernel_rfl) (fun _ _ _ h => h) (Or.inl ⟨by rfl, ?_⟩) ?_ ?_
  rotate_left
  · intro w'
    go_simp
    with_reducible rfl
  rotate_left
  · simp only [Act.put, List.setIfInBounds_toArray, List.set_cons_zero, List.set_cons_succ, i64_w, i32_w]
    rfl
  refine pure_ (i := 4) (N := some 10) (v := ?_) (a' := ?_) #[true, true, false, true, true, false, false, false, false, false, false, false, false, false, false, false, false, false, false, false] rfl rfl (by kernel_rfl) (fun _ _ _ h => h) (Or.inl ⟨by rfl, ?_⟩) ?_ ?_
  rotate_left
  · intro w'
    go_simp
    with_reducible rfl
  rotate_left
  · simp only [Act.put, List.setIfInBounds_toArray, List.set_cons_zero, List.set_cons_succ, i64_w, i32_w]
    rfl
  refine pure_ (i := 5) (N := some 11) (v := ?_) (a' := ?_) #[true, true, false, true, true, true, false, false, false, false, false, false, false, false, false, false, false, false, false, false] rfl rfl (by kernel_rfl) (fun _ _ _ h => h) (Or.inl ⟨by rfl, ?_⟩) ?_ ?_
  rotate_left
  · intro w'
    go_simp
    with_reducible rfl
  rotate_left
  · simp only [Act.put, List.setIfInBounds_toArray, List.set_cons_zero, List.set_cons_succ, i64_w, i32_w]
    rfl
  refine pure_ (i := 7) (N := some 13) (v := ?_) (a' := ?_) #[true, true, false, true, true, true, false, true, false, false, false, false, false, false, false, false, false, false, false, false] rfl rfl (by kernel_rfl) (fun _ _ _ h => h) (Or.inl ⟨by rfl, ?_⟩) ?_ ?_
  rotate_left
  · intro w'
    go_simp
    with_reducible rfl
  rotate_left
  · simp only [Act.put, List.setIfInBounds_toArray, List.set_cons_zero, List.set_cons_succ, i64_w, i32_w]
    rfl
  refine pure_ (i := 8) (N := some 14) (v := ?_) (a' := ?_) #[true, true, false, true, true, true, false, true, true, false, false, false, false, false, false, false, false, false, false, false] rfl rfl (by kernel_rfl) (fun _ _ _ h => h) (Or.inl ⟨by rfl, ?_⟩) ?_ ?_
  rotate_left
  · intro w'
    go_simp
    with_reducible rfl
  rotate_left
  · simp only [Act.put, List.setIfInBounds_toArray, List.set_cons_zero, List.set_cons_succ, i64_w, i32_w]
    rfl
  refine pure_ (i := 9) (N := some 15) (v := ?_) (a' := ?_) #[true, true, false, true, true, true, false, true, true, true, false, false, false, false, false, false, false, false, false, false] rfl rfl (by kernel_rfl) (fun _ _ _ h => h) (Or.inl ⟨by rfl, ?_⟩) ?_ ?_
  rotate_left
  · intro w'
    go_simp
    with_reducible rfl
  rotate_left
  · simp only [Act.put, List.setIfInBounds_toArray, List.set_cons_zero, List.set_cons_succ, i64_w, i32_w]
    rfl
  refine pure_ (i := 10) (N := some 16) (v := ?_) (a' := ?_) #[true, true, false, true, true, true, false, true, true, true, true, false, false, false, false, false, false, false, false, false] rfl rfl (by kernel_rfl) (fun _ _ _ h => h) (Or.inl ⟨by rfl, ?_⟩) ?_ ?_
  rotate_left
  · intro w'
    go_simp
    with_reducible rfl
  rotate_left
  · simp only [Act.put, List.setIfInBounds_toArray, List.set_cons_zero, List.set_cons_succ, i64_w, i32_w]
    rfl
  refine take_ (i := 2) (N := some 8) (v := ?_) (a' := ?_) #[true, true, true, true, true, true, false, true, true, true, true, false, false, false, false, false, false, false, false, false] rfl rfl (by kernel_rfl) (fun _ _ _ h => h) (Or.inl ⟨by rfl, ?_⟩) hHeld ?_ ?_
  rotate_left
  · rintro w' ⟨s0, s1, s2, s3⟩
    go_simp
    with_reducible rfl
  rotate_left
  · simp only [Act.put, List.setIfInBounds_toArray, List.set_cons_zero, List.set_cons_succ, i64_w, i32_w]
    rfl
  refine take_ (i := 6) (N := some 12) (v := ?_) (a' := ?_) #[true, true, true, true, true, true, true, true, true, true, true, false, false, false, false, false, false, false, false, false] rfl rfl (by kernel_rfl) (fun _ _ _ h => h) (Or.inl ⟨by rfl, ?_⟩) hHeld ?_ ?_
  rotate_left
  · rintro w' ⟨s0, s1, s2, s3⟩
    go_simp
    with_reducible rfl
  rotate_left
  · simp only [Act.put, List.setIfInBounds_toArray, List.set_cons_zero, List.set_cons_succ, i64_w, i32_w]
    rfl
  refine take_ (i := 11) (N := some 17) (v := ?_) (a' := ?_) #[true, true, true, true, true, true, true, true, true, true, true, true, false, false, false, false, false, false, false, false] rfl rfl (by kernel_rfl) (fun _ _ _ h => h) (Or.inl ⟨by rfl, ?_⟩) hHeld ?_ ?_
  rotate_left
  · rintro w' ⟨s0, s1, s2, s3⟩
    go_simp
    with_reducible rfl
  rotate_left
  · simp only [Act.put, List.setIfInBounds_toArray, List.set_cons_zero, List.set_cons_succ, i64_w, i32_w]
    rfl
  refine pure_ (i := 12) (N := some 18) (v := ?_) (a' := ?_) #[true, true, true, true, true, true, true, true, true, true, true, true, true, false, false, false, false, false, false, false] rfl rfl (by kernel_rfl) (fun _ _ _ h => h) (Or.inl ⟨by rfl, ?_⟩) ?_ ?_
  rotate_left
  · intro w'
    go_simp
    with_reducible rfl
  rotate_left
  · simp only [Act.put, List.setIfInBounds_toArray, List.set_cons_zero, List.set_cons_succ, i64_w, i32_w]
    rfl
  refine pure_ (i := 13) (N := some 19) (v := ?_) (a' := ?_) #[true, true, true, true, true, true, true, true, true, true, true, true, true, true, false, false, false, false, false, false] rfl rfl (by kernel_rfl) (fun _ _ _ h => h) (Or.inl ⟨by rfl, ?_⟩) ?_ ?_
  rotate_left
  · intro w'
    go_simp
    with_reducible rfl
  rotate_left
  · simp only [Act.put, List.setIfInBounds_toArray, List.set_cons_zero, List.set_cons_succ, i64_w, i32_w]
    rfl
  refine pure_ (i := 14) (N := some 20) (v := ?_) (a' := ?_) #[true, true, true, true, true, true, true, true, true, true, true, true, true, true, true, false, false, false, false, false] rfl rfl (by kernel_rfl) (fun _ _ _ h => h) (Or.inl ⟨by rfl, ?_⟩) ?_ ?_
  rotate_left
  · intro w'
    go_simp
    with_reducible rfl
  rotate_left
  · simp only [Act.put, List.setIfInBounds_toArray, List.set_cons_zero, List.set_cons_succ, i64_w, i32_w]
    rfl
  refine pure_ (i := 15) (N := some 21) (v := ?_) (a' := ?_) #[true, true, true, true, true, true, true, true, true, true, true, true, true, true, true, true, false, false, false, false] rfl rfl (by kernel_rfl) (fun _ _ _ h => h) (Or.inl ⟨by rfl, ?_⟩) ?_ ?_
  rotate_left
  · intro w'
    go_simp
    with_reducible rfl
  rotate_left
  · simp only [Act.put, List.setIfInBounds_toArray, List.set_cons_zero, List.set_cons_succ, i64_w, i32_w]
    rfl
  refine last_ (i := 16) (N := none) #[true, true, true, true, true, true, true, true, true, true, true, true, true, true, true, true, true, false, false, false] rfl rfl (by kernel_rfl) (by decide) (fun K hK => ?_)
  refine skip_ (w1 := ?_) (by rfl) rfl ?_ ?_
  rotate_left
  · go_simp
    rfl
  refine hK.out _ _ ?_
  clear hK K
  refine pure_ (i := 17) (N := some 22) (v := ?_) (a' := ?_) #[true, true, true, true, true, true, true, true, true, true, true, true, true, true, true, true, true, true, false, false] rfl rfl (by kernel_rfl) (fun _ _ _ h => h) (Or.inl ⟨by rfl, ?_⟩) ?_ ?_
  rotate_left
  · intro w'
    go_simp
    with_reducible rfl
  rotate_left
  · simp only [Act.put, List.setIfInBounds_toArray, List.set_cons_zero, List.set_cons_succ, i64_w, i32_w]
    rfl
  refine pure_ (i := 18) (N := some 23) (v := ?_) (a' := ?_) #[true, true, true, true, true, true, true, true, true, true, true, true, true, true, true, true, true, true, true, false] rfl rfl (by kernel_rfl) (fun _ _ _ h => h) (Or.inl ⟨by rfl, ?_⟩) ?_ ?_
  rotate_left
  · intro w'
    go_simp
    with_reducible rfl
  rotate_left
  · simp only [Act.put, List.setIfInBounds_toArray, List.set_cons_zero, List.set_cons_succ, i64_w, i32_w]
    rfl
  refine last_ (i := 19) (N := none) #[true, true, true, true, true, true, true, true, true, true, true, true, true, true, true, true, true, true, true, true] rfl rfl (by kernel_rfl) (by decide) (fun K hK => ?_)
  refine skip_ (w1 := ?_) (by rfl) rfl ?_ ?_
  rotate_left
  · go_simp
    rfl
  refine hK.out _ _ ?_
  clear hK K
  refine done_ (by kernel_rfl) ?_
  go_end0
  refine ⟨rfl, (HH.out.set3 b0 b1 _).below (Below.drew (Below.refl _ _)), Fr.drew ?_⟩
  exact ((HX.out.setCell (p := ⟨g, 1, none⟩) rfl _).setCell (p := ⟨g, 2, none⟩) rfl _).setCell (p := ⟨g, 3, none⟩) rfl _

def mxI (a b : Int) : Int := if a < b then b else a
def giveB (rd nd un b0 b1 now : Int) : Bool := nowB now && !blocksB rd nd un b0 b1 now
/-- The hold behind Give, behind Restart. -/
def GiveHld (W : World) (B g : Nat) (ls rd nd un b0 b1 now : Int) : Prop := if giveB rd nd un b0 b1 now = true then Hld W B g ls b0 b1 (mxI un (now + ls)) else Hld W B g ls rd nd un
def RestHld (W : World) (B g : Nat) (ls rd nd un now : Int) : Prop := if nowB now = true then Hld W B g ls 0 0 (mxI un (now + ls)) else Hld W B g ls rd nd un
set_option maxHeartbeats 1000000 in
theorem Give.nil (b0 b1 now : Int) (w : World) : Calls Try.prog 17 #[.pointer none, .agg #[.int .i64 b0, .int .i64 b1], .int .i64 now] w fun e w' => e = .returned (.bool false) ∧ Below w.heap.size w w' := by
  go_enter Try.func17, Try.ntmps17
  go_wp2
  go_ret
  exact ⟨by rfl, by first | exact below_alloc (Below.refl _ _) _ | exact pw_below_drewN (below_alloc (Below.refl _ _) _) _⟩
set_option maxHeartbeats 4000000 in
theorem Give.at {B g : Nat} {ls rd nd un : Int} (b0 b1 now : Int) (w : World) (h : Hld w B g ls rd nd un) (h1 : 1 ≤ ls) (h2 : ls ≤ 1048576) :
    Calls Try.prog 17 #[.pointer (some ⟨g, 0, none⟩), .agg #[.int .i64 b0, .int .i64 b1], .int .i64 now] w fun e w' => e = .returned (.bool (giveB rd nd un b0 b1 now)) ∧ GiveHld w' B g ls rd nd un b0 b1 now ∧ Fr (fun k => k = g) w w' := by
  have HH := Aside0.mk (h.below (below_alloc (Below.refl _ _) (Obj.cells #[.int .i64 b0, .int .i64 b1] 34)))
  obtain ⟨q0, q1, q2, q3, hf⟩ := HH.out.cells
  have HX := Aside0.mk (Fr.of_below (S := fun k => k = g) (below_alloc (Below.refl w.heap.size w) (Obj.cells #[.int .i64 b0, .int .i64 b1] 34)))
  have hz : (ls == 0) = false := by rw [beq_eq_false_iff_ne]; omega
  have HL : Aside0 (1 ≤ ls ∧ ls ≤ 1048576) := ⟨h1, h2⟩
  clear h hf h1 h2 q1 q2 q3
  by_cases k1 : nowB now = true
  · have HN := Aside0.mk (nowB_iff.mp k1)
    by_cases k2 : blocksB rd nd un b0 b1 now = true
    · have HG : Aside0 (giveB rd nd un b0 b1 now = false) := ⟨by unfold giveB; rw [k1, k2]; rfl⟩
      go_enter Try.func17, Try.ntmps17
      go_wp2_with fail
      refine (isNow.at _ _).mono ?_
      rintro e w' ⟨rfl, ⟨nd1, rfl⟩⟩
      go_wp2_with fail
      refine (Blocks.at b0 b1 now _ (HH.out.below (pw_below_drewN (Below.refl _ _) _))).mono ?_
      rintro e w' ⟨rfl, hb⟩
      have HB := Aside0.mk (below_step (pw_below_drewN (Below.refl _ _) _) hb)
      clear hb
      go_wp2
      go_ret
      exact ⟨by rw [HG.out]; rfl, by unfold GiveHld; rw [if_neg (by rw [HG.out]; decide)]; exact HH.out.below HB.out, HX.out.step HB.out⟩
    · have k2 : blocksB rd nd un b0 b1 now = false := by simpa using k2
      have HG : Aside0 (giveB rd nd un b0 b1 now = true) := ⟨by unfold giveB; rw [k1, k2]; rfl⟩
      go_enter Try.func17, Try.ntmps17
      go_wp2_with fail
      refine (isNow.at _ _).mono ?_
      rintro e w' ⟨rfl, ⟨nd1, rfl⟩⟩
      go_wp2_with fail
      refine (Blocks.at b0 b1 now _ (HH.out.below (pw_below_drewN (Below.refl _ _) _))).mono ?_
      rintro e w' ⟨rfl, hb⟩
      have HB := Aside0.mk (below_step (pw_below_drewN (Below.refl _ _) _) hb)
      have r0 := pw_cell_below HB.out (show (w.alloc (Obj.cells #[.int .i64 b0, .int .i64 b1] 34)).cell? ⟨w.heap.size, 0, none⟩ = some (.int .i64 b0) by go_simp)
      have r1 := pw_cell_below HB.out (show (w.alloc (Obj.cells #[.int .i64 b0, .int .i64 b1] 34)).cell? ⟨w.heap.size, 1, none⟩ = some (.int .i64 b1) by go_simp)
      clear hb
      go_wp2_with fail
      refine (take.at b0 b1 now _ (HH.out.below HB.out) (by rw [i64_w]; unfold wrap64; have := HN.out; have := HL.out; unfold MaxC at *; omega)).mono ?_
      rintro e w2 ⟨rfl, h5, h6⟩
      have H5 := Aside0.mk h5
      have H6 := Aside0.mk h6
      clear h5 h6
      go_wp2
      go_ret
      exact ⟨by rw [HG.out]; rfl, by unfold GiveHld; rw [if_pos HG.out]; exact H5.out, (HX.out.step HB.out).trans H6.out⟩
  · have k1 : nowB now = false := by simpa using k1
    have HG : Aside0 (giveB rd nd un b0 b1 now = false) := ⟨by unfold giveB; rw [k1]; rfl⟩
    go_enter Try.func17, Try.ntmps17
    go_wp2_with fail
    refine (isNow.at _ _).mono ?_
    rintro e w' ⟨rfl, ⟨nd1, rfl⟩⟩
    go_wp2
    go_ret
    exact ⟨by rw [HG.out]; rfl, by unfold GiveHld; rw [if_neg (by rw [HG.out]; decide)]; exact HH.out.below (pw_below_drewN (Below.refl _ _) _), HX.out.drewN _⟩
set_option maxHeartbeats 1000000 in
theorem Restart.nil (now : Int) (w : World) : Calls Try.prog 43 #[.pointer none, .int .i64 now] w fun e w' => e = .returned (.tuple #[]) ∧ Drawn0 w w' := by
  go_enter Try.func43, Try.ntmps43
  go_wp2
  go_end0
  exact ⟨rfl, by repeat (first | exact Drawn0.refl _ | apply Drawn0.step)⟩
set_option maxHeartbeats 4000000 in
theorem Restart.at {B g : Nat} {ls rd nd un : Int} (now : Int) (w : World) (h : Hld w B g ls rd nd un) (h1 : 1 ≤ ls) (h2 : ls ≤ 1048576) :
    Calls Try.prog 43 #[.pointer (some ⟨g, 0, none⟩), .int .i64 now] w fun e w' => e = .returned (.tuple #[]) ∧ RestHld w' B g ls rd nd un now ∧ Fr (fun k => k = g) w w' := by
  have HH := Aside0.mk h
  obtain ⟨q0, q1, q2, q3, hf⟩ := HH.out.cells
  have hz : decide (0 < ls) = true := decide_eq_true (by omega)
  have HL : Aside0 (1 ≤ ls ∧ ls ≤ 1048576) := ⟨h1, h2⟩
  clear h hf h1 h2 q1 q2 q3
  by_cases k1 : nowB now = true
  · have HN := Aside0.mk (nowB_iff.mp k1)
    have HK := Aside0.mk k1
    go_enter Try.func43, Try.ntmps43
    go_wp2_with fail
    refine (isNow.at _ _).mono ?_
    rintro e w' ⟨rfl, ⟨nd1, rfl⟩⟩
    go_wp2_with fail
    refine (take.at 0 0 now _ (HH.out.below (pw_below_drewN (Below.refl _ _) _)) (by rw [i64_w]; unfold wrap64; have := HN.out; have := HL.out; unfold MaxC at *; omega)).mono ?_
    rintro e w2 ⟨rfl, h5, h6⟩
    have H5 := Aside0.mk h5
    have H6 := Aside0.mk h6
    clear h5 h6
    go_wp2
    go_end0
    exact ⟨rfl, by unfold RestHld; rw [if_pos HK.out]; exact H5.out, ((Fr.refl _ _).drewN _).trans H6.out⟩
  · have k1 : nowB now = false := by simpa using k1
    have HK := Aside0.mk k1
    go_enter Try.func43, Try.ntmps43
    go_wp2_with fail
    refine (isNow.at _ _).mono ?_
    rintro e w' ⟨rfl, ⟨nd1, rfl⟩⟩
    go_wp2
    go_end0
    exact ⟨rfl, by unfold RestHld; rw [if_neg (by rw [HK.out]; decide)]; exact HH.out.below (pw_below_drewN (Below.refl _ _) _), (Fr.refl _ _).drewN _⟩
end Go.Proofs.Ytfmcpceilkkhfaa.P
