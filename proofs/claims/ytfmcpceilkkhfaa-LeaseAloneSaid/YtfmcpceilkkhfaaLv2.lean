/- What must come of every program (lives of the lease's statements); LeaseNobody. -/
import Derived.Test.YtfmcpceilkkhfaaLu
import Derived.Test.YtfmcpceilkkhfaaOp
namespace Go.Proofs.Ytfmcpceilkkhfaa.P
open Go.RowKit Go.Proofs.YtfmcpceilkkhfaaW.PrintWords Go.Proofs.YtfmcpceilkkhfaaW.PrintLast Go.Proofs.YtfmcpceilkkhfaaW.PrintMore
attribute [local go_sem] max2_int min2_int max_two min_two max_three min_three max_four min_four
set_option linter.unusedVariables false
set_option linter.unusedSimpArgs false
attribute [local go_sem high] eqA34
theorem askOk_of (l : List Int) (h : l.all (fun a => a == -1 || nowB a) = true) : AskOk l := fun i hi => by
  have := rd_all h i hi
  simp only [Bool.or_eq_true, beq_iff_eq, nowB_iff] at this
  exact this
set_option maxHeartbeats 8000000 in
set_option maxRecDepth 100000 in
theorem lives21.at (w : World) : Calls Try.prog 14 #[] w fun e w' => e = .returned (.bool true) ∧ Below w.heap.size w w' := by
  go_enter Try.func14, Try.ntmps14
  go_wp2_with fail
  refine (LNew.at 3 1000 0 _ (by decide)).mono ?_
  rintro e w1 ⟨g, b, rfl, h1, h2⟩
  have HL : Aside0 (Lse w1 w.heap.size g b [-1, -1, -1] 1000) := ⟨h1⟩
  have HB := Aside0.mk h2
  clear h1 h2
  go_wp2_with fail
  refine (NewHold.at 10 _ (by decide) (by decide)).mono ?_
  rintro e w2 ⟨gh, rfl, h1, h2⟩
  have HN : Aside0 (g ≠ gh ∧ b ≠ gh) := ⟨by have := HL.out.lt; have := h1.2; omega⟩
  have HH : Aside0 (Hld w2 w.heap.size gh 10 0 0 0) := ⟨h1.1, by have := HB.out.size; have := h1.2; omega⟩
  replace HL := Aside0.mk (HL.out.below h2)
  replace HB := Aside0.mk (below_step HB.out h2)
  clear h1 h2
  go_wp2_with fail
  refine (Grant.at 0 0 _ HL.out).mono ?_
  rintro e w3 ⟨rfl, h1, h2⟩
  replace HL : Aside0 (Lse w3 w.heap.size g b [0, -1, -1] 1000) := ⟨h1⟩
  replace HH := Aside0.mk (HH.out.kept h2.kept (by rintro (e | e) <;> simp [e] at HN <;> exact absurd HN.out (by simp)))
  replace HB := Aside0.mk (h2.below (fun k hk => by have := HL.out.ge; rcases hk with rfl | rfl <;> omega) HB.out.size HB.out)
  clear h1 h2
  go_wp2_with fail
  refine (Counts.at 5 _ HL.out (askOk_of _ (by decide)) (by decide) (by decide) (by decide)).mono ?_
  rintro e w4 ⟨rfl, ⟨n1, rfl⟩⟩
  have hc1 : countsB [0, -1, -1] 1000 5 = false := by decide
  rw [hc1]
  clear hc1
  go_wp2_with fail
  refine (Grant.at 2 0 _ (HL.out.below (pw_below_drewN (Below.refl _ _) _))).mono ?_
  rintro e w5 ⟨rfl, h1, h2⟩
  replace HL : Aside0 (Lse w5 w.heap.size g b [0, -1, 0] 1000) := ⟨h1⟩
  replace HH := Aside0.mk ((HH.out.below (pw_below_drewN (Below.refl _ _) _)).kept h2.kept (by rintro (e | e) <;> simp [e] at HN <;> exact absurd HN.out (by simp)))
  replace HB := Aside0.mk (h2.below (fun k hk => by have := HL.out.ge; rcases hk with rfl | rfl <;> omega) HB.out.size (pw_below_drewN HB.out _))
  clear h1 h2
  go_wp2_with fail
  refine (Give.at 1 0 5 _ (HH.out.below (below_alloc (Below.refl _ _) _)) (by decide) (by decide)).mono ?_
  rintro e w6 ⟨rfl, h1, h2⟩
  have hg : giveB 0 0 0 1 0 5 = true := by decide
  rw [hg]
  have e15 : mxI 0 (5 + 10) = 15 := by decide
  unfold GiveHld at h1
  rw [if_pos hg, e15] at h1
  have q0 := cell_kept (show (w5.alloc (Obj.cells #[.int .i64 1, .int .i64 0] 34)).cell? ⟨w5.heap.size, 0, none⟩ = some (.int .i64 1) by go_simp) h2.kept (show ¬ w5.heap.size = gh by have := HH.out.lt; omega)
  have q1 := cell_kept (show (w5.alloc (Obj.cells #[.int .i64 1, .int .i64 0] 34)).cell? ⟨w5.heap.size, 1, none⟩ = some (.int .i64 0) by go_simp) h2.kept (show ¬ w5.heap.size = gh by have := HH.out.lt; omega)
  replace HL := Aside0.mk ((HL.out.below (below_alloc (Below.refl _ _) (Obj.cells #[.int .i64 1, .int .i64 0] 34))).kept h2.kept HN.out.1 HN.out.2)
  replace HB := Aside0.mk (h2.below (fun k hk => by rw [hk]; exact HH.out.2) (by have := HB.out.size; simp; omega) (below_alloc HB.out _))
  replace HH := Aside0.mk h1
  clear h1 h2 hg e15
  go_wp2_with fail
  refine (Counts.at 999 _ HL.out (askOk_of _ (by decide)) (by decide) (by decide) (by decide)).mono ?_
  rintro e w7 ⟨rfl, ⟨n2, rfl⟩⟩
  rw [show countsB [0, -1, 0] 1000 999 = true by decide]
  go_wp2_with fail
  refine (Counts.at 1000 _ (HL.out.below (pw_below_drewN (Below.refl _ _) _)) (askOk_of _ (by decide)) (by decide) (by decide) (by decide)).mono ?_
  rintro e w7 ⟨rfl, ⟨n3, rfl⟩⟩
  rw [show countsB [0, -1, 0] 1000 1000 = false by decide]
  go_wp2_with fail
  refine (Until.at _ (HH.out.below (pw_below_drewN (Below.refl _ _) _))).mono ?_
  rintro e w7 ⟨rfl, ⟨n4, rfl⟩⟩
  go_wp2_with fail
  refine (Blocks.at 2 0 14 _ (HH.out.below (pw_below_drewN (Below.refl _ _) _))).mono ?_
  rintro e w7 ⟨rfl, hb⟩
  rw [show blocksB 1 0 15 2 0 14 = true by decide]
  have hb1 := below_step (pw_below_drewN (Below.refl _ _) _) hb
  replace HH := Aside0.mk (HH.out.below hb1)
  replace HB := Aside0.mk (below_step HB.out hb1)
  replace q0 := pw_cell_below hb1 q0
  replace q1 := pw_cell_below hb1 q1
  clear hb hb1 HL
  go_wp2_with fail
  refine (Blocks.at 1 0 14 _ HH.out).mono ?_
  rintro e w8 ⟨rfl, hb⟩
  rw [show blocksB 1 0 15 1 0 14 = false by decide]
  replace HH := Aside0.mk (HH.out.below hb)
  replace HB := Aside0.mk (below_step HB.out hb)
  clear hb
  go_wp2_with fail
  refine (Blocks.at 2 0 15 _ HH.out).mono ?_
  rintro e w9 ⟨rfl, hb⟩
  rw [show blocksB 1 0 15 2 0 15 = false by decide]
  replace HB := Aside0.mk (below_step HB.out hb)
  clear hb
  go_wp2
  go_ret
  exact ⟨by rfl, HB.out⟩

set_option maxHeartbeats 8000000 in
set_option maxRecDepth 100000 in
theorem LeaseNobody.at (w : World) (kd nd n b0 b1 : Int) :
    Calls Try.prog 10 #[.agg #[.int .i64 kd, .int .i64 nd, .int .i64 n, .int .i64 b0, .int .i64 b1]] w fun e w' => e = .returned (.bool true) ∧ Below w.heap.size w w' := by
  have q0 : (w.alloc (Obj.cells #[.int .i64 kd, .int .i64 nd, .int .i64 n, .int .i64 b0, .int .i64 b1] 65)).cell? ⟨w.heap.size, 1, none⟩ = some (.int .i64 nd) := by go_simp
  have q1 : (w.alloc (Obj.cells #[.int .i64 kd, .int .i64 nd, .int .i64 n, .int .i64 b0, .int .i64 b1] 65)).cell? ⟨w.heap.size, 2, none⟩ = some (.int .i64 n) := by go_simp
  have q2 : (w.alloc (Obj.cells #[.int .i64 kd, .int .i64 nd, .int .i64 n, .int .i64 b0, .int .i64 b1] 65)).cell? ⟨w.heap.size, 3, none⟩ = some (.int .i64 b0) := by go_simp
  have q3 : (w.alloc (Obj.cells #[.int .i64 kd, .int .i64 nd, .int .i64 n, .int .i64 b0, .int .i64 b1] 65)).cell? ⟨w.heap.size, 4, none⟩ = some (.int .i64 b1) := by go_simp
  go_enter Try.func10, Try.ntmps10
  go_wp2_with fail
  refine (Grant.nil nd n _).mono ?_
  rintro e w1 ⟨rfl, ⟨n1, rfl⟩⟩
  go_wp2_with fail
  refine (Clear.nil _).mono ?_
  rintro e w1 ⟨rfl, ⟨n2, rfl⟩⟩
  go_wp2_with fail
  refine (Restart.nil n _).mono ?_
  rintro e w1 ⟨rfl, ⟨n3, rfl⟩⟩
  go_wp2_with fail
  refine (lives21.at _).mono ?_
  rintro e w1 ⟨rfl, hb⟩
  have HB := Aside0.mk (below_step (pw_below_drewN (below_alloc (Below.refl _ _) _) _) hb)
  have hb1 := below_step (pw_below_drewN (Below.refl _ _) _) hb
  replace q1 := pw_cell_below hb1 q1
  replace q2 := pw_cell_below hb1 q2
  replace q3 := pw_cell_below hb1 q3
  clear q0 hb hb1
  go_wp2_with fail
  refine (Counts.nil n _).mono ?_
  rintro e w2 ⟨rfl, ⟨n4, rfl⟩⟩
  go_wp2_with fail
  refine (LFork.nil _).mono ?_
  rintro e w2 ⟨rfl, ⟨n5, rfl⟩⟩
  go_wp2_with fail
  refine (Give.nil b0 b1 n _).mono ?_
  rintro e w2 ⟨rfl, hb⟩
  replace HB := Aside0.mk (below_step (pw_below_drewN HB.out _) hb)
  have hb1 := below_step (pw_below_drewN (Below.refl _ _) _) hb
  replace q1 := pw_cell_below hb1 q1
  replace q2 := pw_cell_below hb1 q2
  replace q3 := pw_cell_below hb1 q3
  clear hb hb1
  go_wp2_with fail
  refine (Blocks.nil b0 b1 n _).mono ?_
  rintro e w3 ⟨rfl, hb⟩
  replace HB := Aside0.mk (below_step HB.out hb)
  clear hb q1 q2 q3
  go_wp2_with fail
  refine (Until.nil _).mono ?_
  rintro e w4 ⟨rfl, ⟨n6, rfl⟩⟩
  go_wp2_with fail
  refine (HFork.nil _).mono ?_
  rintro e w4 ⟨rfl, ⟨n7, rfl⟩⟩
  go_wp2
  go_ret
  exact ⟨by rfl, pw_below_drewN HB.out _⟩
theorem LeaseNobody.walked (w : World) (x : O5) (_ : o5wf x) : Calls Try.prog 10 #[.agg #[.int .i64 x.kd, .int .i64 x.nd, .int .i64 x.n, .int .i64 x.b0, .int .i64 x.b1]] w fun e w' => e = .returned (.bool true) ∧ Below w.heap.size w w' := LeaseNobody.at w _ _ _ _ _
end Go.Proofs.Ytfmcpceilkkhfaa.P
