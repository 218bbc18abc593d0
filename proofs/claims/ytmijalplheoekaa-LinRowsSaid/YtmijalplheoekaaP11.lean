/- Contracts: a call of the Go function named below returns what the Lean function of that name says, in a world that keeps all that lay before; made by this session over the printer of the kit. -/
import Derived.Test.YtmijalplheoekaaP0
namespace Go.Proofs.Ytmijalplheoekaa.P
open Go.RowKit Go.Proofs.YtmijalplheoekaaW.PrintWords Go.Proofs.YtmijalplheoekaaW.PrintLast Go.Proofs.YtmijalplheoekaaW.PrintMore
attribute [local go_sem] max2_int min2_int max_two min_two max_three min_three max_four min_four   -- for this text's walks alone
set_option linter.unusedVariables false
set_option linter.unusedSimpArgs false

/-! ### lin_Bounds: function 11 -/
mutual
def lin_Bounds.l0 : Nat → ByteArray → Int → Int → Int → Int → List (S31) → Int → Int → Option (Int × Int)
  | 0, _, _, _, _, _, _, _, _ => none
  | k + 1, x1, x2, x6, x7, x8, x12, x13, x14 => if x14 < x13 then (if 0 ≤ x14 then (if x14 < (x12.length : Int) then (if ((rd_T31 x12 x14).f1).toList = x1.toList then (if (rd_T31 x12 x14).f0 = true then (if ((rd_T31 x12 x14).f3) = 0 then (lin_Bounds.l0 k x1 x2 x6 x7 (mn x8 ((rd_T31 x12 x14).f2)) x12 x13 (wrap64 (x14 + 1))) else (if ((rd_T31 x12 x14).f4) = x2 then (lin_Bounds.l0 k x1 x2 x6 (mn x7 ((rd_T31 x12 x14).f3)) (mn x8 ((rd_T31 x12 x14).f2)) x12 x13 (wrap64 (x14 + 1))) else (lin_Bounds.l0 k x1 x2 x6 x7 (mn x8 ((rd_T31 x12 x14).f2)) x12 x13 (wrap64 (x14 + 1))))) else (if ((rd_T31 x12 x14).f3) = 0 then (lin_Bounds.j1 k x1 x2 x6 x7 x8 (((rd_T31 x12 x14).f3) != 0) x12 x13 x14 false ((rd_T31 x12 x14).f0) ((rd_T31 x12 x14).f1) ((rd_T31 x12 x14).f2) ((rd_T31 x12 x14).f3) ((rd_T31 x12 x14).f4)) else (lin_Bounds.j1 k x1 x2 x6 x7 x8 (((rd_T31 x12 x14).f3) != 0) x12 x13 x14 (((rd_T31 x12 x14).f4) == 0) ((rd_T31 x12 x14).f0) ((rd_T31 x12 x14).f1) ((rd_T31 x12 x14).f2) ((rd_T31 x12 x14).f3) ((rd_T31 x12 x14).f4)))) else (lin_Bounds.l0 k x1 x2 x6 x7 x8 x12 x13 (wrap64 (x14 + 1)))) else (none)) else (none)) else (some (mx x6 x8, x7))
def lin_Bounds.j1 : Nat → ByteArray → Int → Int → Int → Int → Bool → List (S31) → Int → Int → Bool → Bool → ByteArray → Int → Int → Int → Option (Int × Int)
  | 0, _, _, _, _, _, _, _, _, _, _, _, _, _, _, _ => none
  | k + 1, x1, x2, x6, x7, x8, x11, x12, x13, x14, x32, x103000, x103001, x103002, x103003, x103004 => if x32 = true then (if x11 = true then (if x103004 = x2 then (lin_Bounds.l0 k x1 x2 (mx x6 x103002) (mn x7 x103003) x8 x12 x13 (wrap64 (x14 + 1))) else (lin_Bounds.l0 k x1 x2 (mx x6 x103002) x7 x8 x12 x13 (wrap64 (x14 + 1)))) else (lin_Bounds.l0 k x1 x2 (mx x6 x103002) x7 x8 x12 x13 (wrap64 (x14 + 1)))) else (if x11 = true then (if x103004 = x2 then (lin_Bounds.l0 k x1 x2 x6 (mn x7 x103003) x8 x12 x13 (wrap64 (x14 + 1))) else (lin_Bounds.l0 k x1 x2 x6 x7 x8 x12 x13 (wrap64 (x14 + 1)))) else (lin_Bounds.l0 k x1 x2 x6 x7 x8 x12 x13 (wrap64 (x14 + 1))))
end
def lin_Bounds.f (k : Nat) (l0 : List (S31)) (a1 : ByteArray) (a2 : Int) : Option (Int × Int) := lin_Bounds.l0 k a1 a2 0 4611686018427387904 4611686018427387904 l0 (l0.length : Int) 0
theorem lin_Bounds.mono_l : ∀ k, (∀ y0 y1 y2 y3 y4 y5 y6 y7, LeO (lin_Bounds.l0 k y0 y1 y2 y3 y4 y5 y6 y7) (lin_Bounds.l0 (k + 1) y0 y1 y2 y3 y4 y5 y6 y7)) ∧ (∀ y0 y1 y2 y3 y4 y5 y6 y7 y8 y9 y10 y11 y12 y13 y14, LeO (lin_Bounds.j1 k y0 y1 y2 y3 y4 y5 y6 y7 y8 y9 y10 y11 y12 y13 y14) (lin_Bounds.j1 (k + 1) y0 y1 y2 y3 y4 y5 y6 y7 y8 y9 y10 y11 y12 y13 y14))
  | 0 => ⟨fun _ _ _ _ _ _ _ _ r h => by simp [lin_Bounds.l0] at h, fun _ _ _ _ _ _ _ _ _ _ _ _ _ _ _ r h => by simp [lin_Bounds.j1] at h⟩
  | k + 1 => by
    obtain ⟨ih0, ih1⟩ := lin_Bounds.mono_l k
    refine ⟨?_, ?_⟩
    · intro y0 y1 y2 y3 y4 y5 y6 y7
      unfold lin_Bounds.l0
      repeat' first
      | (with_reducible exact ih0 _ _ _ _ _ _ _ _)
      | (with_reducible exact ih1 _ _ _ _ _ _ _ _ _ _ _ _ _ _ _)
      | (with_reducible exact LeO.refl _)
      | (with_reducible exact LeO.none _)
      | (with_reducible refine LeO.ite ?_ ?_)
      | (with_reducible refine LeO.bind ?_ (fun _ => ?_))
      | exact ih0 _ _ _ _ _ _ _ _
      | exact ih1 _ _ _ _ _ _ _ _ _ _ _ _ _ _ _
      | exact LeO.none _
      | refine LeO.ite ?_ ?_
      | refine LeO.bind ?_ (fun _ => ?_)
    · intro y0 y1 y2 y3 y4 y5 y6 y7 y8 y9 y10 y11 y12 y13 y14
      unfold lin_Bounds.j1
      repeat' first
      | (with_reducible exact ih0 _ _ _ _ _ _ _ _)
      | (with_reducible exact ih1 _ _ _ _ _ _ _ _ _ _ _ _ _ _ _)
      | (with_reducible exact LeO.refl _)
      | (with_reducible exact LeO.none _)
      | (with_reducible refine LeO.ite ?_ ?_)
      | (with_reducible refine LeO.bind ?_ (fun _ => ?_))
      | exact ih0 _ _ _ _ _ _ _ _
      | exact ih1 _ _ _ _ _ _ _ _ _ _ _ _ _ _ _
      | exact LeO.none _
      | refine LeO.ite ?_ ?_
      | refine LeO.bind ?_ (fun _ => ?_)
theorem lin_Bounds.mono : ∀ a0 a1 a2 k, LeO (lin_Bounds.f k a0 a1 a2) (lin_Bounds.f (k + 1) a0 a1 a2) := by
  intro a0 a1 a2 k
  obtain ⟨ih0, ih1⟩ := lin_Bounds.mono_l k
  unfold lin_Bounds.f
  repeat' first
      | (with_reducible exact ih0 _ _ _ _ _ _ _ _)
      | (with_reducible exact ih1 _ _ _ _ _ _ _ _ _ _ _ _ _ _ _)
      | (with_reducible exact LeO.refl _)
      | (with_reducible exact LeO.none _)
      | (with_reducible refine LeO.ite ?_ ?_)
      | (with_reducible refine LeO.bind ?_ (fun _ => ?_))
      | exact ih0 _ _ _ _ _ _ _ _
      | exact ih1 _ _ _ _ _ _ _ _ _ _ _ _ _ _ _
      | exact LeO.none _
      | refine LeO.ite ?_ ?_
      | refine LeO.bind ?_ (fun _ => ?_)
set_option maxHeartbeats 8000000 in
set_option maxRecDepth 100000 in
theorem lin_Bounds.calls (k : Nat) (A0 : Option Addr) (c0 : Nat) (l0 : List (S31)) (a1 : ByteArray) (a2 : Int) (r1 : Int) (r2 : Int) (w : World) (hr0 : Kd.C k31 w A0 l0.length l0) (hc0 : l0.length ≤ c0) (h : lin_Bounds.f k l0 a1 a2 = some (r1, r2)) :
    Calls Try.prog 11 #[.slice A0 l0.length c0, .string a1, .int .i64 a2] w fun e w' => e = .returned (.tuple #[.int .i64 r1, .int .i64 r2]) ∧ Below w.heap.size w w' := by
  have hu31 := Try.underlying31
  have HR0 := Aside0.mk hr0
  have HC0 := Aside0.mk hc0
  clear hr0 hc0
  have HB := Aside0.mk (Below.refl w.heap.size w)
  have H : (lin_Bounds.l0 k a1 a2 0 4611686018427387904 4611686018427387904 l0 (l0.length : Int) 0) = some (r1, r2) := h
  clear h
  have H' := Aside0.mk H
  clear H
  go_enter Try.func11, Try.ntmps11
  go_wp2
  go_loopg [6, 7, 8, 14] k (fun kq v6 v7 v8 v14 w' => ∃ (x6_1 : Int) (x7_1 : Int) (x8_1 : Int) (x14_1 : Int), v6 = .int .i64 x6_1 ∧ v7 = .int .i64 x7_1 ∧ v8 = .int .i64 x8_1 ∧ v14 = .int .i64 x14_1 ∧ Aside0 (lin_Bounds.l0 kq a1 a2 x6_1 x7_1 x8_1 l0 (l0.length : Int) x14_1 = some (r1, r2)) ∧ Aside0 (kq ≤ k) ∧ Aside0 (Below w.heap.size w w'))
  case atStart => exact ⟨(0), (4611686018427387904), (4611686018427387904), (0), (by first | rfl | (simp; done) | (simp [*]; done)), (by first | rfl | (simp; done) | (simp [*]; done)), (by first | rfl | (simp; done) | (simp [*]; done)), (by first | rfl | (simp; done) | (simp [*]; done)), H', ⟨Nat.le_refl _⟩, ⟨by repeat (first | (with_reducible first | exact HB.out | apply below_alloc | apply pw_below_drewN | apply below_drew1) | exact HB.out)⟩⟩
  case round =>
    clear H'
    try clear c1
    try clear p2
    obtain ⟨x6_1, x7_1, x8_1, x14_1, rfl, rfl, rfl, rfl, HA, HK1, HB⟩ := hrel
    cases gk with
    | zero => exact absurd HA.out (by simp [lin_Bounds.l0])
    | succ k1 =>
      have H := HA.out
      clear HA
      simp only [lin_Bounds.l0] at H
      by_cases c4 : x14_1 < (l0.length : Int)
      · rw [if_pos c4] at H
        have c4b0 : decide (x14_1 < (l0.length : Int)) = true := decide_eq_true c4
        clear c4
        by_cases c5 : 0 ≤ x14_1
        · rw [if_pos c5] at H
          have c5b0 : decide (0 ≤ x14_1) = true := decide_eq_true c5
          clear c5
          by_cases c6 : x14_1 < (l0.length : Int)
          · rw [if_pos c6] at H
            have c6b0 : decide (x14_1 < (l0.length : Int)) = true := decide_eq_true c6
            clear c6
            by_cases c7 : ((rd_T31 l0 x14_1).f1).toList = a1.toList
            · rw [if_pos c7] at H
              have c7b0 : (((rd_T31 l0 x14_1).f1).toList == a1.toList) = true := beq_iff_eq.mpr c7
              have c7b1 : (((rd_T31 l0 x14_1).f1).toList != a1.toList) = false := bne_eq_false_iff_eq.mpr c7
              clear c7
              obtain ⟨bq8, hbq8⟩ : ∃ b_ : Bool, b_ = ((rd_T31 l0 x14_1).f0) := ⟨_, rfl⟩
              replace H : (if bq8 = true then (if ((rd_T31 l0 x14_1).f3) = 0 then (lin_Bounds.l0 k1 a1 a2 x6_1 x7_1 (mn x8_1 ((rd_T31 l0 x14_1).f2)) l0 (l0.length : Int) (wrap64 (x14_1 + 1))) else (if ((rd_T31 l0 x14_1).f4) = a2 then (lin_Bounds.l0 k1 a1 a2 x6_1 (mn x7_1 ((rd_T31 l0 x14_1).f3)) (mn x8_1 ((rd_T31 l0 x14_1).f2)) l0 (l0.length : Int) (wrap64 (x14_1 + 1))) else (lin_Bounds.l0 k1 a1 a2 x6_1 x7_1 (mn x8_1 ((rd_T31 l0 x14_1).f2)) l0 (l0.length : Int) (wrap64 (x14_1 + 1))))) else (if ((rd_T31 l0 x14_1).f3) = 0 then (lin_Bounds.j1 k1 a1 a2 x6_1 x7_1 x8_1 (((rd_T31 l0 x14_1).f3) != 0) l0 (l0.length : Int) x14_1 false bq8 ((rd_T31 l0 x14_1).f1) ((rd_T31 l0 x14_1).f2) ((rd_T31 l0 x14_1).f3) ((rd_T31 l0 x14_1).f4)) else (lin_Bounds.j1 k1 a1 a2 x6_1 x7_1 x8_1 (((rd_T31 l0 x14_1).f3) != 0) l0 (l0.length : Int) x14_1 (((rd_T31 l0 x14_1).f4) == 0) bq8 ((rd_T31 l0 x14_1).f1) ((rd_T31 l0 x14_1).f2) ((rd_T31 l0 x14_1).f3) ((rd_T31 l0 x14_1).f4)))) = some (r1, r2) := by rw [← hbq8] at H; exact H
              have Nbq8 := Aside0.mk hbq8
              clear hbq8
              by_cases c9 : bq8 = true
              · subst c9
                have H1 : (if ((rd_T31 l0 x14_1).f3) = 0 then (lin_Bounds.l0 k1 a1 a2 x6_1 x7_1 (mn x8_1 ((rd_T31 l0 x14_1).f2)) l0 (l0.length : Int) (wrap64 (x14_1 + 1))) else (if ((rd_T31 l0 x14_1).f4) = a2 then (lin_Bounds.l0 k1 a1 a2 x6_1 (mn x7_1 ((rd_T31 l0 x14_1).f3)) (mn x8_1 ((rd_T31 l0 x14_1).f2)) l0 (l0.length : Int) (wrap64 (x14_1 + 1))) else (lin_Bounds.l0 k1 a1 a2 x6_1 x7_1 (mn x8_1 ((rd_T31 l0 x14_1).f2)) l0 (l0.length : Int) (wrap64 (x14_1 + 1))))) = some (r1, r2) := by rw [if_pos rfl] at H; exact H
                clear H
                have H := H1
                clear H1
                obtain ⟨ji10, hji10⟩ : ∃ j_ : Int, (mn x8_1 ((rd_T31 l0 x14_1).f2)) = j_ := ⟨_, rfl⟩
                replace H : (if ((rd_T31 l0 x14_1).f3) = 0 then (lin_Bounds.l0 k1 a1 a2 x6_1 x7_1 ji10 l0 (l0.length : Int) (wrap64 (x14_1 + 1))) else (if ((rd_T31 l0 x14_1).f4) = a2 then (lin_Bounds.l0 k1 a1 a2 x6_1 (mn x7_1 ((rd_T31 l0 x14_1).f3)) ji10 l0 (l0.length : Int) (wrap64 (x14_1 + 1))) else (lin_Bounds.l0 k1 a1 a2 x6_1 x7_1 ji10 l0 (l0.length : Int) (wrap64 (x14_1 + 1))))) = some (r1, r2) := by first | (rw [hji10] at H; exact H) | (simp only [hji10] at H ⊢; exact H)
                have hji10_ : (if ((rd_T31 l0 x14_1).f2) < x8_1 then ((rd_T31 l0 x14_1).f2) else x8_1) = ji10 := hji10
                by_cases c11 : ((rd_T31 l0 x14_1).f3) = 0
                · rw [if_pos c11] at H
                  have c11b0 : (((rd_T31 l0 x14_1).f3) == 0) = true := beq_iff_eq.mpr c11
                  have c11b1 : (((rd_T31 l0 x14_1).f3) != 0) = false := bne_eq_false_iff_eq.mpr c11
                  clear c11
                  have H' := Aside0.mk H
                  clear H
                  have p101 : 0 ≤ (x14_1 : Int) := of_decide_eq_true (by first | (with_reducible assumption) | assumption)
                  have q101 : x14_1 < (l0.length : Int) := of_decide_eq_true (by first | (with_reducible assumption) | assumption)
                  obtain ⟨ad101, e101, hx101_0, hx101_1, hx101_2, hx101_3, hx101_4⟩ := at_T31 HR0.out x14_1 p101 q101
                  (try rw [← Nbq8.out] at hx101_0)
                  cases e101
                  replace hx101_0 := (HB.out.cell (World.block_lt_of_cell? w _ hx101_0)).trans hx101_0
                  replace hx101_1 := (HB.out.cell (World.block_lt_of_cell? w _ hx101_1)).trans hx101_1
                  replace hx101_2 := (HB.out.cell (World.block_lt_of_cell? w _ hx101_2)).trans hx101_2
                  replace hx101_3 := (HB.out.cell (World.block_lt_of_cell? w _ hx101_3)).trans hx101_3
                  replace hx101_4 := (HB.out.cell (World.block_lt_of_cell? w _ hx101_4)).trans hx101_4
                  replace p101 := eq_true p101
                  replace q101 := eq_true q101
                  go_wp2_with (first | ((with_reducible refine gate_dst (N := 10) rfl ?_); refine box_event ?hg (N := 10) ?hd (cs := #[.bool false, .string (⟨#[]⟩ : ByteArray), .int .i64 0, .int .i64 0, .int .i64 0]) (t := 31) ?hr ?_; (case hd => rfl); (case hg => rfl); (case hr => first | (go_simp; done) | (go_simp; rfl)); intro gb102 hg w12 hbox hb; have n0_ := Aside0.mk (below_step (by repeat (first | (with_reducible first | exact HB.out | apply below_alloc | apply pw_below_drewN | apply below_drew1) | exact HB.out)) hb); have n1_ := Aside0.mk (hbox); have n2_ := Aside0.mk ((by rw [hg]; exact (below_size (by repeat (first | (with_reducible first | exact HB.out | apply below_alloc | apply pw_below_drewN | apply below_drew1) | exact HB.out))) : w.heap.size ≤ gb102)); have n3_ := Aside0.mk ((by rw [hg]; exact (below_size (by repeat (first | (with_reducible first | exact HB.out | apply below_alloc | apply pw_below_drewN | apply below_drew1) | exact HB.out))) : w.heap.size ≤ gb102)); clear HB; have HB := n0_; have BK102 := n1_; have GW102 := n2_; have GE102 := n3_; clear n0_ n1_ n2_ n3_; clear hb hbox hg; have hcz13_0 : w12.cell? ⟨gb102, 0, none⟩ = some (.bool false) := (blk_cell BK102.out 0).trans rfl; have hcz13_1 : w12.cell? ⟨gb102, 1, none⟩ = some (.string (⟨#[]⟩ : ByteArray)) := (blk_cell BK102.out 1).trans rfl; have hcz13_2 : w12.cell? ⟨gb102, 2, none⟩ = some (.int .i64 0) := (blk_cell BK102.out 2).trans rfl; have hcz13_3 : w12.cell? ⟨gb102, 3, none⟩ = some (.int .i64 0) := (blk_cell BK102.out 3).trans rfl; have hcz13_4 : w12.cell? ⟨gb102, 4, none⟩ = some (.int .i64 0) := (blk_cell BK102.out 4).trans rfl; have hfz13_0 := blk_frozen BK102.out 0; have hfz13_1 := blk_frozen BK102.out 1; have hfz13_2 := blk_frozen BK102.out 2; have hfz13_3 := blk_frozen BK102.out 3; have hfz13_4 := blk_frozen BK102.out 4))
                  go_roundg k1
                  case measure => have := HK1.out; omega
                  case rel => exact ⟨(x6_1), (x7_1), (ji10), (wrap64 (x14_1 + 1)), (by first | rfl | (simp; done) | (simp [*]; done)), (by first | rfl | (simp; done) | (simp [*]; done)), (by first | rfl | (simp; done) | (simp only [← hji10] <;> (first | rfl | simp)) | (simp [*]; done)), (by first | rfl | (simp; done) | (simp [*]; done)), H', ⟨by have := HK1.out; omega⟩, ⟨by repeat (first | (with_reducible first | exact HB.out | apply below_alloc | apply pw_below_drewN | apply below_drew1 | refine below_set ?_ GE102.out) | exact HB.out)⟩⟩
                · rw [if_neg c11] at H
                  have c11b0 : (((rd_T31 l0 x14_1).f3) == 0) = false := beq_eq_false_iff_ne.mpr c11
                  have c11b1 : (((rd_T31 l0 x14_1).f3) != 0) = true := bne_iff_ne.mpr c11
                  by_cases c14 : ((rd_T31 l0 x14_1).f4) = a2
                  · rw [if_pos c14] at H
                    have c14b0 : (((rd_T31 l0 x14_1).f4) == a2) = true := beq_iff_eq.mpr c14
                    have c14b1 : (((rd_T31 l0 x14_1).f4) != a2) = false := bne_eq_false_iff_eq.mpr c14
                    clear c14
                    obtain ⟨ji15, hji15⟩ : ∃ j_ : Int, (mn x7_1 ((rd_T31 l0 x14_1).f3)) = j_ := ⟨_, rfl⟩
                    replace H : (lin_Bounds.l0 k1 a1 a2 x6_1 ji15 ji10 l0 (l0.length : Int) (wrap64 (x14_1 + 1))) = some (r1, r2) := by first | (rw [hji15] at H; exact H) | (simp only [hji15] at H ⊢; exact H)
                    have hji15_ : (if ((rd_T31 l0 x14_1).f3) < x7_1 then ((rd_T31 l0 x14_1).f3) else x7_1) = ji15 := hji15
                    have H' := Aside0.mk H
                    clear H
                    have p101 : 0 ≤ (x14_1 : Int) := of_decide_eq_true (by first | (with_reducible assumption) | assumption)
                    have q101 : x14_1 < (l0.length : Int) := of_decide_eq_true (by first | (with_reducible assumption) | assumption)
                    obtain ⟨ad101, e101, hx101_0, hx101_1, hx101_2, hx101_3, hx101_4⟩ := at_T31 HR0.out x14_1 p101 q101
                    (try rw [← Nbq8.out] at hx101_0)
                    cases e101
                    replace hx101_0 := (HB.out.cell (World.block_lt_of_cell? w _ hx101_0)).trans hx101_0
                    replace hx101_1 := (HB.out.cell (World.block_lt_of_cell? w _ hx101_1)).trans hx101_1
                    replace hx101_2 := (HB.out.cell (World.block_lt_of_cell? w _ hx101_2)).trans hx101_2
                    replace hx101_3 := (HB.out.cell (World.block_lt_of_cell? w _ hx101_3)).trans hx101_3
                    replace hx101_4 := (HB.out.cell (World.block_lt_of_cell? w _ hx101_4)).trans hx101_4
                    replace p101 := eq_true p101
                    replace q101 := eq_true q101
                    go_wp2_with (first | ((with_reducible refine gate_dst (N := 10) rfl ?_); refine box_event ?hg (N := 10) ?hd (cs := #[.bool false, .string (⟨#[]⟩ : ByteArray), .int .i64 0, .int .i64 0, .int .i64 0]) (t := 31) ?hr ?_; (case hd => rfl); (case hg => rfl); (case hr => first | (go_simp; done) | (go_simp; rfl)); intro gb102 hg w16 hbox hb; have n0_ := Aside0.mk (below_step (by repeat (first | (with_reducible first | exact HB.out | apply below_alloc | apply pw_below_drewN | apply below_drew1) | exact HB.out)) hb); have n1_ := Aside0.mk (hbox); have n2_ := Aside0.mk ((by rw [hg]; exact (below_size (by repeat (first | (with_reducible first | exact HB.out | apply below_alloc | apply pw_below_drewN | apply below_drew1) | exact HB.out))) : w.heap.size ≤ gb102)); have n3_ := Aside0.mk ((by rw [hg]; exact (below_size (by repeat (first | (with_reducible first | exact HB.out | apply below_alloc | apply pw_below_drewN | apply below_drew1) | exact HB.out))) : w.heap.size ≤ gb102)); clear HB; have HB := n0_; have BK102 := n1_; have GW102 := n2_; have GE102 := n3_; clear n0_ n1_ n2_ n3_; clear hb hbox hg; have hcz17_0 : w16.cell? ⟨gb102, 0, none⟩ = some (.bool false) := (blk_cell BK102.out 0).trans rfl; have hcz17_1 : w16.cell? ⟨gb102, 1, none⟩ = some (.string (⟨#[]⟩ : ByteArray)) := (blk_cell BK102.out 1).trans rfl; have hcz17_2 : w16.cell? ⟨gb102, 2, none⟩ = some (.int .i64 0) := (blk_cell BK102.out 2).trans rfl; have hcz17_3 : w16.cell? ⟨gb102, 3, none⟩ = some (.int .i64 0) := (blk_cell BK102.out 3).trans rfl; have hcz17_4 : w16.cell? ⟨gb102, 4, none⟩ = some (.int .i64 0) := (blk_cell BK102.out 4).trans rfl; have hfz17_0 := blk_frozen BK102.out 0; have hfz17_1 := blk_frozen BK102.out 1; have hfz17_2 := blk_frozen BK102.out 2; have hfz17_3 := blk_frozen BK102.out 3; have hfz17_4 := blk_frozen BK102.out 4))
                    go_roundg k1
                    case measure => have := HK1.out; omega
                    case rel => exact ⟨(x6_1), (ji15), (ji10), (wrap64 (x14_1 + 1)), (by first | rfl | (simp; done) | (simp [*]; done)), (by first | rfl | (simp; done) | (simp only [← hji15] <;> (first | rfl | simp)) | (simp [*]; done)), (by first | rfl | (simp; done) | (simp only [← hji10] <;> (first | rfl | simp)) | (simp [*]; done)), (by first | rfl | (simp; done) | (simp [*]; done)), H', ⟨by have := HK1.out; omega⟩, ⟨by repeat (first | (with_reducible first | exact HB.out | apply below_alloc | apply pw_below_drewN | apply below_drew1 | refine below_set ?_ GE102.out) | exact HB.out)⟩⟩
                  · rw [if_neg c14] at H
                    have c14b0 : (((rd_T31 l0 x14_1).f4) == a2) = false := beq_eq_false_iff_ne.mpr c14
                    have c14b1 : (((rd_T31 l0 x14_1).f4) != a2) = true := bne_iff_ne.mpr c14
                    have H' := Aside0.mk H
                    clear H
                    have p101 : 0 ≤ (x14_1 : Int) := of_decide_eq_true (by first | (with_reducible assumption) | assumption)
                    have q101 : x14_1 < (l0.length : Int) := of_decide_eq_true (by first | (with_reducible assumption) | assumption)
                    obtain ⟨ad101, e101, hx101_0, hx101_1, hx101_2, hx101_3, hx101_4⟩ := at_T31 HR0.out x14_1 p101 q101
                    (try rw [← Nbq8.out] at hx101_0)
                    cases e101
                    replace hx101_0 := (HB.out.cell (World.block_lt_of_cell? w _ hx101_0)).trans hx101_0
                    replace hx101_1 := (HB.out.cell (World.block_lt_of_cell? w _ hx101_1)).trans hx101_1
                    replace hx101_2 := (HB.out.cell (World.block_lt_of_cell? w _ hx101_2)).trans hx101_2
                    replace hx101_3 := (HB.out.cell (World.block_lt_of_cell? w _ hx101_3)).trans hx101_3
                    replace hx101_4 := (HB.out.cell (World.block_lt_of_cell? w _ hx101_4)).trans hx101_4
                    replace p101 := eq_true p101
                    replace q101 := eq_true q101
                    go_wp2_with (first | ((with_reducible refine gate_dst (N := 10) rfl ?_); refine box_event ?hg (N := 10) ?hd (cs := #[.bool false, .string (⟨#[]⟩ : ByteArray), .int .i64 0, .int .i64 0, .int .i64 0]) (t := 31) ?hr ?_; (case hd => rfl); (case hg => rfl); (case hr => first | (go_simp; done) | (go_simp; rfl)); intro gb102 hg w18 hbox hb; have n0_ := Aside0.mk (below_step (by repeat (first | (with_reducible first | exact HB.out | apply below_alloc | apply pw_below_drewN | apply below_drew1) | exact HB.out)) hb); have n1_ := Aside0.mk (hbox); have n2_ := Aside0.mk ((by rw [hg]; exact (below_size (by repeat (first | (with_reducible first | exact HB.out | apply below_alloc | apply pw_below_drewN | apply below_drew1) | exact HB.out))) : w.heap.size ≤ gb102)); have n3_ := Aside0.mk ((by rw [hg]; exact (below_size (by repeat (first | (with_reducible first | exact HB.out | apply below_alloc | apply pw_below_drewN | apply below_drew1) | exact HB.out))) : w.heap.size ≤ gb102)); clear HB; have HB := n0_; have BK102 := n1_; have GW102 := n2_; have GE102 := n3_; clear n0_ n1_ n2_ n3_; clear hb hbox hg; have hcz19_0 : w18.cell? ⟨gb102, 0, none⟩ = some (.bool false) := (blk_cell BK102.out 0).trans rfl; have hcz19_1 : w18.cell? ⟨gb102, 1, none⟩ = some (.string (⟨#[]⟩ : ByteArray)) := (blk_cell BK102.out 1).trans rfl; have hcz19_2 : w18.cell? ⟨gb102, 2, none⟩ = some (.int .i64 0) := (blk_cell BK102.out 2).trans rfl; have hcz19_3 : w18.cell? ⟨gb102, 3, none⟩ = some (.int .i64 0) := (blk_cell BK102.out 3).trans rfl; have hcz19_4 : w18.cell? ⟨gb102, 4, none⟩ = some (.int .i64 0) := (blk_cell BK102.out 4).trans rfl; have hfz19_0 := blk_frozen BK102.out 0; have hfz19_1 := blk_frozen BK102.out 1; have hfz19_2 := blk_frozen BK102.out 2; have hfz19_3 := blk_frozen BK102.out 3; have hfz19_4 := blk_frozen BK102.out 4))
                    go_roundg k1
                    case measure => have := HK1.out; omega
                    case rel => exact ⟨(x6_1), (x7_1), (ji10), (wrap64 (x14_1 + 1)), (by first | rfl | (simp; done) | (simp [*]; done)), (by first | rfl | (simp; done) | (simp [*]; done)), (by first | rfl | (simp; done) | (simp only [← hji10] <;> (first | rfl | simp)) | (simp [*]; done)), (by first | rfl | (simp; done) | (simp [*]; done)), H', ⟨by have := HK1.out; omega⟩, ⟨by repeat (first | (with_reducible first | exact HB.out | apply below_alloc | apply pw_below_drewN | apply below_drew1 | refine below_set ?_ GE102.out) | exact HB.out)⟩⟩
              · replace c9 := Bool.eq_false_iff.mpr c9
                subst c9
                have H1 : (if ((rd_T31 l0 x14_1).f3) = 0 then (lin_Bounds.j1 k1 a1 a2 x6_1 x7_1 x8_1 (((rd_T31 l0 x14_1).f3) != 0) l0 (l0.length : Int) x14_1 false false ((rd_T31 l0 x14_1).f1) ((rd_T31 l0 x14_1).f2) ((rd_T31 l0 x14_1).f3) ((rd_T31 l0 x14_1).f4)) else (lin_Bounds.j1 k1 a1 a2 x6_1 x7_1 x8_1 (((rd_T31 l0 x14_1).f3) != 0) l0 (l0.length : Int) x14_1 (((rd_T31 l0 x14_1).f4) == 0) false ((rd_T31 l0 x14_1).f1) ((rd_T31 l0 x14_1).f2) ((rd_T31 l0 x14_1).f3) ((rd_T31 l0 x14_1).f4))) = some (r1, r2) := by rw [if_neg (show ¬ (false = true) by decide)] at H; exact H
                clear H
                have H := H1
                clear H1
                have HC20 := Aside0.mk H
                clear H
                have p101 : 0 ≤ (x14_1 : Int) := of_decide_eq_true (by first | (with_reducible assumption) | assumption)
                have q101 : x14_1 < (l0.length : Int) := of_decide_eq_true (by first | (with_reducible assumption) | assumption)
                obtain ⟨ad101, e101, hx101_0, hx101_1, hx101_2, hx101_3, hx101_4⟩ := at_T31 HR0.out x14_1 p101 q101
                (try rw [← Nbq8.out] at hx101_0)
                cases e101
                replace hx101_0 := (HB.out.cell (World.block_lt_of_cell? w _ hx101_0)).trans hx101_0
                replace hx101_1 := (HB.out.cell (World.block_lt_of_cell? w _ hx101_1)).trans hx101_1
                replace hx101_2 := (HB.out.cell (World.block_lt_of_cell? w _ hx101_2)).trans hx101_2
                replace hx101_3 := (HB.out.cell (World.block_lt_of_cell? w _ hx101_3)).trans hx101_3
                replace hx101_4 := (HB.out.cell (World.block_lt_of_cell? w _ hx101_4)).trans hx101_4
                replace p101 := eq_true p101
                replace q101 := eq_true q101
                go_upto_region 9 with (first | ((with_reducible refine gate_dst (N := 10) rfl ?_); refine box_event ?hg (N := 10) ?hd (cs := #[.bool false, .string (⟨#[]⟩ : ByteArray), .int .i64 0, .int .i64 0, .int .i64 0]) (t := 31) ?hr ?_; (case hd => rfl); (case hg => rfl); (case hr => first | (go_simp; done) | (go_simp; rfl)); intro gb102 hg w21 hbox hb; have n0_ := Aside0.mk (below_step (by repeat (first | (with_reducible first | exact HB.out | apply below_alloc | apply pw_below_drewN | apply below_drew1) | exact HB.out)) hb); have n1_ := Aside0.mk (hbox); have n2_ := Aside0.mk ((by rw [hg]; exact (below_size (by repeat (first | (with_reducible first | exact HB.out | apply below_alloc | apply pw_below_drewN | apply below_drew1) | exact HB.out))) : w.heap.size ≤ gb102)); have n3_ := Aside0.mk ((by rw [hg]; exact (below_size (by repeat (first | (with_reducible first | exact HB.out | apply below_alloc | apply pw_below_drewN | apply below_drew1) | exact HB.out))) : w.heap.size ≤ gb102)); clear HB; have HB := n0_; have BK102 := n1_; have GW102 := n2_; have GE102 := n3_; clear n0_ n1_ n2_ n3_; clear hb hbox hg; have hcz22_0 : w21.cell? ⟨gb102, 0, none⟩ = some (.bool false) := (blk_cell BK102.out 0).trans rfl; have hcz22_1 : w21.cell? ⟨gb102, 1, none⟩ = some (.string (⟨#[]⟩ : ByteArray)) := (blk_cell BK102.out 1).trans rfl; have hcz22_2 : w21.cell? ⟨gb102, 2, none⟩ = some (.int .i64 0) := (blk_cell BK102.out 2).trans rfl; have hcz22_3 : w21.cell? ⟨gb102, 3, none⟩ = some (.int .i64 0) := (blk_cell BK102.out 3).trans rfl; have hcz22_4 : w21.cell? ⟨gb102, 4, none⟩ = some (.int .i64 0) := (blk_cell BK102.out 4).trans rfl; have hfz22_0 := blk_frozen BK102.out 0; have hfz22_1 := blk_frozen BK102.out 1; have hfz22_2 := blk_frozen BK102.out 2; have hfz22_3 := blk_frozen BK102.out 3; have hfz22_4 := blk_frozen BK102.out 4))
                (try simp only [Act.put, List.setIfInBounds_toArray, List.set_cons_zero, List.set_cons_succ])
                go_cut [11, 32] (fun v11 v32 wc => ∃ (kq : Nat) (x32_19 : Bool), v11 = .bool (((rd_T31 l0 x14_1).f3) != 0) ∧ v32 = .bool x32_19 ∧ Aside0 (lin_Bounds.j1 kq a1 a2 x6_1 x7_1 x8_1 (((rd_T31 l0 x14_1).f3) != 0) l0 (l0.length : Int) x14_1 x32_19 false ((rd_T31 l0 x14_1).f1) ((rd_T31 l0 x14_1).f2) ((rd_T31 l0 x14_1).f3) ((rd_T31 l0 x14_1).f4) = some (r1, r2)) ∧ Aside0 (kq ≤ k1) ∧ Aside0 (wc.heap[gb102]? = some (.cells #[.bool false, .string ((rd_T31 l0 x14_1).f1), .int .i64 ((rd_T31 l0 x14_1).f2), .int .i64 ((rd_T31 l0 x14_1).f3), .int .i64 ((rd_T31 l0 x14_1).f4)] 31 (0, 0))) ∧ Aside0 (Below w.heap.size w wc))
                case first =>
                  have H := HC20.out
                  clear HC20
                  by_cases c23 : ((rd_T31 l0 x14_1).f3) = 0
                  · rw [if_pos c23] at H
                    have c23b0 : (((rd_T31 l0 x14_1).f3) == 0) = true := beq_iff_eq.mpr c23
                    have c23b1 : (((rd_T31 l0 x14_1).f3) != 0) = false := bne_eq_false_iff_eq.mpr c23
                    clear c23
                    (first | rw [c23b0] | (simp only [i64_w, i32_w]; rw [c23b0]) | skip)
                    have H' := Aside0.mk H
                    clear H
                    go_wp2
                    go_meet
                    case rel => exact ⟨_, (false), (by first | rfl | (rw [c23b1]; done) | (rw [c23b1]) | (simp [c23b1]; done) | (simp [*]; done)), (by first | rfl | (simp; done) | (simp [*]; done)), H', ⟨by have := HK1.out; first | omega | exact Nat.le_refl _⟩, ⟨by (with_reducible repeat (first | refine blk_drewN ?_ _ | refine blk_drew ?_ | refine blk_alloc ?_ _)); refine blk_put (cs := #[.bool false, .string ((rd_T31 l0 x14_1).f1), .int .i64 ((rd_T31 l0 x14_1).f2), .int .i64 ((rd_T31 l0 x14_1).f3), .int .i64 0]) ?_ 4 _ rfl; (with_reducible repeat (first | refine blk_drewN ?_ _ | refine blk_drew ?_ | refine blk_alloc ?_ _)); refine blk_put (cs := #[.bool false, .string ((rd_T31 l0 x14_1).f1), .int .i64 ((rd_T31 l0 x14_1).f2), .int .i64 0, .int .i64 0]) ?_ 3 _ rfl; (with_reducible repeat (first | refine blk_drewN ?_ _ | refine blk_drew ?_ | refine blk_alloc ?_ _)); refine blk_put (cs := #[.bool false, .string ((rd_T31 l0 x14_1).f1), .int .i64 0, .int .i64 0, .int .i64 0]) ?_ 2 _ rfl; (with_reducible repeat (first | refine blk_drewN ?_ _ | refine blk_drew ?_ | refine blk_alloc ?_ _)); refine blk_put (cs := #[.bool false, .string (⟨#[]⟩ : ByteArray), .int .i64 0, .int .i64 0, .int .i64 0]) ?_ 1 _ rfl; (with_reducible repeat (first | refine blk_drewN ?_ _ | refine blk_drew ?_ | refine blk_alloc ?_ _)); refine blk_put (cs := #[.bool false, .string (⟨#[]⟩ : ByteArray), .int .i64 0, .int .i64 0, .int .i64 0]) ?_ 0 _ rfl; (with_reducible repeat (first | refine blk_drewN ?_ _ | refine blk_drew ?_ | refine blk_alloc ?_ _)); exact BK102.out⟩, ⟨by repeat (first | (with_reducible first | exact HB.out | apply below_alloc | apply pw_below_drewN | apply below_drew1 | refine below_set ?_ GE102.out) | exact HB.out)⟩⟩
                  · rw [if_neg c23] at H
                    have c23b0 : (((rd_T31 l0 x14_1).f3) == 0) = false := beq_eq_false_iff_ne.mpr c23
                    have c23b1 : (((rd_T31 l0 x14_1).f3) != 0) = true := bne_iff_ne.mpr c23
                    (first | rw [c23b0] | (simp only [i64_w, i32_w]; rw [c23b0]) | skip)
                    have H' := Aside0.mk H
                    clear H
                    have hcz24_0 : w21.cell? ⟨gb102, 0, none⟩ = some (.bool false) := (blk_cell BK102.out 0).trans rfl
                    have hcz24_1 : w21.cell? ⟨gb102, 1, none⟩ = some (.string (⟨#[]⟩ : ByteArray)) := (blk_cell BK102.out 1).trans rfl
                    have hcz24_2 : w21.cell? ⟨gb102, 2, none⟩ = some (.int .i64 0) := (blk_cell BK102.out 2).trans rfl
                    have hcz24_3 : w21.cell? ⟨gb102, 3, none⟩ = some (.int .i64 0) := (blk_cell BK102.out 3).trans rfl
                    have hcz24_4 : w21.cell? ⟨gb102, 4, none⟩ = some (.int .i64 0) := (blk_cell BK102.out 4).trans rfl
                    have hfz24_0 := blk_frozen BK102.out 0
                    have hfz24_1 := blk_frozen BK102.out 1
                    have hfz24_2 := blk_frozen BK102.out 2
                    have hfz24_3 := blk_frozen BK102.out 3
                    have hfz24_4 := blk_frozen BK102.out 4
                    go_wp2
                    go_meet
                    case rel => exact ⟨_, ((((rd_T31 l0 x14_1).f4) == 0)), (by first | rfl | (rw [c23b1]; done) | (rw [c23b1]) | (simp [c23b1]; done) | (simp [*]; done)), (by first | rfl | (simp; done) | (simp [*]; done)), H', ⟨by have := HK1.out; first | omega | exact Nat.le_refl _⟩, ⟨by (with_reducible repeat (first | refine blk_drewN ?_ _ | refine blk_drew ?_ | refine blk_alloc ?_ _)); refine blk_put (cs := #[.bool false, .string ((rd_T31 l0 x14_1).f1), .int .i64 ((rd_T31 l0 x14_1).f2), .int .i64 ((rd_T31 l0 x14_1).f3), .int .i64 0]) ?_ 4 _ rfl; (with_reducible repeat (first | refine blk_drewN ?_ _ | refine blk_drew ?_ | refine blk_alloc ?_ _)); refine blk_put (cs := #[.bool false, .string ((rd_T31 l0 x14_1).f1), .int .i64 ((rd_T31 l0 x14_1).f2), .int .i64 0, .int .i64 0]) ?_ 3 _ rfl; (with_reducible repeat (first | refine blk_drewN ?_ _ | refine blk_drew ?_ | refine blk_alloc ?_ _)); refine blk_put (cs := #[.bool false, .string ((rd_T31 l0 x14_1).f1), .int .i64 0, .int .i64 0, .int .i64 0]) ?_ 2 _ rfl; (with_reducible repeat (first | refine blk_drewN ?_ _ | refine blk_drew ?_ | refine blk_alloc ?_ _)); refine blk_put (cs := #[.bool false, .string (⟨#[]⟩ : ByteArray), .int .i64 0, .int .i64 0, .int .i64 0]) ?_ 1 _ rfl; (with_reducible repeat (first | refine blk_drewN ?_ _ | refine blk_drew ?_ | refine blk_alloc ?_ _)); refine blk_put (cs := #[.bool false, .string (⟨#[]⟩ : ByteArray), .int .i64 0, .int .i64 0, .int .i64 0]) ?_ 0 _ rfl; (with_reducible repeat (first | refine blk_drewN ?_ _ | refine blk_drew ?_ | refine blk_alloc ?_ _)); exact BK102.out⟩, ⟨by repeat (first | (with_reducible first | exact HB.out | apply below_alloc | apply pw_below_drewN | apply below_drew1 | refine below_set ?_ GE102.out) | exact HB.out)⟩⟩
                case rest =>
                  clear HC20
                  try clear c1
                  try clear p1
                  try clear q1
                  try clear hx1
                  try clear c2
                  try clear p2
                  try clear c4
                  try clear c4b0
                  try clear c5
                  try clear c5b0
                  try clear c6
                  try clear c6b0
                  try clear p6
                  try clear c7
                  try clear c7b0
                  try clear c7b1
                  try clear q8
                  try clear c9
                  try clear p10
                  try clear q10
                  try clear hx10
                  try clear c11
                  try clear c11b0
                  try clear c11b1
                  try clear c14
                  try clear c14b0
                  try clear c14b1
                  try clear c23
                  try clear c23b0
                  try clear c23b1
                  try clear hcz13_0
                  try clear hcz13_1
                  try clear hcz13_2
                  try clear hcz13_3
                  try clear hcz13_4
                  try clear hcz17_0
                  try clear hcz17_1
                  try clear hcz17_2
                  try clear hcz17_3
                  try clear hcz17_4
                  try clear hcz19_0
                  try clear hcz19_1
                  try clear hcz19_2
                  try clear hcz19_3
                  try clear hcz19_4
                  try clear hcz22_0
                  try clear hcz22_1
                  try clear hcz22_2
                  try clear hcz22_3
                  try clear hcz22_4
                  try clear hcz24_0
                  try clear hcz24_1
                  try clear hcz24_2
                  try clear hcz24_3
                  try clear hcz24_4
                  try clear hfz13_0
                  try clear hfz13_1
                  try clear hfz13_2
                  try clear hfz13_3
                  try clear hfz13_4
                  try clear hfz17_0
                  try clear hfz17_1
                  try clear hfz17_2
                  try clear hfz17_3
                  try clear hfz17_4
                  try clear hfz19_0
                  try clear hfz19_1
                  try clear hfz19_2
                  try clear hfz19_3
                  try clear hfz19_4
                  try clear hfz22_0
                  try clear hfz22_1
                  try clear hfz22_2
                  try clear hfz22_3
                  try clear hfz22_4
                  try clear hfz24_0
                  try clear hfz24_1
                  try clear hfz24_2
                  try clear hfz24_3
                  try clear hfz24_4
                  try clear hx101_0
                  try clear hx101_1
                  try clear hx101_2
                  try clear hx101_3
                  try clear hx101_4
                  try clear p101
                  try clear p2
                  try clear q101
                  obtain ⟨kq, x32_19, rfl, rfl, HA, HJ19, BK102, HB⟩ := hcut
                  cases kq with
                  | zero => exact absurd HA.out (by simp [lin_Bounds.j1])
                  | succ kj19 =>
                    have H := HA.out
                    clear HA
                    simp only [lin_Bounds.j1] at H
                    by_cases c25 : x32_19 = true
                    · subst c25
                      have H1 : (if (((rd_T31 l0 x14_1).f3) != 0) = true then (if ((rd_T31 l0 x14_1).f4) = a2 then (lin_Bounds.l0 kj19 a1 a2 (mx x6_1 ((rd_T31 l0 x14_1).f2)) (mn x7_1 ((rd_T31 l0 x14_1).f3)) x8_1 l0 (l0.length : Int) (wrap64 (x14_1 + 1))) else (lin_Bounds.l0 kj19 a1 a2 (mx x6_1 ((rd_T31 l0 x14_1).f2)) x7_1 x8_1 l0 (l0.length : Int) (wrap64 (x14_1 + 1)))) else (lin_Bounds.l0 kj19 a1 a2 (mx x6_1 ((rd_T31 l0 x14_1).f2)) x7_1 x8_1 l0 (l0.length : Int) (wrap64 (x14_1 + 1)))) = some (r1, r2) := by rw [if_pos rfl] at H; exact H
                      clear H
                      have H := H1
                      clear H1
                      obtain ⟨ji26, hji26⟩ : ∃ j_ : Int, (mx x6_1 ((rd_T31 l0 x14_1).f2)) = j_ := ⟨_, rfl⟩
                      replace H : (if (((rd_T31 l0 x14_1).f3) != 0) = true then (if ((rd_T31 l0 x14_1).f4) = a2 then (lin_Bounds.l0 kj19 a1 a2 ji26 (mn x7_1 ((rd_T31 l0 x14_1).f3)) x8_1 l0 (l0.length : Int) (wrap64 (x14_1 + 1))) else (lin_Bounds.l0 kj19 a1 a2 ji26 x7_1 x8_1 l0 (l0.length : Int) (wrap64 (x14_1 + 1)))) else (lin_Bounds.l0 kj19 a1 a2 ji26 x7_1 x8_1 l0 (l0.length : Int) (wrap64 (x14_1 + 1)))) = some (r1, r2) := by first | (rw [hji26] at H; exact H) | (simp only [hji26] at H ⊢; exact H)
                      have hji26_ : (if x6_1 < ((rd_T31 l0 x14_1).f2) then ((rd_T31 l0 x14_1).f2) else x6_1) = ji26 := hji26
                      by_cases c27 : (((rd_T31 l0 x14_1).f3) != 0) = true
                      · rw [if_pos c27] at H
                        have c27b0 : (((rd_T31 l0 x14_1).f3) != 0) = true := c27
                        (try (have c27b1 : decide (((rd_T31 l0 x14_1).f3) = 0) = false := by simpa using c27))
                        (try (have c27b2 : (((rd_T31 l0 x14_1).f3) == 0) = false := by simpa using c27))
                        (try (have c27b3 : ¬ (((rd_T31 l0 x14_1).f3) = 0) := by simpa using c27))
                        clear c27
                        by_cases c28 : ((rd_T31 l0 x14_1).f4) = a2
                        · rw [if_pos c28] at H
                          have c28b0 : (((rd_T31 l0 x14_1).f4) == a2) = true := beq_iff_eq.mpr c28
                          have c28b1 : (((rd_T31 l0 x14_1).f4) != a2) = false := bne_eq_false_iff_eq.mpr c28
                          clear c28
                          obtain ⟨ji29, hji29⟩ : ∃ j_ : Int, (mn x7_1 ((rd_T31 l0 x14_1).f3)) = j_ := ⟨_, rfl⟩
                          replace H : (lin_Bounds.l0 kj19 a1 a2 ji26 ji29 x8_1 l0 (l0.length : Int) (wrap64 (x14_1 + 1))) = some (r1, r2) := by first | (rw [hji29] at H; exact H) | (simp only [hji29] at H ⊢; exact H)
                          have hji29_ : (if ((rd_T31 l0 x14_1).f3) < x7_1 then ((rd_T31 l0 x14_1).f3) else x7_1) = ji29 := hji29
                          have H' := Aside0.mk H
                          clear H
                          have hcz30_0 : wc.cell? ⟨gb102, 0, none⟩ = some (.bool false) := (blk_cell BK102.out 0).trans rfl
                          have hcz30_1 : wc.cell? ⟨gb102, 1, none⟩ = some (.string ((rd_T31 l0 x14_1).f1)) := (blk_cell BK102.out 1).trans rfl
                          have hcz30_2 : wc.cell? ⟨gb102, 2, none⟩ = some (.int .i64 ((rd_T31 l0 x14_1).f2)) := (blk_cell BK102.out 2).trans rfl
                          have hcz30_3 : wc.cell? ⟨gb102, 3, none⟩ = some (.int .i64 ((rd_T31 l0 x14_1).f3)) := (blk_cell BK102.out 3).trans rfl
                          have hcz30_4 : wc.cell? ⟨gb102, 4, none⟩ = some (.int .i64 ((rd_T31 l0 x14_1).f4)) := (blk_cell BK102.out 4).trans rfl
                          have hfz30_0 := blk_frozen BK102.out 0
                          have hfz30_1 := blk_frozen BK102.out 1
                          have hfz30_2 := blk_frozen BK102.out 2
                          have hfz30_3 := blk_frozen BK102.out 3
                          have hfz30_4 := blk_frozen BK102.out 4
                          go_wp2
                          go_roundg kj19
                          case measure => have := HK1.out; have := HJ19.out; omega
                          case rel => exact ⟨(ji26), (ji29), (x8_1), (wrap64 (x14_1 + 1)), (by first | rfl | (simp; done) | (simp only [← hji26] <;> (first | rfl | simp)) | (simp [*]; done)), (by first | rfl | (simp; done) | (simp only [← hji29] <;> (first | rfl | simp)) | (simp [*]; done)), (by first | rfl | (simp; done) | (simp [*]; done)), (by first | rfl | (simp; done) | (simp [*]; done)), H', ⟨by have := HK1.out; have := HJ19.out; omega⟩, ⟨by repeat (first | (with_reducible first | exact HB.out | apply below_alloc | apply pw_below_drewN | apply below_drew1 | refine below_set ?_ GE102.out) | exact HB.out)⟩⟩
                        · rw [if_neg c28] at H
                          have c28b0 : (((rd_T31 l0 x14_1).f4) == a2) = false := beq_eq_false_iff_ne.mpr c28
                          have c28b1 : (((rd_T31 l0 x14_1).f4) != a2) = true := bne_iff_ne.mpr c28
                          have H' := Aside0.mk H
                          clear H
                          have hcz31_0 : wc.cell? ⟨gb102, 0, none⟩ = some (.bool false) := (blk_cell BK102.out 0).trans rfl
                          have hcz31_1 : wc.cell? ⟨gb102, 1, none⟩ = some (.string ((rd_T31 l0 x14_1).f1)) := (blk_cell BK102.out 1).trans rfl
                          have hcz31_2 : wc.cell? ⟨gb102, 2, none⟩ = some (.int .i64 ((rd_T31 l0 x14_1).f2)) := (blk_cell BK102.out 2).trans rfl
                          have hcz31_3 : wc.cell? ⟨gb102, 3, none⟩ = some (.int .i64 ((rd_T31 l0 x14_1).f3)) := (blk_cell BK102.out 3).trans rfl
                          have hcz31_4 : wc.cell? ⟨gb102, 4, none⟩ = some (.int .i64 ((rd_T31 l0 x14_1).f4)) := (blk_cell BK102.out 4).trans rfl
                          have hfz31_0 := blk_frozen BK102.out 0
                          have hfz31_1 := blk_frozen BK102.out 1
                          have hfz31_2 := blk_frozen BK102.out 2
                          have hfz31_3 := blk_frozen BK102.out 3
                          have hfz31_4 := blk_frozen BK102.out 4
                          go_wp2
                          go_roundg kj19
                          case measure => have := HK1.out; have := HJ19.out; omega
                          case rel => exact ⟨(ji26), (x7_1), (x8_1), (wrap64 (x14_1 + 1)), (by first | rfl | (simp; done) | (simp only [← hji26] <;> (first | rfl | simp)) | (simp [*]; done)), (by first | rfl | (simp; done) | (simp [*]; done)), (by first | rfl | (simp; done) | (simp [*]; done)), (by first | rfl | (simp; done) | (simp [*]; done)), H', ⟨by have := HK1.out; have := HJ19.out; omega⟩, ⟨by repeat (first | (with_reducible first | exact HB.out | apply below_alloc | apply pw_below_drewN | apply below_drew1 | refine below_set ?_ GE102.out) | exact HB.out)⟩⟩
                      · rw [if_neg c27] at H
                        have c27b0 : (((rd_T31 l0 x14_1).f3) != 0) = false := by simpa using c27
                        (try (have c27b1 : decide (((rd_T31 l0 x14_1).f3) = 0) = true := by simpa using c27))
                        (try (have c27b2 : (((rd_T31 l0 x14_1).f3) == 0) = true := by simpa using c27))
                        clear c27
                        have H' := Aside0.mk H
                        clear H
                        have hcz32_0 : wc.cell? ⟨gb102, 0, none⟩ = some (.bool false) := (blk_cell BK102.out 0).trans rfl
                        have hcz32_1 : wc.cell? ⟨gb102, 1, none⟩ = some (.string ((rd_T31 l0 x14_1).f1)) := (blk_cell BK102.out 1).trans rfl
                        have hcz32_2 : wc.cell? ⟨gb102, 2, none⟩ = some (.int .i64 ((rd_T31 l0 x14_1).f2)) := (blk_cell BK102.out 2).trans rfl
                        have hcz32_3 : wc.cell? ⟨gb102, 3, none⟩ = some (.int .i64 ((rd_T31 l0 x14_1).f3)) := (blk_cell BK102.out 3).trans rfl
                        have hcz32_4 : wc.cell? ⟨gb102, 4, none⟩ = some (.int .i64 ((rd_T31 l0 x14_1).f4)) := (blk_cell BK102.out 4).trans rfl
                        have hfz32_0 := blk_frozen BK102.out 0
                        have hfz32_1 := blk_frozen BK102.out 1
                        have hfz32_2 := blk_frozen BK102.out 2
                        have hfz32_3 := blk_frozen BK102.out 3
                        have hfz32_4 := blk_frozen BK102.out 4
                        go_wp2
                        go_roundg kj19
                        case measure => have := HK1.out; have := HJ19.out; omega
                        case rel => exact ⟨(ji26), (x7_1), (x8_1), (wrap64 (x14_1 + 1)), (by first | rfl | (simp; done) | (simp only [← hji26] <;> (first | rfl | simp)) | (simp [*]; done)), (by first | rfl | (simp; done) | (simp [*]; done)), (by first | rfl | (simp; done) | (simp [*]; done)), (by first | rfl | (simp; done) | (simp [*]; done)), H', ⟨by have := HK1.out; have := HJ19.out; omega⟩, ⟨by repeat (first | (with_reducible first | exact HB.out | apply below_alloc | apply pw_below_drewN | apply below_drew1 | refine below_set ?_ GE102.out) | exact HB.out)⟩⟩
                    · replace c25 := Bool.eq_false_iff.mpr c25
                      subst c25
                      have H1 : (if (((rd_T31 l0 x14_1).f3) != 0) = true then (if ((rd_T31 l0 x14_1).f4) = a2 then (lin_Bounds.l0 kj19 a1 a2 x6_1 (mn x7_1 ((rd_T31 l0 x14_1).f3)) x8_1 l0 (l0.length : Int) (wrap64 (x14_1 + 1))) else (lin_Bounds.l0 kj19 a1 a2 x6_1 x7_1 x8_1 l0 (l0.length : Int) (wrap64 (x14_1 + 1)))) else (lin_Bounds.l0 kj19 a1 a2 x6_1 x7_1 x8_1 l0 (l0.length : Int) (wrap64 (x14_1 + 1)))) = some (r1, r2) := by rw [if_neg (show ¬ (false = true) by decide)] at H; exact H
                      clear H
                      have H := H1
                      clear H1
                      by_cases c33 : (((rd_T31 l0 x14_1).f3) != 0) = true
                      · rw [if_pos c33] at H
                        have c33b0 : (((rd_T31 l0 x14_1).f3) != 0) = true := c33
                        (try (have c33b1 : decide (((rd_T31 l0 x14_1).f3) = 0) = false := by simpa using c33))
                        (try (have c33b2 : (((rd_T31 l0 x14_1).f3) == 0) = false := by simpa using c33))
                        (try (have c33b3 : ¬ (((rd_T31 l0 x14_1).f3) = 0) := by simpa using c33))
                        clear c33
                        by_cases c34 : ((rd_T31 l0 x14_1).f4) = a2
                        · rw [if_pos c34] at H
                          have c34b0 : (((rd_T31 l0 x14_1).f4) == a2) = true := beq_iff_eq.mpr c34
                          have c34b1 : (((rd_T31 l0 x14_1).f4) != a2) = false := bne_eq_false_iff_eq.mpr c34
                          clear c34
                          obtain ⟨ji35, hji35⟩ : ∃ j_ : Int, (mn x7_1 ((rd_T31 l0 x14_1).f3)) = j_ := ⟨_, rfl⟩
                          replace H : (lin_Bounds.l0 kj19 a1 a2 x6_1 ji35 x8_1 l0 (l0.length : Int) (wrap64 (x14_1 + 1))) = some (r1, r2) := by first | (rw [hji35] at H; exact H) | (simp only [hji35] at H ⊢; exact H)
                          have hji35_ : (if ((rd_T31 l0 x14_1).f3) < x7_1 then ((rd_T31 l0 x14_1).f3) else x7_1) = ji35 := hji35
                          have H' := Aside0.mk H
                          clear H
                          have hcz36_0 : wc.cell? ⟨gb102, 0, none⟩ = some (.bool false) := (blk_cell BK102.out 0).trans rfl
                          have hcz36_1 : wc.cell? ⟨gb102, 1, none⟩ = some (.string ((rd_T31 l0 x14_1).f1)) := (blk_cell BK102.out 1).trans rfl
                          have hcz36_2 : wc.cell? ⟨gb102, 2, none⟩ = some (.int .i64 ((rd_T31 l0 x14_1).f2)) := (blk_cell BK102.out 2).trans rfl
                          have hcz36_3 : wc.cell? ⟨gb102, 3, none⟩ = some (.int .i64 ((rd_T31 l0 x14_1).f3)) := (blk_cell BK102.out 3).trans rfl
                          have hcz36_4 : wc.cell? ⟨gb102, 4, none⟩ = some (.int .i64 ((rd_T31 l0 x14_1).f4)) := (blk_cell BK102.out 4).trans rfl
                          have hfz36_0 := blk_frozen BK102.out 0
                          have hfz36_1 := blk_frozen BK102.out 1
                          have hfz36_2 := blk_frozen BK102.out 2
                          have hfz36_3 := blk_frozen BK102.out 3
                          have hfz36_4 := blk_frozen BK102.out 4
                          go_wp2
                          go_roundg kj19
                          case measure => have := HK1.out; have := HJ19.out; omega
                          case rel => exact ⟨(x6_1), (ji35), (x8_1), (wrap64 (x14_1 + 1)), (by first | rfl | (simp; done) | (simp [*]; done)), (by first | rfl | (simp; done) | (simp only [← hji35] <;> (first | rfl | simp)) | (simp [*]; done)), (by first | rfl | (simp; done) | (simp [*]; done)), (by first | rfl | (simp; done) | (simp [*]; done)), H', ⟨by have := HK1.out; have := HJ19.out; omega⟩, ⟨by repeat (first | (with_reducible first | exact HB.out | apply below_alloc | apply pw_below_drewN | apply below_drew1 | refine below_set ?_ GE102.out) | exact HB.out)⟩⟩
                        · rw [if_neg c34] at H
                          have c34b0 : (((rd_T31 l0 x14_1).f4) == a2) = false := beq_eq_false_iff_ne.mpr c34
                          have c34b1 : (((rd_T31 l0 x14_1).f4) != a2) = true := bne_iff_ne.mpr c34
                          have H' := Aside0.mk H
                          clear H
                          have hcz37_0 : wc.cell? ⟨gb102, 0, none⟩ = some (.bool false) := (blk_cell BK102.out 0).trans rfl
                          have hcz37_1 : wc.cell? ⟨gb102, 1, none⟩ = some (.string ((rd_T31 l0 x14_1).f1)) := (blk_cell BK102.out 1).trans rfl
                          have hcz37_2 : wc.cell? ⟨gb102, 2, none⟩ = some (.int .i64 ((rd_T31 l0 x14_1).f2)) := (blk_cell BK102.out 2).trans rfl
                          have hcz37_3 : wc.cell? ⟨gb102, 3, none⟩ = some (.int .i64 ((rd_T31 l0 x14_1).f3)) := (blk_cell BK102.out 3).trans rfl
                          have hcz37_4 : wc.cell? ⟨gb102, 4, none⟩ = some (.int .i64 ((rd_T31 l0 x14_1).f4)) := (blk_cell BK102.out 4).trans rfl
                          have hfz37_0 := blk_frozen BK102.out 0
                          have hfz37_1 := blk_frozen BK102.out 1
                          have hfz37_2 := blk_frozen BK102.out 2
                          have hfz37_3 := blk_frozen BK102.out 3
                          have hfz37_4 := blk_frozen BK102.out 4
                          go_wp2
                          go_roundg kj19
                          case measure => have := HK1.out; have := HJ19.out; omega
                          case rel => exact ⟨(x6_1), (x7_1), (x8_1), (wrap64 (x14_1 + 1)), (by first | rfl | (simp; done) | (simp [*]; done)), (by first | rfl | (simp; done) | (simp [*]; done)), (by first | rfl | (simp; done) | (simp [*]; done)), (by first | rfl | (simp; done) | (simp [*]; done)), H', ⟨by have := HK1.out; have := HJ19.out; omega⟩, ⟨by repeat (first | (with_reducible first | exact HB.out | apply below_alloc | apply pw_below_drewN | apply below_drew1 | refine below_set ?_ GE102.out) | exact HB.out)⟩⟩
                      · rw [if_neg c33] at H
                        have c33b0 : (((rd_T31 l0 x14_1).f3) != 0) = false := by simpa using c33
                        (try (have c33b1 : decide (((rd_T31 l0 x14_1).f3) = 0) = true := by simpa using c33))
                        (try (have c33b2 : (((rd_T31 l0 x14_1).f3) == 0) = true := by simpa using c33))
                        clear c33
                        have H' := Aside0.mk H
                        clear H
                        go_wp2
                        go_roundg kj19
                        case measure => have := HK1.out; have := HJ19.out; omega
                        case rel => exact ⟨(x6_1), (x7_1), (x8_1), (wrap64 (x14_1 + 1)), (by first | rfl | (simp; done) | (simp [*]; done)), (by first | rfl | (simp; done) | (simp [*]; done)), (by first | rfl | (simp; done) | (simp [*]; done)), (by first | rfl | (simp; done) | (simp [*]; done)), H', ⟨by have := HK1.out; have := HJ19.out; omega⟩, ⟨by repeat (first | (with_reducible first | exact HB.out | apply below_alloc | apply pw_below_drewN | apply below_drew1 | refine below_set ?_ GE102.out) | exact HB.out)⟩⟩
            · rw [if_neg c7] at H
              have c7b0 : (((rd_T31 l0 x14_1).f1).toList == a1.toList) = false := beq_eq_false_iff_ne.mpr c7
              have c7b1 : (((rd_T31 l0 x14_1).f1).toList != a1.toList) = true := bne_iff_ne.mpr c7
              have H' := Aside0.mk H
              clear H
              have p101 : 0 ≤ (x14_1 : Int) := of_decide_eq_true (by first | (with_reducible assumption) | assumption)
              have q101 : x14_1 < (l0.length : Int) := of_decide_eq_true (by first | (with_reducible assumption) | assumption)
              obtain ⟨ad101, e101, hx101_0, hx101_1, hx101_2, hx101_3, hx101_4⟩ := at_T31 HR0.out x14_1 p101 q101
              cases e101
              replace hx101_0 := (HB.out.cell (World.block_lt_of_cell? w _ hx101_0)).trans hx101_0
              replace hx101_1 := (HB.out.cell (World.block_lt_of_cell? w _ hx101_1)).trans hx101_1
              replace hx101_2 := (HB.out.cell (World.block_lt_of_cell? w _ hx101_2)).trans hx101_2
              replace hx101_3 := (HB.out.cell (World.block_lt_of_cell? w _ hx101_3)).trans hx101_3
              replace hx101_4 := (HB.out.cell (World.block_lt_of_cell? w _ hx101_4)).trans hx101_4
              replace p101 := eq_true p101
              replace q101 := eq_true q101
              go_wp2_with (first | ((with_reducible refine gate_dst (N := 10) rfl ?_); refine box_event ?hg (N := 10) ?hd (cs := #[.bool false, .string (⟨#[]⟩ : ByteArray), .int .i64 0, .int .i64 0, .int .i64 0]) (t := 31) ?hr ?_; (case hd => rfl); (case hg => rfl); (case hr => first | (go_simp; done) | (go_simp; rfl)); intro gb102 hg w38 hbox hb; have n0_ := Aside0.mk (below_step (by repeat (first | (with_reducible first | exact HB.out | apply below_alloc | apply pw_below_drewN | apply below_drew1) | exact HB.out)) hb); have n1_ := Aside0.mk (hbox); have n2_ := Aside0.mk ((by rw [hg]; exact (below_size (by repeat (first | (with_reducible first | exact HB.out | apply below_alloc | apply pw_below_drewN | apply below_drew1) | exact HB.out))) : w.heap.size ≤ gb102)); have n3_ := Aside0.mk ((by rw [hg]; exact (below_size (by repeat (first | (with_reducible first | exact HB.out | apply below_alloc | apply pw_below_drewN | apply below_drew1) | exact HB.out))) : w.heap.size ≤ gb102)); clear HB; have HB := n0_; have BK102 := n1_; have GW102 := n2_; have GE102 := n3_; clear n0_ n1_ n2_ n3_; clear hb hbox hg; have hcz39_0 : w38.cell? ⟨gb102, 0, none⟩ = some (.bool false) := (blk_cell BK102.out 0).trans rfl; have hcz39_1 : w38.cell? ⟨gb102, 1, none⟩ = some (.string (⟨#[]⟩ : ByteArray)) := (blk_cell BK102.out 1).trans rfl; have hcz39_2 : w38.cell? ⟨gb102, 2, none⟩ = some (.int .i64 0) := (blk_cell BK102.out 2).trans rfl; have hcz39_3 : w38.cell? ⟨gb102, 3, none⟩ = some (.int .i64 0) := (blk_cell BK102.out 3).trans rfl; have hcz39_4 : w38.cell? ⟨gb102, 4, none⟩ = some (.int .i64 0) := (blk_cell BK102.out 4).trans rfl; have hfz39_0 := blk_frozen BK102.out 0; have hfz39_1 := blk_frozen BK102.out 1; have hfz39_2 := blk_frozen BK102.out 2; have hfz39_3 := blk_frozen BK102.out 3; have hfz39_4 := blk_frozen BK102.out 4))
              go_roundg k1
              case measure => have := HK1.out; omega
              case rel => exact ⟨(x6_1), (x7_1), (x8_1), (wrap64 (x14_1 + 1)), (by first | rfl | (simp; done) | (simp [*]; done)), (by first | rfl | (simp; done) | (simp [*]; done)), (by first | rfl | (simp; done) | (simp [*]; done)), (by first | rfl | (simp; done) | (simp [*]; done)), H', ⟨by have := HK1.out; omega⟩, ⟨by repeat (first | (with_reducible first | exact HB.out | apply below_alloc | apply pw_below_drewN | apply below_drew1 | refine below_set ?_ GE102.out) | exact HB.out)⟩⟩
          · rw [if_neg c6] at H
            exact absurd H (by simp)
        · rw [if_neg c5] at H
          exact absurd H (by simp)
      · rw [if_neg c4] at H
        have c4b0 : decide (x14_1 < (l0.length : Int)) = false := decide_eq_false c4
        clear c4
        obtain ⟨ji40, hji40⟩ : ∃ j_ : Int, (mx x6_1 x8_1) = j_ := ⟨_, rfl⟩
        replace H : (some (ji40, x7_1)) = some (r1, r2) := by first | (rw [hji40] at H; exact H) | (simp only [hji40] at H ⊢; exact H)
        have hji40_ : (if x6_1 < x8_1 then x8_1 else x6_1) = ji40 := hji40
        simp only [Option.some.injEq, Prod.mk.injEq] at H
        obtain ⟨rfl, rfl⟩ := H
        go_wp2
        go_ret2
        exact ⟨by first | rfl | (simp [errW_none, errW_some] <;> rfl) | (simp only [← hji40]; first | rfl | (simp [errW_none, errW_some] <;> rfl)) | (simp [*, errW_none, errW_some] <;> rfl), by repeat (first | (with_reducible first | exact HB.out | apply below_alloc | apply pw_below_drewN | apply below_drew1) | exact HB.out)⟩

end Go.Proofs.Ytmijalplheoekaa.P
