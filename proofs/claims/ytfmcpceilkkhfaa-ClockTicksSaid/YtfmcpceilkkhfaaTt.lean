/- The statement ClockTicks: the law behind it, and the walk. -/
import Derived.Test.YtfmcpceilkkhfaaRt
import Derived.Test.YtfmcpceilkkhfaaOp
namespace Go.Proofs.Ytfmcpceilkkhfaa.P
open Go.RowKit Go.Proofs.YtfmcpceilkkhfaaW.PrintWords Go.Proofs.YtfmcpceilkkhfaaW.PrintLast Go.Proofs.YtfmcpceilkkhfaaW.PrintMore
attribute [local go_sem] max2_int min2_int max_two min_two max_three min_three max_four min_four
set_option linter.unusedVariables false
set_option linter.unusedSimpArgs false
theorem RNow.any {B g : Nat} {ok : Nat → Prop} {n : Int} {v : Value} {L : List S44} (k : Int) (w : World) (h : Ref w B g ok n v L) (hl : L.length < 17592186044416) (hi : RInv n L) :
    Calls Try.prog 33 #[.pointer (some ⟨g, 0, none⟩), .int .i64 k] w fun e w' => e = .returned (.int .i64 (rnow n L k)) ∧ Below w.heap.size w w' := by
  by_cases hk : 0 ≤ k ∧ k < n
  · refine (RNow.at k w h hl hk hi.each (hi.po k hk.1 hk.2)).mono ?_
    rintro e w' ⟨rfl, hd⟩
    exact ⟨by unfold rnow; rw [if_pos hk], Drawn0.below hd⟩
  · refine (RNow.bad k w h hk).mono ?_
    rintro e w' ⟨rfl, hd⟩
    exact ⟨by unfold rnow; rw [if_neg hk], Drawn0.below hd⟩
/-- The clocks and the reference's ticks, apart from each other and from all that came in. -/
def Phs (w W : World) (gx g b : Nat) (n t : Int) (now : List Int) (dr : Int) (v : Value) (L : List S44) : Prop :=
  Clk W w.heap.size g b t now dr ∧ Ref W w.heap.size gx (fun k => k ≠ gx ∧ k ≠ g ∧ k ≠ b) n v L ∧ gx ≠ g ∧ gx ≠ b ∧ Below w.heap.size w W
def OwnR (W w : World) (gx g b : Nat) (v : Value) (A : Option Addr) (c : Nat) (on : List Int) : Prop :=
  Kd.R (Kd.int .i64) 3 W w.heap.size (fun k => k ≠ g ∧ k ≠ b ∧ k ≠ gx ∧ v.ownBlock ≠ some k) (.slice A on.length c) on
theorem Phs.below {w W W' : World} {gx g b : Nat} {n t dr : Int} {now : List Int} {v : Value} {L : List S44} (h : Phs w W gx g b n t now dr v L) (hb : Below W.heap.size W W') : Phs w W' gx g b n t now dr v L :=
  ⟨h.1.below hb, h.2.1.below hb, h.2.2.1, h.2.2.2.1, below_step h.2.2.2.2 hb⟩
theorem Phs.clk {w W W' : World} {gx g b : Nat} {n t dr t' dr' : Int} {now now' : List Int} {v : Value} {L : List S44} (h : Phs w W gx g b n t now dr v L) (hc : Clk W' w.heap.size g b t' now' dr') (hf : Fr (fun k => k = g ∨ k = b) W W') : Phs w W' gx g b n t' now' dr' v L :=
  ⟨hc, h.2.1.kept hf.kept (fun e => e.elim h.2.2.1 h.2.2.2.1) (fun k hk e => e.elim hk.2.1 hk.2.2), h.2.2.1, h.2.2.2.1, hf.below (fun k hk => by have := h.1.ge; rcases hk with rfl | rfl <;> omega) h.2.2.2.2.size h.2.2.2.2⟩
theorem Phs.ref {w W W' : World} {gx g b : Nat} {n t dr : Int} {now : List Int} {v v' : Value} {L L' : List S44} (h : Phs w W gx g b n t now dr v L) (hr : Ref W' w.heap.size gx (fun k => k ≠ gx ∧ k ≠ g ∧ k ≠ b) n v' L') (hf : Fr (fun k => k = gx ∨ v.ownBlock = some k) W W') : Phs w W' gx g b n t now dr v' L' :=
  ⟨h.1.kept hf.kept (fun e => e.elim (fun e => h.2.2.1 e.symm) (fun e => (h.2.1.2.1.1 g e).2.1 rfl)) (fun e => e.elim (fun e => h.2.2.2.1 e.symm) (fun e => (h.2.1.2.1.1 b e).2.2 rfl)), hr, h.2.2.1, h.2.2.2.1,
    hf.below (fun k hk => by
      rcases hk with rfl | hk
      · exact h.2.1.2.2.1
      · exact ((Kd.R_bound h.2.1.2.1).1 k hk).2.1) h.2.2.2.2.size h.2.2.2.2⟩
theorem OwnR.hon {W w : World} {gx g b c : Nat} {v : Value} {A : Option Addr} {on : List Int} (h : OwnR W w gx g b v A c on) : ∀ W', Kept W W' (fun k => k = g ∨ k = b) → Kd.C (Kd.int .i64) W' A on.length on :=
  fun W' hk => (Kd.R_reads' (Kd.R_kept h hk (fun k q e => e.elim q.1 q.2.1))).2.2
theorem OwnR.clk {W W' w : World} {gx g b c : Nat} {v : Value} {A : Option Addr} {on : List Int} (h : OwnR W w gx g b v A c on) (hf : Fr (fun k => k = g ∨ k = b) W W') : OwnR W' w gx g b v A c on :=
  Kd.R_kept h hf.kept (fun k q e => e.elim q.1 q.2.1)
theorem OwnR.ref {W W' w : World} {gx g b c : Nat} {v : Value} {A : Option Addr} {on : List Int} (h : OwnR W w gx g b v A c on) (hf : Fr (fun k => k = gx ∨ v.ownBlock = some k) W W') : Kd.C (Kd.int .i64) W' A on.length on :=
  (Kd.R_reads' (Kd.R_kept h hf.kept (fun k q e => e.elim q.2.2.1 q.2.2.2))).2.2
theorem OwnR.below {W W' w : World} {gx g b c : Nat} {v : Value} {A : Option Addr} {on : List Int} (h : OwnR W w gx g b v A c on) (hb : Below W.heap.size W W') : OwnR W' w gx g b v A c on := Kd.R_below h hb
def C24 (w : World) (gx g b : Nat) (n t : Int) (now : List Int) (dr : Int) (v : Value) (L Ln : List S44) (A2 : Option Addr) (c2 : Nat) (on : List Int) (time code : Int) : Prop :=
  ∀ W, Phs w W gx g b n t now dr v L → OwnR W w gx g b v A2 c2 on → Calls Try.prog 24 #[.pointer (some ⟨g, 0, none⟩), .int .i64 time, .slice A2 on.length c2] W fun e W' => e = .returned (.int .i64 code) ∧ ∃ t' now' dr', Phs w W' gx g b n t' now' dr' v L ∧ OwnR W' w gx g b v A2 c2 on ∧ TInv n t' now' dr' Ln
def C31 (w : World) (gx g b : Nat) (n : Int) (v : Value) (L Ln : List S44) (A2 : Option Addr) (c2 : Nat) (A0 : Option Addr) (c0 : Nat) (on : List Int) (time code : Int) : Prop :=
  ∀ W t' now' dr', Phs w W gx g b n t' now' dr' v L → OwnR W w gx g b v A2 c2 on → Calls Try.prog 31 #[.pointer (some ⟨gx, 0, none⟩), .int .i64 time, .slice A0 on.length c0] W fun e W' => e = .returned (.int .i64 code) ∧ ∃ v', Phs w W' gx g b n t' now' dr' v' Ln ∧ Kd.C (Kd.int .i64) W' A2 on.length on
theorem tick_both {w : World} {gx g b : Nat} {n t dr : Int} {now : List Int} {v : Value} {L : List S44} (time : Int) (A0 : Option Addr) (c0 : Nat) (A2 : Option Addr) (c2 : Nat) (on : List Int) (hi : TInv n t now dr L) (h7 : n ≤ 7) (hll : L.length < 4398046511104) (hon : Kd.C (Kd.int .i64) w A0 on.length on) (hol : on.length < 17592186044416) :
    ∃ (code : Int) (Ln : List S44), Ln.length ≤ L.length + 1 ∧ C24 w gx g b n t now dr v L Ln A2 c2 on time code ∧ C31 w gx g b n v L Ln A2 c2 A0 c0 on time code := by
  have hfr : ∀ (W : World) t' now' dr', Phs w W gx g b n t' now' dr' v L → ∀ k, W.heap.size ≤ k → k ≠ gx ∧ k ≠ g ∧ k ≠ b := fun W t' now' dr' h k hk => by
    have h1 := h.1.lt
    have h2 := blk_lt h.2.1.1
    refine ⟨?_, ?_, ?_⟩ <;> (intro e; omega)
  by_cases ha : ArgOk now time on
  · by_cases hr : RoomOk t now time on
    · refine ⟨0, L ++ [⟨time, on⟩], by simp, fun W h ho => ?_, fun W t' now' dr' h ho => ?_⟩
      · refine (Tick.at time A2 c2 on W h.1 hi.ok ho.hon hol).mono ?_
        rintro e W' (⟨_, _, rfl, r, hl, hc, hf⟩ | ⟨_, q, _⟩ | ⟨q, _⟩)
        · exact ⟨rfl, _, _, _, h.clk hc hf, ho.clk hf, hi.tick ha hr hl⟩
        · exact absurd hr q
        · exact absurd ha q
      · refine (RTick.at time A0 c0 on W h.2.1 (hfr W _ _ _ h) hi.inv h7 hll (Kd.C_below hon h.2.2.2.2)).mono ?_
        rintro e W' (⟨_, _, rfl, v', hc, hf⟩ | ⟨_, q, _⟩ | ⟨q, _⟩)
        · exact ⟨rfl, v', h.ref hc hf, ho.ref hf⟩
        · exact absurd ((hi.room ha).mp hr) q
        · exact absurd (hi.arg.mp ha) q
    · refine ⟨2, L, by omega, fun W h ho => ?_, fun W t' now' dr' h ho => ?_⟩
      · refine (Tick.at time A2 c2 on W h.1 hi.ok ho.hon hol).mono ?_
        rintro e W' (⟨_, q, _⟩ | ⟨_, _, rfl, hb⟩ | ⟨q, _⟩)
        · exact absurd q hr
        · exact ⟨rfl, _, _, _, h.below hb, ho.below hb, hi⟩
        · exact absurd ha q
      · refine (RTick.at time A0 c0 on W h.2.1 (hfr W _ _ _ h) hi.inv h7 hll (Kd.C_below hon h.2.2.2.2)).mono ?_
        rintro e W' (⟨_, q, _⟩ | ⟨_, _, rfl, hb⟩ | ⟨q, _⟩)
        · exact absurd ((hi.room ha).mpr q) hr
        · exact ⟨rfl, v, h.below hb, (Kd.R_reads' (ho.below hb)).2.2⟩
        · exact absurd (hi.arg.mp ha) q
  · refine ⟨1, L, by omega, fun W h ho => ?_, fun W t' now' dr' h ho => ?_⟩
    · refine (Tick.at time A2 c2 on W h.1 hi.ok ho.hon hol).mono ?_
      rintro e W' (⟨q, _⟩ | ⟨q, _⟩ | ⟨_, rfl, hb⟩)
      · exact absurd q ha
      · exact absurd q ha
      · exact ⟨rfl, _, _, _, h.below hb, ho.below hb, hi⟩
    · refine (RTick.at time A0 c0 on W h.2.1 (hfr W _ _ _ h) hi.inv h7 hll (Kd.C_below hon h.2.2.2.2)).mono ?_
      rintro e W' (⟨q, _⟩ | ⟨q, _⟩ | ⟨_, rfl, hb⟩)
      · exact absurd (hi.arg.mpr q) ha
      · exact absurd (hi.arg.mpr q) ha
      · exact ⟨rfl, v, h.below hb, (Kd.R_reads' (ho.below hb)).2.2⟩
def TRel (w W : World) (gx g b : Nat) (n : Int) (L : List S44) : Prop := ∃ t now dr v, Phs w W gx g b n t now dr v L ∧ TInv n t now dr L
theorem TRel.below {w W W' : World} {gx g b : Nat} {n : Int} {L : List S44} (h : TRel w W gx g b n L) (hb : Below W.heap.size W W') : TRel w W' gx g b n L := by
  obtain ⟨t, now, dr, v, h1, h2⟩ := h
  exact ⟨t, now, dr, v, h1.below hb, h2⟩
/-- The fork goes on; the old clocks tick once more and are left. -/
theorem Phs.fork {w W W1 W2 : World} {gx g b g2 b2 : Nat} {n t dr : Int} {now : List Int} {v : Value} {L : List S44} (h : Phs w W gx g b n t now dr v L) (hc : Clk W1 W.heap.size g2 b2 t now dr) (hb : Below W.heap.size W W1) (hf : Fr (fun k => k = g ∨ k = b) W1 W2) : Phs w W2 gx g2 b2 n t now dr v L := by
  have hl := h.1.lt
  have hx := blk_lt h.2.1.1
  have hge := hc.ge
  have hs := h.2.2.2.2.size
  have hc1 : Clk W1 w.heap.size g2 b2 t now dr := by
    obtain ⟨c, q1, q2, q3, q4, q5, q6⟩ := hc
    exact ⟨c, q1, Row.of_R q2 (by omega), by omega, by omega, q5, q6⟩
  have hr1 : Ref W w.heap.size gx (fun k => k ≠ gx ∧ k ≠ g ∧ k ≠ b ∧ k ≠ g2 ∧ k ≠ b2) n v L :=
    ⟨h.2.1.1, Kd.R_mono (Kd.R_bound h.2.1.2.1) (fun k q => ⟨q.1.1, q.1.2.1, q.1.2.2, by have := q.2.2.1; omega, by have := q.2.2.1; omega⟩), h.2.1.2.2.1, fun q => q.1 rfl⟩
  have hr2 := (hr1.below hb).kept hf.kept (fun e => e.elim h.2.2.1 h.2.2.2.1) (fun k q e => e.elim q.2.1 q.2.2.1)
  have hb2 := below_step h.2.2.2.2 hb
  exact ⟨hc1.kept hf.kept (fun e => e.elim (by omega) (by omega)) (fun e => e.elim (by omega) (by omega)), ⟨hr2.1, Kd.R_mono hr2.2.1 (fun k q => ⟨q.1, q.2.2.2.1, q.2.2.2.2⟩), hr2.2.2.1, fun q => q.1 rfl⟩, by omega, by omega, hf.below (fun k hk => by have := h.1.ge; rcases hk with rfl | rfl <;> omega) hb2.size hb2⟩
theorem OwnR.fork {w W W1 W2 : World} {gx g b g2 b2 c : Nat} {t dr : Int} {now on : List Int} {v : Value} {A : Option Addr} (h : OwnR W w gx g b v A c on) (hc : Clk W1 W.heap.size g2 b2 t now dr) (hb : Below W.heap.size W W1) (hf : Fr (fun k => k = g ∨ k = b) W1 W2) : OwnR W2 w gx g2 b2 v A c on := by
  have hge := hc.ge
  have h1 : Kd.R (Kd.int .i64) 3 W w.heap.size (fun k => (k ≠ g ∧ k ≠ b ∧ k ≠ gx ∧ v.ownBlock ≠ some k) ∧ k ≠ g2 ∧ k ≠ b2) (.slice A on.length c) on :=
    Kd.R_mono (Kd.R_bound h) (fun k q => ⟨q.1, by have := q.2.2.1; omega, by have := q.2.2.1; omega⟩)
  exact Kd.R_mono (Kd.R_kept (Kd.R_below h1 hb) hf.kept (fun k q e => e.elim q.1.1 q.1.2.1)) (fun k q => ⟨q.2.1, q.2.2, q.1.2.2.1, q.1.2.2.2⟩)
def PRel (w W : World) (gx g b : Nat) (n : Int) (L Ln : List S44) (v : Value) (A : Option Addr) (c : Nat) (on : List Int) : Prop := ∃ t now dr, Phs w W gx g b n t now dr v L ∧ OwnR W w gx g b v A c on ∧ TInv n t now dr Ln
theorem tick_any {w W : World} {g b : Nat} {t dr : Int} {now : List Int} (time : Int) (A0 : Option Addr) (c0 : Nat) (on : List Int) (hc : Clk W w.heap.size g b t now dr) (hk : ClkOk t now dr) (hon : ∀ W', Kept W W' (fun k => k = g ∨ k = b) → Kd.C (Kd.int .i64) W' A0 on.length on) (hl : on.length < 17592186044416) :
    Calls Try.prog 24 #[.pointer (some ⟨g, 0, none⟩), .int .i64 time, .slice A0 on.length c0] W fun e W' => ∃ code : Int, e = .returned (.int .i64 code) ∧ Fr (fun k => k = g ∨ k = b) W W' := by
  refine (Tick.at time A0 c0 on W hc hk hon hl).mono ?_
  rintro e W' (⟨_, _, rfl, _, _, _, hf⟩ | ⟨_, _, rfl, hb⟩ | ⟨_, rfl, hb⟩)
  · exact ⟨0, rfl, hf⟩
  · exact ⟨2, rfl, Fr.of_below hb⟩
  · exact ⟨1, rfl, Fr.of_below hb⟩
set_option maxHeartbeats 4000000 in
set_option maxRecDepth 100000 in
theorem ClockTicks.bad (w : World) (A0 : Option Addr) (c0 : Nat) (l0 : List S44) (n d node : Int) (hn : ¬ (1 ≤ n ∧ n ≤ 7)) :
    Calls Try.prog 7 #[.int .i64 n, .slice A0 l0.length c0, .int .i64 d, .int .i64 node] w fun e w' => e = .returned (.bool true) ∧ Below w.heap.size w w' := by
  have HN := Aside0.mk hn
  clear hn
  go_enter Try.func7, Try.ntmps7
  go_wp2_with fail
  refine (New.bad n _ HN.out).mono ?_
  rintro e w' ⟨rfl, ⟨m, rfl⟩⟩
  go_wp2_with fail
  refine (RNew.bad n _ HN.out).mono ?_
  rintro e w' ⟨rfl, ⟨m2, rfl⟩⟩
  go_wp2_with fail
  refine (lives05.at _).mono ?_
  rintro e w4 ⟨rfl, hb⟩
  go_wp2
  go_ret
  exact ⟨rfl, below_step (pw_below_drewN (Below.refl _ _) _) hb⟩
set_option maxHeartbeats 32000000 in
set_option maxRecDepth 100000 in
theorem ClockTicks.in_ (w : World) (A0 : Option Addr) (c0 : Nat) (l0 : List S44) (hr0 : Kd.C k44 w A0 l0.length l0) (y0 : l0.length * 32 ≤ 140737488351232) (hq : ∀ y ∈ l0, t44wf y) (N : Nat) (d node : Int) (hn : 1 ≤ N ∧ N ≤ 7) :
    Calls Try.prog 7 #[.int .i64 (N : Int), .slice A0 l0.length c0, .int .i64 d, .int .i64 node] w fun e w' => e = .returned (.bool true) ∧ Below w.heap.size w w' := by
  have HR := Aside0.mk hr0
  have HY := Aside0.mk y0
  have HQ := Aside0.mk hq
  have HN := Aside0.mk hn
  clear hr0 y0 hq hn
  go_enter Try.func7, Try.ntmps7
  go_wp2_with fail
  refine (New.at (N : Int) _ (by have := HN.out; omega) (by have := HN.out; omega)).mono ?_
  rintro e w3 ⟨g, b, rfl, hc, hb⟩
  have HC := Aside0.mk hc
  have HB := Aside0.mk hb
  clear hc hb
  go_wp2_with fail
  refine (RNew.at (N : Int) _ (by have := HN.out; omega) (by have := HN.out; omega) (fun k => k ≠ w3.heap.size ∧ k ≠ g ∧ k ≠ b) (fun h => h.1 rfl)).mono ?_
  rintro e w4 ⟨rfl, hx, hb⟩
  have HT : Aside0 (TRel w w4 w3.heap.size g b N []) := ⟨0, _, 0, _, ⟨HC.out.below hb, ⟨hx.1, Kd.R_nil _ _ _ _ _, HB.out.size, hx.2.2.2⟩, by have := HC.out.lt; omega, by have := HC.out.lt; omega, below_step HB.out hb⟩, TInv.new N (by have := HN.out; omega) (by have := HN.out; omega)⟩
  clear hx hb HC HB
  generalize w3.heap.size = gx at HT ⊢
  go_wp2_with fail
  refine (lives05.at _).mono ?_
  rintro e w5 ⟨rfl, hb⟩
  replace HT := Aside0.mk (HT.out.below hb)
  clear hb
  go_wp2
  go_loopg [9, 13] l0.length (fun kq v9 v13 wc => ∃ (x : Int) (g b : Nat) (L : List S44), v9 = .pointer (some ⟨g, 0, none⟩) ∧ v13 = .int .i64 x ∧ Aside0 (∃ j : Nat, x = (j : Int) ∧ j + kq = l0.length ∧ L.length ≤ j) ∧ Aside0 (TRel w wc gx g b N L))
  case atStart => exact ⟨0, g, b, [], rfl, rfl, ⟨0, rfl, by omega, Nat.le_refl _⟩, HT⟩
  case round =>
    clear HT
    obtain ⟨x, g, b, L, rfl, rfl, HJ, HT⟩ := hrel
    cases gk with
    | zero =>
      have c0b : decide (x < (l0.length : Int)) = false := decide_eq_false (by obtain ⟨j, e, hj, _⟩ := HJ.out; omega)
      have HLl : Aside0 (L.length < 4398046511104) := ⟨by obtain ⟨j, e, hj, h⟩ := HJ.out; have := HY.out; omega⟩
      clear HJ
      obtain ⟨t, now, dr, v, hP, hI⟩ := HT.out
      have HI := Aside0.mk hI
      have HP := Aside0.mk hP
      clear hP hI HT
      have H7 : Aside0 (0 < now.length ∧ now.length ≤ 7) := ⟨by have := HI.out.len; have := HN.out; omega⟩
      go_wp2_with fail
      refine (Now.at node _ HP.out.1 H7.out.1 H7.out.2).mono ?_
      rw [HI.out.now node]
      rintro e w6 ⟨rfl, hd⟩
      replace HP := Aside0.mk (HP.out.below (Drawn0.below hd))
      clear hd
      go_wp2_with fail
      refine (RNow.any node _ HP.out.2.1 (by have := HLl.out; omega) HI.out.inv).mono ?_
      rintro e w7 ⟨rfl, hd⟩
      replace HP := Aside0.mk (HP.out.below hd)
      clear hd
      go_wp2_with fail
      refine (Now.at 0 _ HP.out.1 H7.out.1 H7.out.2).mono ?_
      rw [HI.out.now 0]
      rintro e w8 ⟨rfl, hd⟩
      replace HP := Aside0.mk (HP.out.below (Drawn0.below hd))
      clear hd
      go_wp2_with fail
      refine (RNow.any 0 _ HP.out.2.1 (by have := HLl.out; omega) HI.out.inv).mono ?_
      rintro e w9 ⟨rfl, hd⟩
      replace HP := Aside0.mk (HP.out.below hd)
      clear hd
      go_wp2_with fail
      refine (Time.at _ HP.out.1 H7.out.1).mono ?_
      rw [HI.out.time]
      rintro e w10 ⟨rfl, hd⟩
      replace HP := Aside0.mk (HP.out.below (Drawn0.below hd))
      clear hd
      go_wp2_with fail
      refine (RTime.at _ HP.out.2.1 (by have := HLl.out; omega) HI.out.inv.pt).mono ?_
      rintro e w11 ⟨rfl, hd⟩
      replace HP := Aside0.mk (HP.out.below (Drawn0.below hd))
      clear hd
      go_wp2_with fail
      refine (CKeeps.at d _ HP.out.1 H7.out.1).mono ?_
      rw [HI.out.keeps d]
      rintro e w12 ⟨rfl, hd⟩
      replace HP := Aside0.mk (HP.out.below (Drawn0.below hd))
      clear hd
      go_wp2_with fail
      refine (RKeeps.at d _ HP.out.2.1 HLl.out HI.out.inv.each (by have := HN.out; omega)).mono ?_
      rintro e w13 ⟨rfl, hd⟩
      replace HP := Aside0.mk (HP.out.below hd)
      clear hd
      go_wp2
      go_ret
      exact ⟨rfl, HP.out.2.2.2.2⟩
    | succ m =>
      have c0b : decide (x < (l0.length : Int)) = true := decide_eq_true (by obtain ⟨j, e, hj, _⟩ := HJ.out; omega)
      have HX1 : Aside0 (IntKind.i64.wrap (x + 1) = x + 1) := ⟨by rw [i64_w]; unfold wrap64; obtain ⟨j, e, hj, _⟩ := HJ.out; have := HY.out; omega⟩
      have p0 : 0 ≤ x := by obtain ⟨j, e, hj, _⟩ := HJ.out; omega
      have p1 : x < (l0.length : Int) := by obtain ⟨j, e, hj, _⟩ := HJ.out; omega
      obtain ⟨ad, A1, c1, rfl, hx0, hx1, hl1, hi1⟩ := at_T44 HR.out x p0 p1
      have HI1 := Aside0.mk hi1
      have HC1 := Aside0.mk hl1
      have HLn : Aside0 ((rd_T44 l0 x).f1.length < 17592186044416) := ⟨by
        have := HQ.out (rd_T44 l0 x) (by
          unfold rd_T44
          rw [List.getD_eq_getElem?_getD, List.getElem?_eq_getElem (by omega)]
          exact List.getElem_mem _)
        have := this.2.1
        omega⟩
      have HX01 := Aside0.mk (And.intro hx0 hx1)
      clear hx0 hx1 hl1 hi1
      obtain ⟨t, now, dr, v, hP, hI⟩ := HT.out
      have HI := Aside0.mk hI
      have HP := Aside0.mk hP
      clear hP hI HT
      replace p0 := eq_true p0
      replace p1 := eq_true p1
      have HBw := Aside0.mk HP.out.2.2.2.2
      have q1 := pw_cell_below HBw.out HX01.out.2
      obtain ⟨r7, e7⟩ : ∃ r7, x.tmod 7 = r7 := ⟨_, rfl⟩
      have ew : IntKind.i64.wrap r7 = r7 := by
        rw [i64_w, ← e7]; unfold wrap64
        obtain ⟨j, e, hj, _⟩ := HJ.out
        have := HY.out
        have := Int.tmod_lt_of_pos x (show (0 : Int) < 7 by decide)
        have := Int.lt_tmod_of_pos x (show (0 : Int) < 7 by decide)
        omega
      have HFo : Aside0 (∀ k, wr.heap.size ≤ k → k ≠ g ∧ k ≠ b ∧ k ≠ gx ∧ v.ownBlock ≠ some k) := ⟨fun k hk => by
        have h1 := HP.out.1.lt
        have h2 := blk_lt HP.out.2.1.1
        obtain ⟨inner, hown⟩ := Kd.R_own HP.out.2.1.2.1
        exact ⟨by omega, by omega, by omega, fun e => by have := own_lt hown _ e; omega⟩⟩
      go_upto_if 57 with (first
        | ((with_reducible refine gate_dst (N := 48) rfl ?_); refine Kd.R_lit (Kd.int .i64) (w0 := wr) wr.heap.size 3 ?hg (N := 48) ?hd (xs := ([] : List Int)) (inner := []) (ok := fun k => k ≠ g ∧ k ≠ b ∧ k ≠ gx ∧ v.ownBlock ≠ some k) (okp := fun _ => False) ?hr ?hp (fun _ hk => hk.elim) (HFo.out _ (Nat.le_refl _)) (Below.refl _ _) (Nat.le_refl _) (by simp) ?_; (case hd => rfl); (case hg => rfl); (case hr => first | (go_simp; done) | (go_simp; rfl)); (case hp => exact (Reps.none _ _)); intro v1 w1 ho1 hb1 hg1 hn1; have HO1 := Aside0.mk ho1; have HB1 := Aside0.mk hb1; replace q1 := pw_cell_below hb1 q1; clear ho1 hb1 hg1 hn1)
        | ((with_reducible refine gate_builtin (b := .append) (xs := #[.tmp 48, .tmp 53]) rfl ?_); at_builtin; refine Kd.R_append_rows (Kd.int .i64) (w0 := wr) wr.heap.size rfl (.tmp 48) (.tmp 53) 22 3 (.int .i64 0) 8 rfl Try.underlying22 info3 rfl (by decide) (by omega) v1 ([] : List Int) (rd_T44 l0 x).f1 _ _ _ (fun k => k ≠ g ∧ k ≠ b ∧ k ≠ gx ∧ v.ownBlock ≠ some k) (fun _ => False) rfl rfl ?aO ?aR (fun _ _ h => h) (fun _ h => h.elim) ?aF ?aB ?aS ?aL ?_; (case aR => exact Kd.C_below HI1.out (below_step HBw.out HB1.out)); (case aB => exact HB1.out); (case aF => exact (fun k hk => HFo.out k (Nat.le_trans HB1.out.size hk))); (case aO => exact HO1.out); (case aS => exact HB1.out.size); (case aL => have := HLn.out; simp only [List.length_nil]; omega); intro v2 w2 ho2 hb2 hg2 hat2; rw [List.nil_append] at ho2; have HO2 := Aside0.mk ho2; have HB2 := Aside0.mk hb2; clear ho2 hb2 hg2 hat2 q1))
      obtain ⟨A2, c2, rfl⟩ := Kd.R_slice HO2.out
      have HOr : Aside0 (OwnR w2 w gx g b v A2 c2 (rd_T44 l0 x).f1) := ⟨Kd.R_lower HO2.out HBw.out.size⟩
      replace HP := Aside0.mk (HP.out.below HB2.out)
      have H7 : Aside0 (0 < now.length ∧ now.length ≤ 7) := ⟨by have := HI.out.len; have := HN.out; omega⟩
      clear HO2 HB2 HO1 HB1 HBw HFo
      go_cut [9, 15] from 42 to 110 (fun v9 v15 wc => ∃ g b, v9 = .pointer (some ⟨g, 0, none⟩) ∧ Aside0 (PRel w wc gx g b N L L v A2 c2 (rd_T44 l0 x).f1))
      case first =>
        by_cases k3 : r7 = 3
        · have k3b : (r7 == 3) = true := by rw [beq_iff_eq]; exact k3
          clear k3
          go_wp2_with fail
          refine (Fork.at _ HP.out.1 H7.out.1 H7.out.2).mono ?_
          rintro e w5 ⟨g2, b2, rfl, hc, hb⟩
          have HC := Aside0.mk hc
          have HB := Aside0.mk hb
          clear hc hb
          have hmk := print_make (P := Try.prog) 22 3 .i64 8 (by kernel_rfl) info3 (by decide) N (by have := HN.out; omega)
          go_wp2_with fail
          clear hmk
          have HTk := tick_any 1 (some ⟨w5.heap.size, 0, none⟩) N (List.replicate N 0) (((HP.out.below HB.out).1).below (below_alloc (Below.refl _ _) (.cells (madeCells #[.int .i64 0] N) 3))) HI.out.ok ((Row.made w5 (B := 0) N (Nat.zero_le _) (by have := HN.out; omega)).hon (by have := (HP.out.below HB.out).1.lt; omega) (by have := (HP.out.below HB.out).1.lt; omega)) (by rw [List.length_replicate]; have := HN.out; omega)
          rw [List.length_replicate] at HTk
          refine HTk.mono ?_
          rintro e w6 ⟨code, rfl, hf⟩
          have HF := Aside0.mk (((Fr.refl (fun k => k = g ∨ k = b) w5).alloc _).trans hf)
          clear hf HTk
          go_wp2
          go_meet
          case rel => exact ⟨g2, b2, rfl, ⟨t, now, dr, HP.out.fork HC.out HB.out HF.out, HOr.out.fork HC.out HB.out HF.out, HI.out⟩⟩
        · have k3b : (r7 == 3) = false := by rw [beq_eq_false_iff_ne]; exact k3
          clear k3
          go_wp2
          go_meet
          case rel => exact ⟨g, b, rfl, ⟨t, now, dr, HP.out, HOr.out, HI.out⟩⟩
      case rest =>
        clear HOr HP HI H7
        obtain ⟨g2, b2, rfl, HH⟩ := hcut
        obtain ⟨t2, now2, dr2, hP, hO, hI⟩ := HH.out
        clear HH
        have HLl : Aside0 (L.length < 4398046511104) := ⟨by obtain ⟨j, e, hj, h⟩ := HJ.out; have := HY.out; omega⟩
        obtain ⟨code, Ln, hLn, h24, h31⟩ := tick_both (w := w) (gx := gx) (g := g2) (b := b2) (v := v) (rd_T44 l0 x).f0 A1 c1 A2 c2 (rd_T44 l0 x).f1 hI (by have := HN.out; omega) HLl.out HI1.out HLn.out
        have HLnl := Aside0.mk hLn
        have q0 := pw_cell_below hP.2.2.2.2 HX01.out.1
        have q1 := pw_cell_below hP.2.2.2.2 HX01.out.2
        have HA24 : Aside0 (∀ w2, Below wc.heap.size wc w2 → Calls Try.prog 24 #[.pointer (some ⟨g2, 0, none⟩), .int .i64 (rd_T44 l0 x).f0, .slice A2 (rd_T44 l0 x).f1.length c2] w2 fun e w3 => e = .returned (.int .i64 code) ∧ w3.cell? (ad.add (x.toNat * 2)) = some (.int .i64 (rd_T44 l0 x).f0) ∧ w3.cell? ⟨(ad.add (x.toNat * 2)).block, (ad.add (x.toNat * 2)).off + 1, none⟩ = some (.slice A1 (rd_T44 l0 x).f1.length c1) ∧ Aside0 (PRel w w3 gx g2 b2 N L Ln v A2 c2 (rd_T44 l0 x).f1)) := ⟨fun w2 hb2 => by
          refine (h24 w2 (hP.below hb2) (hO.below hb2)).mono ?_
          rintro e w3 ⟨rfl, t', now', dr', k1, k2, k3⟩
          exact ⟨rfl, pw_cell_below k1.2.2.2.2 HX01.out.1, pw_cell_below k1.2.2.2.2 HX01.out.2, ⟨t', now', dr', k1, k2, k3⟩⟩⟩
        have HA31 : Aside0 (∀ w2, Aside0 (PRel w w2 gx g2 b2 N L Ln v A2 c2 (rd_T44 l0 x).f1) → Calls Try.prog 31 #[.pointer (some ⟨gx, 0, none⟩), .int .i64 (rd_T44 l0 x).f0, .slice A1 (rd_T44 l0 x).f1.length c1] w2 fun e w3 => e = .returned (.int .i64 code) ∧ w3.cell? (ad.add (x.toNat * 2)) = some (.int .i64 (rd_T44 l0 x).f0) ∧ w3.cell? ⟨(ad.add (x.toNat * 2)).block, (ad.add (x.toNat * 2)).off + 1, none⟩ = some (.slice A1 (rd_T44 l0 x).f1.length c1) ∧ Aside0 (TRel w w3 gx g2 b2 N Ln ∧ Kd.C (Kd.int .i64) w3 A2 (rd_T44 l0 x).f1.length (rd_T44 l0 x).f1)) := ⟨fun w2 hh => by
          obtain ⟨t', now', dr', k1, k2, k3⟩ := hh.out
          refine (h31 w2 t' now' dr' k1 k2).mono ?_
          rintro e w3 ⟨rfl, v', k4, k5⟩
          exact ⟨rfl, pw_cell_below k4.2.2.2.2 HX01.out.1, pw_cell_below k4.2.2.2.2 HX01.out.2, ⟨⟨t', now', dr', v', k4, k3⟩, k5⟩⟩⟩
        have HA23 : Aside0 (∀ w2, Aside0 (TRel w w2 gx g2 b2 N Ln ∧ Kd.C (Kd.int .i64) w2 A2 (rd_T44 l0 x).f1.length (rd_T44 l0 x).f1) → Calls Try.prog 23 #[.int .i64 (rd_T44 l0 x).f0, .slice A2 (rd_T44 l0 x).f1.length c2, .int .i64 d] w2 fun e w3 => e = .returned (.bool (keepsB (rd_T44 l0 x).f0 (rd_T44 l0 x).f1 d)) ∧ w3.cell? (ad.add (x.toNat * 2)) = some (.int .i64 (rd_T44 l0 x).f0) ∧ w3.cell? ⟨(ad.add (x.toNat * 2)).block, (ad.add (x.toNat * 2)).off + 1, none⟩ = some (.slice A1 (rd_T44 l0 x).f1.length c1) ∧ Aside0 (TRel w w3 gx g2 b2 N Ln)) := ⟨fun w2 hh => by
          refine (keeps.at _ _ A2 c2 _ w2 hh.out.2 HLn.out).mono ?_
          rintro e w3 ⟨rfl, hb⟩
          obtain ⟨t', now', dr', v', k4, k3⟩ := hh.out.1
          have k5 := k4.below hb
          exact ⟨rfl, pw_cell_below k5.2.2.2.2 HX01.out.1, pw_cell_below k5.2.2.2.2 HX01.out.2, ⟨t', now', dr', v', k5, k3⟩⟩⟩
        have HA32 : Aside0 (∀ w2, Aside0 (TRel w w2 gx g2 b2 N Ln) → Calls Try.prog 32 #[.int .i64 (rd_T44 l0 x).f0, .slice A1 (rd_T44 l0 x).f1.length c1, .int .i64 d] w2 fun e w3 => e = .returned (.bool (keepsB (rd_T44 l0 x).f0 (rd_T44 l0 x).f1 d)) ∧ Aside0 (TRel w w3 gx g2 b2 N Ln)) := ⟨fun w2 hh => by
          obtain ⟨t', now', dr', v', k4, k3⟩ := hh.out
          refine (RKeepsF.at _ _ A1 c1 _ w2 (Kd.C_below HI1.out k4.2.2.2.2) HC1.out HLn.out).mono ?_
          rintro e w3 ⟨rfl, hb⟩
          exact ⟨rfl, ⟨t', now', dr', v', k4.below (Drawn0.below hb), k3⟩⟩⟩
        clear h24 h31 hP hO hI hLn
        have hx1 := HX1.out
        go_upto_region 17 with (fail)
        refine start_ (n := 44) (S := fun w' => w'.cell? (ad.add (x.toNat * 2)) = some (.int .i64 (rd_T44 l0 x).f0) ∧ w'.cell? ⟨(ad.add (x.toNat * 2)).block, (ad.add (x.toNat * 2)).off + 1, none⟩ = some (.slice A1 (rd_T44 l0 x).f1.length c1)) (ds := [41]) #[false, false, false, false, false, false, false, false, false, false, false, false, false, false, false, false, false, false, false, false, false, false, false, false, false, false, false, false, false, false, false, false, false, false, false, false, false, false, false, false, false, false, false, false] (by kernel_rfl) rfl rfl ⟨q0, q1⟩ (fun hHeld => ?_)
        refine pure_ (i := 0) (N := some 67) (v := ?_) (a' := ?_) #[true, false, false, false, false, false, false, false, false, false, false, false, false, false, false, false, false, false, false, false, false, false, false, false, false, false, false, false, false, false, false, false, false, false, false, false, false, false, false, false, false, false, false, false] rfl rfl (by kernel_rfl) (fun _ _ _ h => h) (Or.inl ⟨by rfl, ?_⟩) ?_ ?_
        rotate_left
        · intro w'
          go_simp
          with_reducible rfl
        rotate_left
        · simp only [Act.put, List.setIfInBounds_toArray, List.set_cons_zero, List.set_cons_succ, i64_w, i32_w]
          rfl
        refine pure_ (i := 1) (N := some 68) (v := ?_) (a' := ?_) #[true, true, false, false, false, false, false, false, false, false, false, false, false, false, false, false, false, false, false, false, false, false, false, false, false, false, false, false, false, false, false, false, false, false, false, false, false, false, false, false, false, false, false, false] rfl rfl (by kernel_rfl) (fun _ _ _ h => h) (Or.inl ⟨by rfl, ?_⟩) ?_ ?_
        rotate_left
        · intro w'
          go_simp
          with_reducible rfl
        rotate_left
        · simp only [Act.put, List.setIfInBounds_toArray, List.set_cons_zero, List.set_cons_succ, i64_w, i32_w]
          rfl
        refine pure_ (i := 2) (N := some 69) (v := ?_) (a' := ?_) #[true, true, true, false, false, false, false, false, false, false, false, false, false, false, false, false, false, false, false, false, false, false, false, false, false, false, false, false, false, false, false, false, false, false, false, false, false, false, false, false, false, false, false, false] rfl rfl (by kernel_rfl) (fun _ _ _ h => h) (Or.inl ⟨by rfl, ?_⟩) ?_ ?_
        rotate_left
        · intro w'
          go_simp
          with_reducible rfl
        rotate_left
        · simp only [Act.put, List.setIfInBounds_toArray, List.set_cons_zero, List.set_cons_succ, i64_w, i32_w]
          rfl
        refine pure_ (i := 3) (N := some 70) (v := ?_) (a' := ?_) #[true, true, true, true, false, false, false, false, false, false, false, false, false, false, false, false, false, false, false, false, false, false, false, false, false, false, false, false, false, false, false, false, false, false, false, false, false, false, false, false, false, false, false, false] rfl rfl (by kernel_rfl) (fun _ _ _ h => h) (Or.inl ⟨by rfl, ?_⟩) ?_ ?_
        rotate_left
        · intro w'
          go_simp
          with_reducible rfl
        rotate_left
        · simp only [Act.put, List.setIfInBounds_toArray, List.set_cons_zero, List.set_cons_succ, i64_w, i32_w]
          rfl
        refine pure_ (i := 4) (N := some 71) (v := ?_) (a' := ?_) #[true, true, true, true, true, false, false, false, false, false, false, false, false, false, false, false, false, false, false, false, false, false, false, false, false, false, false, false, false, false, false, false, false, false, false, false, false, false, false, false, false, false, false, false] rfl rfl (by kernel_rfl) (fun _ _ _ h => h) (Or.inl ⟨by rfl, ?_⟩) ?_ ?_
        rotate_left
        · intro w'
          go_simp
          with_reducible rfl
        rotate_left
        · simp only [Act.put, List.setIfInBounds_toArray, List.set_cons_zero, List.set_cons_succ, i64_w, i32_w]
          rfl
        refine pure_ (i := 6) (N := some 73) (v := ?_) (a' := ?_) #[true, true, true, true, true, false, true, false, false, false, false, false, false, false, false, false, false, false, false, false, false, false, false, false, false, false, false, false, false, false, false, false, false, false, false, false, false, false, false, false, false, false, false, false] rfl rfl (by kernel_rfl) (fun _ _ _ h => h) (Or.inl ⟨by rfl, ?_⟩) ?_ ?_
        rotate_left
        · intro w'
          go_simp
          with_reducible rfl
        rotate_left
        · simp only [Act.put, List.setIfInBounds_toArray, List.set_cons_zero, List.set_cons_succ, i64_w, i32_w]
          rfl
        refine pure_ (i := 8) (N := some 75) (v := ?_) (a' := ?_) #[true, true, true, true, true, false, true, false, true, false, false, false, false, false, false, false, false, false, false, false, false, false, false, false, false, false, false, false, false, false, false, false, false, false, false, false, false, false, false, false, false, false, false, false] rfl rfl (by kernel_rfl) (fun _ _ _ h => h) (Or.inl ⟨by rfl, ?_⟩) ?_ ?_
        rotate_left
        · intro w'
          go_simp
          with_reducible rfl
        rotate_left
        · simp only [Act.put, List.setIfInBounds_toArray, List.set_cons_zero, List.set_cons_succ, i64_w, i32_w]
          rfl
        refine pure_ (i := 9) (N := some 76) (v := ?_) (a' := ?_) #[true, true, true, true, true, false, true, false, true, true, false, false, false, false, false, false, false, false, false, false, false, false, false, false, false, false, false, false, false, false, false, false, false, false, false, false, false, false, false, false, false, false, false, false] rfl rfl (by kernel_rfl) (fun _ _ _ h => h) (Or.inl ⟨by rfl, ?_⟩) ?_ ?_
        rotate_left
        · intro w'
          go_simp
          with_reducible rfl
        rotate_left
        · simp only [Act.put, List.setIfInBounds_toArray, List.set_cons_zero, List.set_cons_succ, i64_w, i32_w]
          rfl
        refine pure_ (i := 10) (N := some 77) (v := ?_) (a' := ?_) #[true, true, true, true, true, false, true, false, true, true, true, false, false, false, false, false, false, false, false, false, false, false, false, false, false, false, false, false, false, false, false, false, false, false, false, false, false, false, false, false, false, false, false, false] rfl rfl (by kernel_rfl) (fun _ _ _ h => h) (Or.inl ⟨by rfl, ?_⟩) ?_ ?_
        rotate_left
        · intro w'
          go_simp
          with_reducible rfl
        rotate_left
        · simp only [Act.put, List.setIfInBounds_toArray, List.set_cons_zero, List.set_cons_succ, i64_w, i32_w]
          rfl
        refine pure_ (i := 11) (N := some 78) (v := ?_) (a' := ?_) #[true, true, true, true, true, false, true, false, true, true, true, true, false, false, false, false, false, false, false, false, false, false, false, false, false, false, false, false, false, false, false, false, false, false, false, false, false, false, false, false, false, false, false, false] rfl rfl (by kernel_rfl) (fun _ _ _ h => h) (Or.inl ⟨by rfl, ?_⟩) ?_ ?_
        rotate_left
        · intro w'
          go_simp
          with_reducible rfl
        rotate_left
        · simp only [Act.put, List.setIfInBounds_toArray, List.set_cons_zero, List.set_cons_succ, i64_w, i32_w]
          rfl
        refine pure_ (i := 12) (N := some 79) (v := ?_) (a' := ?_) #[true, true, true, true, true, false, true, false, true, true, true, true, true, false, false, false, false, false, false, false, false, false, false, false, false, false, false, false, false, false, false, false, false, false, false, false, false, false, false, false, false, false, false, false] rfl rfl (by kernel_rfl) (fun _ _ _ h => h) (Or.inl ⟨by rfl, ?_⟩) ?_ ?_
        rotate_left
        · intro w'
          go_simp
          with_reducible rfl
        rotate_left
        · simp only [Act.put, List.setIfInBounds_toArray, List.set_cons_zero, List.set_cons_succ, i64_w, i32_w]
          rfl
        refine pure_ (i := 14) (N := some 81) (v := ?_) (a' := ?_) #[true, true, true, true, true, false, true, false, true, true, true, true, true, false, true, false, false, false, false, false, false, false, false, false, false, false, false, false, false, false, false, false, false, false, false, false, false, false, false, false, false, false, false, false] rfl rfl (by kernel_rfl) (fun _ _ _ h => h) (Or.inl ⟨by rfl, ?_⟩) ?_ ?_
        rotate_left
        · intro w'
          go_simp
          with_reducible rfl
        rotate_left
        · simp only [Act.put, List.setIfInBounds_toArray, List.set_cons_zero, List.set_cons_succ, i64_w, i32_w]
          rfl
        refine pure_ (i := 15) (N := some 82) (v := ?_) (a' := ?_) #[true, true, true, true, true, false, true, false, true, true, true, true, true, false, true, true, false, false, false, false, false, false, false, false, false, false, false, false, false, false, false, false, false, false, false, false, false, false, false, false, false, false, false, false] rfl rfl (by kernel_rfl) (fun _ _ _ h => h) (Or.inl ⟨by rfl, ?_⟩) ?_ ?_
        rotate_left
        · intro w'
          go_simp
          with_reducible rfl
        rotate_left
        · simp only [Act.put, List.setIfInBounds_toArray, List.set_cons_zero, List.set_cons_succ, i64_w, i32_w]
          rfl
        refine pure_ (i := 16) (N := some 83) (v := ?_) (a' := ?_) #[true, true, true, true, true, false, true, false, true, true, true, true, true, false, true, true, true, false, false, false, false, false, false, false, false, false, false, false, false, false, false, false, false, false, false, false, false, false, false, false, false, false, false, false] rfl rfl (by kernel_rfl) (fun _ _ _ h => h) (Or.inl ⟨by rfl, ?_⟩) ?_ ?_
        rotate_left
        · intro w'
          go_simp
          with_reducible rfl
        rotate_left
        · simp only [Act.put, List.setIfInBounds_toArray, List.set_cons_zero, List.set_cons_succ, i64_w, i32_w]
          rfl
        refine pure_ (i := 17) (N := some 84) (v := ?_) (a' := ?_) #[true, true, true, true, true, false, true, false, true, true, true, true, true, false, true, true, true, true, false, false, false, false, false, false, false, false, false, false, false, false, false, false, false, false, false, false, false, false, false, false, false, false, false, false] rfl rfl (by kernel_rfl) (fun _ _ _ h => h) (Or.inl ⟨by rfl, ?_⟩) ?_ ?_
        rotate_left
        · intro w'
          go_simp
          with_reducible rfl
        rotate_left
        · simp only [Act.put, List.setIfInBounds_toArray, List.set_cons_zero, List.set_cons_succ, i64_w, i32_w]
          rfl
        refine take_ (i := 5) (N := some 72) (v := ?_) (a' := ?_) #[true, true, true, true, true, true, true, false, true, true, true, true, true, false, true, true, true, true, false, false, false, false, false, false, false, false, false, false, false, false, false, false, false, false, false, false, false, false, false, false, false, false, false, false] rfl rfl (by kernel_rfl) (fun _ _ _ h => h) (Or.inl ⟨by rfl, ?_⟩) hHeld ?_ ?_
        rotate_left
        · rintro w' ⟨s0, s1⟩
          go_simp
          with_reducible rfl
        rotate_left
        · simp only [Act.put, List.setIfInBounds_toArray, List.set_cons_zero, List.set_cons_succ, i64_w, i32_w]
          rfl
        refine take_ (i := 13) (N := some 80) (v := ?_) (a' := ?_) #[true, true, true, true, true, true, true, false, true, true, true, true, true, true, true, true, true, true, false, false, false, false, false, false, false, false, false, false, false, false, false, false, false, false, false, false, false, false, false, false, false, false, false, false] rfl rfl (by kernel_rfl) (fun _ _ _ h => h) (Or.inl ⟨by rfl, ?_⟩) hHeld ?_ ?_
        rotate_left
        · rintro w' ⟨s0, s1⟩
          go_simp
          with_reducible rfl
        rotate_left
        · simp only [Act.put, List.setIfInBounds_toArray, List.set_cons_zero, List.set_cons_succ, i64_w, i32_w]
          rfl
        refine take_ (i := 18) (N := some 85) (v := ?_) (a' := ?_) #[true, true, true, true, true, true, true, false, true, true, true, true, true, true, true, true, true, true, true, false, false, false, false, false, false, false, false, false, false, false, false, false, false, false, false, false, false, false, false, false, false, false, false, false] rfl rfl (by kernel_rfl) (fun _ _ _ h => h) (Or.inl ⟨by rfl, ?_⟩) hHeld ?_ ?_
        rotate_left
        · rintro w' ⟨s0, s1⟩
          go_simp
          with_reducible rfl
        rotate_left
        · simp only [Act.put, List.setIfInBounds_toArray, List.set_cons_zero, List.set_cons_succ, i64_w, i32_w]
          rfl
        refine one_ (i := 7) (N := some 74) #[true, true, true, true, true, true, true, true, true, true, true, true, true, true, true, true, true, true, true, false, false, false, false, false, false, false, false, false, false, false, false, false, false, false, false, false, false, false, false, false, false, false, false, false] rfl rfl (by kernel_rfl) (by decide) (fun K hK => ?_)
        refine goes_ Try.func24 (by kernel_rfl) rfl #[.pointer (some ⟨g2, 0, none⟩), .int .i64 (rd_T44 l0 x).f0, .slice A2 (rd_T44 l0 x).f1.length c2] (by rfl) rfl rfl (by simp only [List.map_toArray, List.map_cons, List.map_nil]; rfl) ?_
        with_reducible refine (HA24.out _ (Below.drew (Below.refl _ _))).mono ?_
        rintro e w6 ⟨rfl, a2, a3, a4⟩
        refine ⟨_, rfl, ?_⟩
        refine hK.out _ _ ⟨a2, a3⟩ (fun hHeld => ?_)
        clear hK K
        refine norm_ (a' := ?_) ?_ ?_
        rotate_left
        · show Act.put _ (some 74) _ = _
          simp only [Act.put, List.setIfInBounds_toArray, List.set_cons_zero, List.set_cons_succ, i64_w, i32_w]
          rfl
        refine one_ (i := 19) (N := some 86) #[true, true, true, true, true, true, true, true, true, true, true, true, true, true, true, true, true, true, true, true, false, false, false, false, false, false, false, false, false, false, false, false, false, false, false, false, false, false, false, false, false, false, false, false] rfl rfl (by kernel_rfl) (by decide) (fun K hK => ?_)
        refine goes_ Try.func31 (by kernel_rfl) rfl #[.pointer (some ⟨gx, 0, none⟩), .int .i64 (rd_T44 l0 x).f0, .slice A1 (rd_T44 l0 x).f1.length c1] (by rfl) rfl rfl (by simp only [List.map_toArray, List.map_cons, List.map_nil]; rfl) ?_
        with_reducible refine (HA31.out _ a4).mono ?_
        rintro e w7 ⟨rfl, b2, b3, b4⟩
        refine ⟨_, rfl, ?_⟩
        refine hK.out _ _ ⟨b2, b3⟩ (fun hHeld => ?_)
        clear hK K
        refine norm_ (a' := ?_) ?_ ?_
        rotate_left
        · show Act.put _ (some 86) _ = _
          simp only [Act.put, List.setIfInBounds_toArray, List.set_cons_zero, List.set_cons_succ, i64_w, i32_w]
          rfl
        refine pure_ (i := 20) (N := some 87) (v := ?_) (a' := ?_) #[true, true, true, true, true, true, true, true, true, true, true, true, true, true, true, true, true, true, true, true, true, false, false, false, false, false, false, false, false, false, false, false, false, false, false, false, false, false, false, false, false, false, false, false] rfl rfl (by kernel_rfl) (fun _ _ _ h => h) (Or.inl ⟨by rfl, ?_⟩) ?_ ?_
        rotate_left
        · intro w'
          go_simp
          with_reducible rfl
        rotate_left
        · simp only [Act.put, List.setIfInBounds_toArray, List.set_cons_zero, List.set_cons_succ, i64_w, i32_w]
          rfl
        refine pure_ (i := 21) (N := some 88) (v := ?_) (a' := ?_) #[true, true, true, true, true, true, true, true, true, true, true, true, true, true, true, true, true, true, true, true, true, true, false, false, false, false, false, false, false, false, false, false, false, false, false, false, false, false, false, false, false, false, false, false] rfl rfl (by kernel_rfl) (fun _ _ _ h => h) (Or.inl ⟨by rfl, ?_⟩) ?_ ?_
        rotate_left
        · intro w'
          go_simp
          with_reducible rfl
        rotate_left
        · simp only [Act.put, List.setIfInBounds_toArray, List.set_cons_zero, List.set_cons_succ, i64_w, i32_w]
          rfl
        refine pure_ (i := 22) (N := some 89) (v := ?_) (a' := ?_) #[true, true, true, true, true, true, true, true, true, true, true, true, true, true, true, true, true, true, true, true, true, true, true, false, false, false, false, false, false, false, false, false, false, false, false, false, false, false, false, false, false, false, false, false] rfl rfl (by kernel_rfl) (fun _ _ _ h => h) (Or.inl ⟨by rfl, ?_⟩) ?_ ?_
        rotate_left
        · intro w'
          go_simp
          with_reducible rfl
        rotate_left
        · simp only [Act.put, List.setIfInBounds_toArray, List.set_cons_zero, List.set_cons_succ, i64_w, i32_w]
          rfl
        refine pure_ (i := 23) (N := some 90) (v := ?_) (a' := ?_) #[true, true, true, true, true, true, true, true, true, true, true, true, true, true, true, true, true, true, true, true, true, true, true, true, false, false, false, false, false, false, false, false, false, false, false, false, false, false, false, false, false, false, false, false] rfl rfl (by kernel_rfl) (fun _ _ _ h => h) (Or.inl ⟨by rfl, ?_⟩) ?_ ?_
        rotate_left
        · intro w'
          go_simp
          with_reducible rfl
        rotate_left
        · simp only [Act.put, List.setIfInBounds_toArray, List.set_cons_zero, List.set_cons_succ, i64_w, i32_w]
          rfl
        refine pure_ (i := 24) (N := some 91) (v := ?_) (a' := ?_) #[true, true, true, true, true, true, true, true, true, true, true, true, true, true, true, true, true, true, true, true, true, true, true, true, true, false, false, false, false, false, false, false, false, false, false, false, false, false, false, false, false, false, false, false] rfl rfl (by kernel_rfl) (fun _ _ _ h => h) (Or.inl ⟨by rfl, ?_⟩) ?_ ?_
        rotate_left
        · intro w'
          go_simp
          with_reducible rfl
        rotate_left
        · simp only [Act.put, List.setIfInBounds_toArray, List.set_cons_zero, List.set_cons_succ, i64_w, i32_w]
          rfl
        refine pure_ (i := 25) (N := some 92) (v := ?_) (a' := ?_) #[true, true, true, true, true, true, true, true, true, true, true, true, true, true, true, true, true, true, true, true, true, true, true, true, true, true, false, false, false, false, false, false, false, false, false, false, false, false, false, false, false, false, false, false] rfl rfl (by kernel_rfl) (fun _ _ _ h => h) (Or.inl ⟨by rfl, ?_⟩) ?_ ?_
        rotate_left
        · intro w'
          go_simp
          with_reducible rfl
        rotate_left
        · simp only [Act.put, List.setIfInBounds_toArray, List.set_cons_zero, List.set_cons_succ, i64_w, i32_w]
          rfl
        refine pure_ (i := 27) (N := some 94) (v := ?_) (a' := ?_) #[true, true, true, true, true, true, true, true, true, true, true, true, true, true, true, true, true, true, true, true, true, true, true, true, true, true, false, true, false, false, false, false, false, false, false, false, false, false, false, false, false, false, false, false] rfl rfl (by kernel_rfl) (fun _ _ _ h => h) (Or.inl ⟨by rfl, ?_⟩) ?_ ?_
        rotate_left
        · intro w'
          go_simp
          with_reducible rfl
        rotate_left
        · simp only [Act.put, List.setIfInBounds_toArray, List.set_cons_zero, List.set_cons_succ, i64_w, i32_w]
          rfl
        refine pure_ (i := 28) (N := some 95) (v := ?_) (a' := ?_) #[true, true, true, true, true, true, true, true, true, true, true, true, true, true, true, true, true, true, true, true, true, true, true, true, true, true, false, true, true, false, false, false, false, false, false, false, false, false, false, false, false, false, false, false] rfl rfl (by kernel_rfl) (fun _ _ _ h => h) (Or.inl ⟨by rfl, ?_⟩) ?_ ?_
        rotate_left
        · intro w'
          go_simp
          with_reducible rfl
        rotate_left
        · simp only [Act.put, List.setIfInBounds_toArray, List.set_cons_zero, List.set_cons_succ, i64_w, i32_w]
          rfl
        refine pure_ (i := 30) (N := some 97) (v := ?_) (a' := ?_) #[true, true, true, true, true, true, true, true, true, true, true, true, true, true, true, true, true, true, true, true, true, true, true, true, true, true, false, true, true, false, true, false, false, false, false, false, false, false, false, false, false, false, false, false] rfl rfl (by kernel_rfl) (fun _ _ _ h => h) (Or.inl ⟨by rfl, ?_⟩) ?_ ?_
        rotate_left
        · intro w'
          go_simp
          with_reducible rfl
        rotate_left
        · simp only [Act.put, List.setIfInBounds_toArray, List.set_cons_zero, List.set_cons_succ, i64_w, i32_w]
          rfl
        refine pure_ (i := 31) (N := some 98) (v := ?_) (a' := ?_) #[true, true, true, true, true, true, true, true, true, true, true, true, true, true, true, true, true, true, true, true, true, true, true, true, true, true, false, true, true, false, true, true, false, false, false, false, false, false, false, false, false, false, false, false] rfl rfl (by kernel_rfl) (fun _ _ _ h => h) (Or.inl ⟨by rfl, ?_⟩) ?_ ?_
        rotate_left
        · intro w'
          go_simp
          with_reducible rfl
        rotate_left
        · simp only [Act.put, List.setIfInBounds_toArray, List.set_cons_zero, List.set_cons_succ, i64_w, i32_w]
          rfl
        refine pure_ (i := 32) (N := some 99) (v := ?_) (a' := ?_) #[true, true, true, true, true, true, true, true, true, true, true, true, true, true, true, true, true, true, true, true, true, true, true, true, true, true, false, true, true, false, true, true, true, false, false, false, false, false, false, false, false, false, false, false] rfl rfl (by kernel_rfl) (fun _ _ _ h => h) (Or.inl ⟨by rfl, ?_⟩) ?_ ?_
        rotate_left
        · intro w'
          go_simp
          with_reducible rfl
        rotate_left
        · simp only [Act.put, List.setIfInBounds_toArray, List.set_cons_zero, List.set_cons_succ, i64_w, i32_w]
          rfl
        refine pure_ (i := 33) (N := some 100) (v := ?_) (a' := ?_) #[true, true, true, true, true, true, true, true, true, true, true, true, true, true, true, true, true, true, true, true, true, true, true, true, true, true, false, true, true, false, true, true, true, true, false, false, false, false, false, false, false, false, false, false] rfl rfl (by kernel_rfl) (fun _ _ _ h => h) (Or.inl ⟨by rfl, ?_⟩) ?_ ?_
        rotate_left
        · intro w'
          go_simp
          with_reducible rfl
        rotate_left
        · simp only [Act.put, List.setIfInBounds_toArray, List.set_cons_zero, List.set_cons_succ, i64_w, i32_w]
          rfl
        refine pure_ (i := 35) (N := some 102) (v := ?_) (a' := ?_) #[true, true, true, true, true, true, true, true, true, true, true, true, true, true, true, true, true, true, true, true, true, true, true, true, true, true, false, true, true, false, true, true, true, true, false, true, false, false, false, false, false, false, false, false] rfl rfl (by kernel_rfl) (fun _ _ _ h => h) (Or.inl ⟨by rfl, ?_⟩) ?_ ?_
        rotate_left
        · intro w'
          go_simp
          with_reducible rfl
        rotate_left
        · simp only [Act.put, List.setIfInBounds_toArray, List.set_cons_zero, List.set_cons_succ, i64_w, i32_w]
          rfl
        refine pure_ (i := 36) (N := some 103) (v := ?_) (a' := ?_) #[true, true, true, true, true, true, true, true, true, true, true, true, true, true, true, true, true, true, true, true, true, true, true, true, true, true, false, true, true, false, true, true, true, true, false, true, true, false, false, false, false, false, false, false] rfl rfl (by kernel_rfl) (fun _ _ _ h => h) (Or.inl ⟨by rfl, ?_⟩) ?_ ?_
        rotate_left
        · intro w'
          go_simp
          with_reducible rfl
        rotate_left
        · simp only [Act.put, List.setIfInBounds_toArray, List.set_cons_zero, List.set_cons_succ, i64_w, i32_w]
          rfl
        refine pure_ (i := 37) (N := some 104) (v := ?_) (a' := ?_) #[true, true, true, true, true, true, true, true, true, true, true, true, true, true, true, true, true, true, true, true, true, true, true, true, true, true, false, true, true, false, true, true, true, true, false, true, true, true, false, false, false, false, false, false] rfl rfl (by kernel_rfl) (fun _ _ _ h => h) (Or.inl ⟨by rfl, ?_⟩) ?_ ?_
        rotate_left
        · intro w'
          go_simp
          with_reducible rfl
        rotate_left
        · simp only [Act.put, List.setIfInBounds_toArray, List.set_cons_zero, List.set_cons_succ, i64_w, i32_w]
          rfl
        refine pure_ (i := 38) (N := some 105) (v := ?_) (a' := ?_) #[true, true, true, true, true, true, true, true, true, true, true, true, true, true, true, true, true, true, true, true, true, true, true, true, true, true, false, true, true, false, true, true, true, true, false, true, true, true, true, false, false, false, false, false] rfl rfl (by kernel_rfl) (fun _ _ _ h => h) (Or.inl ⟨by rfl, ?_⟩) ?_ ?_
        rotate_left
        · intro w'
          go_simp
          with_reducible rfl
        rotate_left
        · simp only [Act.put, List.setIfInBounds_toArray, List.set_cons_zero, List.set_cons_succ, i64_w, i32_w]
          rfl
        refine pure_ (i := 40) (N := some 107) (v := ?_) (a' := ?_) #[true, true, true, true, true, true, true, true, true, true, true, true, true, true, true, true, true, true, true, true, true, true, true, true, true, true, false, true, true, false, true, true, true, true, false, true, true, true, true, false, true, false, false, false] rfl rfl (by kernel_rfl) (fun _ _ _ h => h) (Or.inl ⟨by rfl, ?_⟩) ?_ ?_
        rotate_left
        · intro w'
          go_simp
          with_reducible rfl
        rotate_left
        · simp only [Act.put, List.setIfInBounds_toArray, List.set_cons_zero, List.set_cons_succ, i64_w, i32_w]
          rfl
        refine take_ (i := 26) (N := some 93) (v := ?_) (a' := ?_) #[true, true, true, true, true, true, true, true, true, true, true, true, true, true, true, true, true, true, true, true, true, true, true, true, true, true, true, true, true, false, true, true, true, true, false, true, true, true, true, false, true, false, false, false] rfl rfl (by kernel_rfl) (fun _ _ _ h => h) (Or.inl ⟨by rfl, ?_⟩) hHeld ?_ ?_
        rotate_left
        · rintro w' ⟨s0, s1⟩
          go_simp
          with_reducible rfl
        rotate_left
        · simp only [Act.put, List.setIfInBounds_toArray, List.set_cons_zero, List.set_cons_succ, i64_w, i32_w]
          rfl
        refine take_ (i := 34) (N := some 101) (v := ?_) (a' := ?_) #[true, true, true, true, true, true, true, true, true, true, true, true, true, true, true, true, true, true, true, true, true, true, true, true, true, true, true, true, true, false, true, true, true, true, true, true, true, true, true, false, true, false, false, false] rfl rfl (by kernel_rfl) (fun _ _ _ h => h) (Or.inl ⟨by rfl, ?_⟩) hHeld ?_ ?_
        rotate_left
        · rintro w' ⟨s0, s1⟩
          go_simp
          with_reducible rfl
        rotate_left
        · simp only [Act.put, List.setIfInBounds_toArray, List.set_cons_zero, List.set_cons_succ, i64_w, i32_w]
          rfl
        refine take_ (i := 39) (N := some 106) (v := ?_) (a' := ?_) #[true, true, true, true, true, true, true, true, true, true, true, true, true, true, true, true, true, true, true, true, true, true, true, true, true, true, true, true, true, false, true, true, true, true, true, true, true, true, true, true, true, false, false, false] rfl rfl (by kernel_rfl) (fun _ _ _ h => h) (Or.inl ⟨by rfl, ?_⟩) hHeld ?_ ?_
        rotate_left
        · rintro w' ⟨s0, s1⟩
          go_simp
          with_reducible rfl
        rotate_left
        · simp only [Act.put, List.setIfInBounds_toArray, List.set_cons_zero, List.set_cons_succ, i64_w, i32_w]
          rfl
        refine one_ (i := 29) (N := some 96) #[true, true, true, true, true, true, true, true, true, true, true, true, true, true, true, true, true, true, true, true, true, true, true, true, true, true, true, true, true, true, true, true, true, true, true, true, true, true, true, true, true, false, false, false] rfl rfl (by kernel_rfl) (by decide) (fun K hK => ?_)
        refine goes_ Try.func23 (by kernel_rfl) rfl #[.int .i64 (rd_T44 l0 x).f0, .slice A2 (rd_T44 l0 x).f1.length c2, .int .i64 d] (by rfl) rfl rfl (by simp only [List.map_toArray, List.map_cons, List.map_nil]; rfl) ?_
        with_reducible refine (HA23.out _ b4).mono ?_
        rintro e w8 ⟨rfl, d2, d3, d4⟩
        refine ⟨_, rfl, ?_⟩
        refine hK.out _ _ ⟨d2, d3⟩ (fun hHeld => ?_)
        clear hK K
        refine norm_ (a' := ?_) ?_ ?_
        rotate_left
        · show Act.put _ (some 96) _ = _
          simp only [Act.put, List.setIfInBounds_toArray, List.set_cons_zero, List.set_cons_succ, i64_w, i32_w]
          rfl
        refine last_ (i := 41) (N := some 108) #[true, true, true, true, true, true, true, true, true, true, true, true, true, true, true, true, true, true, true, true, true, true, true, true, true, true, true, true, true, true, true, true, true, true, true, true, true, true, true, true, true, true, false, false] rfl rfl (by kernel_rfl) (by decide) (fun K hK => ?_)
        refine goes_ Try.func32 (by kernel_rfl) rfl #[.int .i64 (rd_T44 l0 x).f0, .slice A1 (rd_T44 l0 x).f1.length c1, .int .i64 d] (by rfl) rfl rfl (by simp only [List.map_toArray, List.map_cons, List.map_nil]; rfl) ?_
        with_reducible refine (HA32.out _ d4).mono ?_
        rintro e w9 ⟨rfl, z4⟩
        refine ⟨_, rfl, ?_⟩
        refine hK.out _ _ ?_
        clear hK K
        refine norm_ (a' := ?_) ?_ ?_
        rotate_left
        · show Act.put _ (some 108) _ = _
          simp only [Act.put, List.setIfInBounds_toArray, List.set_cons_zero, List.set_cons_succ, i64_w, i32_w]
          rfl
        refine pure_ (i := 42) (N := some 109) (v := ?_) (a' := ?_) #[true, true, true, true, true, true, true, true, true, true, true, true, true, true, true, true, true, true, true, true, true, true, true, true, true, true, true, true, true, true, true, true, true, true, true, true, true, true, true, true, true, true, true, false] rfl rfl (by kernel_rfl) (fun _ _ _ h => h) (Or.inl ⟨by rfl, ?_⟩) ?_ ?_
        rotate_left
        · intro w'
          go_simp
          with_reducible rfl
        rotate_left
        · simp only [Act.put, List.setIfInBounds_toArray, List.set_cons_zero, List.set_cons_succ, i64_w, i32_w]
          rfl
        refine pure_ (i := 43) (N := some 110) (v := ?_) (a' := ?_) #[true, true, true, true, true, true, true, true, true, true, true, true, true, true, true, true, true, true, true, true, true, true, true, true, true, true, true, true, true, true, true, true, true, true, true, true, true, true, true, true, true, true, true, true] rfl rfl (by kernel_rfl) (fun _ _ _ h => h) (Or.inl ⟨by rfl, ?_⟩) ?_ ?_
        rotate_left
        · intro w'
          go_simp
          with_reducible rfl
        rotate_left
        · simp only [Act.put, List.setIfInBounds_toArray, List.set_cons_zero, List.set_cons_succ, i64_w, i32_w]
          rfl
        refine done_ (by kernel_rfl) ?_
        clear hHeld q0 q1 a2 a3 b2 b3 d2 d3
        go_wp2
        go_roundg m
        case measure => omega
        case rel => exact ⟨x + 1, g2, b2, Ln, rfl, rfl, ⟨by obtain ⟨j, e, hj, h⟩ := HJ.out; have := HLnl.out; exact ⟨j + 1, by omega, by omega, by omega⟩⟩, z4⟩
theorem ClockTicks.walked (w : World) (n : Int) (_ : (Lit.int .i64 n).wf = true) (A0 : Option Addr) (c0 : Nat) (l0 : List S44) (hr0 : Kd.C k44 w A0 l0.length l0) (hc0 : l0.length ≤ c0) (y0 : l0.length * Try.prog.bytesOf 44 ≤ reachBytes) (hq : ∀ y ∈ l0, t44wf y) (d : Int) (_ : (Lit.int .i64 d).wf = true) (node : Int) (_ : (Lit.int .i64 node).wf = true) :
    Calls Try.prog 7 #[.int .i64 n, .slice A0 l0.length c0, .int .i64 d, .int .i64 node] w fun e w' => e = .returned (.bool true) ∧ Below w.heap.size w w' := by
  by_cases hn : 1 ≤ n ∧ n ≤ 7
  · obtain ⟨N, rfl⟩ := Int.eq_ofNat_of_zero_le (show 0 ≤ n by omega)
    refine ClockTicks.in_ w A0 c0 l0 hr0 ?_ hq N d node (by omega)
    have e : Try.prog.bytesOf 44 = 32 := by kernel_rfl
    rw [e] at y0
    exact Nat.le_trans y0 (by decide)
  · exact ClockTicks.bad w A0 c0 l0 n d node hn
end Go.Proofs.Ytfmcpceilkkhfaa.P
