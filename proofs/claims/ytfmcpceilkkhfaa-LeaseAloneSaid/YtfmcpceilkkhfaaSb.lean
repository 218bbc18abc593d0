/- LeaseAlone: what lies in memory, all apart. -/
import Derived.Test.YtfmcpceilkkhfaaSa
import Derived.Test.YtfmcpceilkkhfaaOp
namespace Go.Proofs.Ytfmcpceilkkhfaa.P
open Go.RowKit Go.Proofs.YtfmcpceilkkhfaaW.PrintWords Go.Proofs.YtfmcpceilkkhfaaW.PrintLast Go.Proofs.YtfmcpceilkkhfaaW.PrintMore
set_option linter.unusedVariables false
set_option linter.unusedSimpArgs false
def kW : Kd (Int × Int) := Kd.pair (Kd.int .i64) (Kd.int .i64)
def ptrs (m : Nat) (gs : Nat → Nat) : Array Value := ((List.range m).map fun k => Value.pointer (some ⟨gs k, 0, none⟩)).toArray
def blsV (m : Nat) (lt : Nat → Bool) : Array Value := ((List.range m).map fun k => Value.bool (lt k)).toArray
theorem map_upd {α : Type} (f : Nat → α) (g : α → Value) (m k : Nat) (x : α) : (((List.range m).map fun j => g (f j)).toArray).setIfInBounds k (g x) = ((List.range m).map fun j => g (upd f k x j)).toArray := by
  rw [List.setIfInBounds_toArray]
  congr 1
  refine List.ext_getElem? (fun j => ?_)
  rw [List.getElem?_set]
  by_cases e : k = j
  · subst e
    rw [if_pos rfl]
    by_cases h : k < m
    · rw [if_pos (by simpa using h), List.getElem?_map, List.getElem?_range h]
      show _ = some (g (upd f k x k))
      rw [upd_eq]
    · rw [if_neg (by simpa using h), List.getElem?_eq_none (by simpa using Nat.le_of_not_lt h)]
  · rw [if_neg e, List.getElem?_map, List.getElem?_map]
    by_cases h : j < m
    · rw [List.getElem?_range h]
      show some (g (f j)) = some (g (upd f k x j))
      rw [upd_ne _ _ (fun q => e q.symm)]
    · rw [List.getElem?_eq_none (by simpa using Nat.le_of_not_lt h)]
      rfl
theorem ptrs_at {m k : Nat} (gs : Nat → Nat) (h : k < m) : (ptrs m gs)[k]? = some (.pointer (some ⟨gs k, 0, none⟩)) := by
  unfold ptrs
  rw [List.getElem?_toArray, List.getElem?_map, List.getElem?_range h]
  rfl
theorem blsV_at {m k : Nat} (lt : Nat → Bool) (h : k < m) : (blsV m lt)[k]? = some (.bool (lt k)) := by
  unfold blsV
  rw [List.getElem?_toArray, List.getElem?_map, List.getElem?_range h]
  rfl
/-- Each object's blocks have a number of their own. -/
structure TG (tag : Nat → Nat) (m ga ba gc bc hb lb bm : Nat) (gs : Nat → Nat) : Prop where
  a : tag ga = 1 ∧ tag ba = 1
  c : tag gc = 2 ∧ tag bc = 2
  h : tag hb = 3
  l : tag lb = 4
  b : tag bm = 5 ∧ tag (bm + 1) = 5
  g : ∀ k, k < m → tag (gs k) = 6 + k
structure AP (w W : World) (tag : Nat → Nat) (m : Nat) (ls tr : Int) (ga ba gc bc hb lb bm : Nat) (gs : Nat → Nat) (t dr : Int) (now asked : List Int) (lt : Nat → Bool) (bl nd un : Nat → Int) (wv : Value) (ws : List (Int × Int)) : Prop where
  lse : Lse W w.heap.size ga ba asked tr
  clk : Clk W w.heap.size gc bc t now dr
  hrow : W.heap[hb]? = some (.cells (ptrs m gs) 27 (0, 0))
  lrow : W.heap[lb]? = some (.cells (blsV m lt) 4 (0, 0))
  mine : W.heap[bm]? = some (.cells #[.int .i64 5, .int .i64 0] 34 (0, 0)) ∧ W.heap[bm + 1]? = some (.cells #[.int .i64 6, .int .i64 1] 34 (0, 0))
  hld : ∀ k, k < m → Hld W w.heap.size (gs k) ls (bl k) (nd k) (un k)
  way : kW.R 85 W w.heap.size (fun k => tag k = 0) wv ws
  tg : TG tag m ga ba gc bc hb lb bm gs
  tz : ∀ k, W.heap.size ≤ k → tag k = 0
  below : Below w.heap.size w W
  up : w.heap.size ≤ hb ∧ w.heap.size ≤ lb ∧ m ≤ 7
section
variable {w W W' : World} {tag : Nat → Nat} {m : Nat} {ls tr : Int} {ga ba gc bc hb lb bm : Nat} {gs : Nat → Nat} {t dr : Int} {now asked : List Int} {lt : Nat → Bool} {bl nd un : Nat → Int} {wv : Value} {ws : List (Int × Int)}
theorem AP.keep {S : Nat → Prop} {c : Nat} (h : AP w W tag m ls tr ga ba gc bc hb lb bm gs t dr now asked lt bl nd un wv ws) (hf : Kept W W' S) (hS : ∀ k, S k → tag k = c) :
    (c ≠ 1 → Lse W' w.heap.size ga ba asked tr) ∧ (c ≠ 2 → Clk W' w.heap.size gc bc t now dr) ∧ (c ≠ 3 → W'.heap[hb]? = some (.cells (ptrs m gs) 27 (0, 0))) ∧ (c ≠ 4 → W'.heap[lb]? = some (.cells (blsV m lt) 4 (0, 0))) ∧
    (c ≠ 5 → W'.heap[bm]? = some (.cells #[.int .i64 5, .int .i64 0] 34 (0, 0)) ∧ W'.heap[bm + 1]? = some (.cells #[.int .i64 6, .int .i64 1] 34 (0, 0))) ∧ (∀ k, k < m → c ≠ 6 + k → Hld W' w.heap.size (gs k) ls (bl k) (nd k) (un k)) ∧ (c ≠ 0 → kW.R 85 W' w.heap.size (fun k => tag k = 0) wv ws) ∧ (∀ k, W'.heap.size ≤ k → tag k = 0) :=
  ⟨fun hc => h.lse.kept hf (fun q => hc ((hS _ q).symm.trans h.tg.a.1)) (fun q => hc ((hS _ q).symm.trans h.tg.a.2)), fun hc => h.clk.kept hf (fun q => hc ((hS _ q).symm.trans h.tg.c.1)) (fun q => hc ((hS _ q).symm.trans h.tg.c.2)),
   fun hc => blk_kept h.hrow hf (fun q => hc ((hS _ q).symm.trans h.tg.h)), fun hc => blk_kept h.lrow hf (fun q => hc ((hS _ q).symm.trans h.tg.l)), fun hc => ⟨blk_kept h.mine.1 hf (fun q => hc ((hS _ q).symm.trans h.tg.b.1)), blk_kept h.mine.2 hf (fun q => hc ((hS _ q).symm.trans h.tg.b.2))⟩,
   fun k hk hc => (h.hld k hk).kept hf (fun q => hc ((hS _ q).symm.trans (h.tg.g k hk))), fun hc => Kd.R_kept h.way hf (fun k hk q => hc ((hS _ q).symm.trans hk)), fun k hk => h.tz k (Nat.le_trans hf.1 hk)⟩
theorem AP.step (h : AP w W tag m ls tr ga ba gc bc hb lb bm gs t dr now asked lt bl nd un wv ws) (hb2 : Below W.heap.size W W') : AP w W' tag m ls tr ga ba gc bc hb lb bm gs t dr now asked lt bl nd un wv ws := by
  obtain ⟨h1, h2, h3, h4, h5, h6, h7, h8⟩ := h.keep (c := 1000) (Kept.of_below hb2 (fun _ => False)) (fun k q => q.elim)
  exact ⟨h1 (by decide), h2 (by decide), h3 (by decide), h4 (by decide), h5 (by decide), fun k hk => h6 k hk (by have := h.up.2.2; omega), h7 (by decide), h.tg, h8, below_step h.below hb2, h.up⟩
theorem AP.setL {asked' : List Int} (h : AP w W tag m ls tr ga ba gc bc hb lb bm gs t dr now asked lt bl nd un wv ws) (hl : Lse W' w.heap.size ga ba asked' tr) (hf : Fr (fun k => k = ga ∨ k = ba) W W') : AP w W' tag m ls tr ga ba gc bc hb lb bm gs t dr now asked' lt bl nd un wv ws := by
  obtain ⟨h1, h2, h3, h4, h5, h6, h7, h8⟩ := h.keep (c := 1) hf.kept (fun k q => by rcases q with rfl | rfl; exact h.tg.a.1; exact h.tg.a.2)
  exact ⟨hl, h2 (by decide), h3 (by decide), h4 (by decide), h5 (by decide), fun k hk => h6 k hk (by omega), h7 (by decide), h.tg, h8, hf.below (fun k q => by rcases q with rfl | rfl; exact h.lse.ge.1; exact h.lse.ge.2.1) h.below.size h.below, h.up⟩
theorem AP.setC {t' dr' : Int} {now' : List Int} (h : AP w W tag m ls tr ga ba gc bc hb lb bm gs t dr now asked lt bl nd un wv ws) (hl : Clk W' w.heap.size gc bc t' now' dr') (hf : Fr (fun k => k = gc ∨ k = bc) W W') : AP w W' tag m ls tr ga ba gc bc hb lb bm gs t' dr' now' asked lt bl nd un wv ws := by
  obtain ⟨h1, h2, h3, h4, h5, h6, h7, h8⟩ := h.keep (c := 2) hf.kept (fun k q => by rcases q with rfl | rfl; exact h.tg.c.1; exact h.tg.c.2)
  exact ⟨h1 (by decide), hl, h3 (by decide), h4 (by decide), h5 (by decide), fun k hk => h6 k hk (by omega), h7 (by decide), h.tg, h8, hf.below (fun k q => by rcases q with rfl | rfl; exact h.clk.ge.1; exact h.clk.ge.2) h.below.size h.below, h.up⟩
theorem AP.setH {k : Nat} {r' d' u' : Int} (h : AP w W tag m ls tr ga ba gc bc hb lb bm gs t dr now asked lt bl nd un wv ws) (hk : k < m) (hl : Hld W' w.heap.size (gs k) ls r' d' u') (hf : Fr (fun j => j = gs k) W W') :
    AP w W' tag m ls tr ga ba gc bc hb lb bm gs t dr now asked lt (upd bl k r') (upd nd k d') (upd un k u') wv ws := by
  obtain ⟨h1, h2, h3, h4, h5, h6, h7, h8⟩ := h.keep (c := 6 + k) hf.kept (fun j q => by rw [q]; exact h.tg.g k hk)
  refine ⟨h1 (by omega), h2 (by omega), h3 (by omega), h4 (by omega), h5 (by omega), fun j hj => ?_, h7 (by omega), h.tg, h8, hf.below (fun j q => by rw [q]; exact (h.hld k hk).2) h.below.size h.below, h.up⟩
  by_cases q : j = k
  · subst q; rw [upd_eq, upd_eq, upd_eq]; exact hl
  · rw [upd_ne _ _ q, upd_ne _ _ q, upd_ne _ _ q]; exact h6 j hj (by omega)
theorem AP.setB {k : Nat} (h : AP w W tag m ls tr ga ba gc bc hb lb bm gs t dr now asked lt bl nd un wv ws) (hk : k < m) :
    AP w (W.setCell ⟨lb, k, none⟩ (.bool true)) tag m ls tr ga ba gc bc hb lb bm gs t dr now asked (upd lt k true) bl nd un wv ws := by
  have hf : Fr (fun j => j = lb) W (W.setCell ⟨lb, k, none⟩ (.bool true)) := Fr.setCell (S := fun j => j = lb) (Fr.refl _ W) (p := ⟨lb, k, none⟩) (show lb = lb from rfl) _
  obtain ⟨h1, h2, h3, h4, h5, h6, h7, h8⟩ := h.keep (c := 4) hf.kept (fun j q => by rw [q]; exact h.tg.l)
  refine ⟨h1 (by decide), h2 (by decide), h3 (by decide), ?_, h5 (by decide), fun j hj => h6 j hj (by omega), h7 (by decide), h.tg, h8, hf.below (fun j q => by rw [q]; exact h.up.2.1) h.below.size h.below, h.up⟩
  have := blk_set h.lrow k (.bool true)
  rw [this]
  unfold blsV
  rw [map_upd lt Value.bool m k true]
/-- A node that crashed: a hold of its own, of nobody. -/
theorem AP.newH {k g2 : Nat} (h : AP w W tag m ls tr ga ba gc bc hb lb bm gs t dr now asked lt bl nd un wv ws) (hk : k < m) (hl : Hld W' W.heap.size g2 ls 0 0 0) (hb2 : Below W.heap.size W W') :
    AP w (W'.setCell ⟨hb, k, none⟩ (.pointer (some ⟨g2, 0, none⟩))) (upd tag g2 (6 + k)) m ls tr ga ba gc bc hb lb bm (upd gs k g2) t dr now asked lt (upd bl k 0) (upd nd k 0) (upd un k 0) wv ws := by
  have hg := hl.2
  have hgs := hl.lt
  have h' := h.step hb2
  have hlt : ∀ j o, W.heap[j]? = some o → j ≠ g2 := fun j o q => by have := blk_lt q; omega
  have tg' : ∀ j, j ≠ g2 → upd tag g2 (6 + k) j = tag j := fun j q => upd_ne _ _ q
  have hf : Fr (fun j => j = hb) W' (W'.setCell ⟨hb, k, none⟩ (.pointer (some ⟨g2, 0, none⟩))) := Fr.setCell (S := fun j => j = hb) (Fr.refl _ W') (p := ⟨hb, k, none⟩) (show hb = hb from rfl) _
  obtain ⟨h1, h2, h3, h4, h5, h6, h7, h8⟩ := h'.keep (c := 3) hf.kept (fun j q => by rw [q]; exact h.tg.h)
  have hla := h.lse.lt
  have hlc := h.clk.lt
  refine ⟨h1 (by decide), h2 (by decide), ?_, h4 (by decide), h5 (by decide), fun j hj => ?_, ?_, ⟨?_, ?_, ?_, ?_, ?_, fun j hj => ?_⟩, fun j hj => ?_, hf.below (fun j q => by rw [q]; exact h.up.1) h'.below.size h'.below, h.up⟩
  · have := blk_set h'.hrow k (.pointer (some ⟨g2, 0, none⟩))
    rw [this]
    unfold ptrs
    rw [map_upd gs (fun x => Value.pointer (some ⟨x, 0, none⟩)) m k g2]
  · by_cases q : j = k
    · subst q
      rw [upd_eq, upd_eq, upd_eq, upd_eq]
      exact ⟨blk_kept hl.1 hf.kept (fun q => (hlt hb _ h.hrow) q.symm), Nat.le_trans h.below.size hg⟩
    · rw [upd_ne _ _ q, upd_ne _ _ q, upd_ne _ _ q, upd_ne _ _ q]
      exact h6 j hj (by omega)
  · refine Kd.R_kept (Kd.R_mono (Kd.R_below (Kd.R_bound h.way) hb2) (fun j q => ?_)) hf.kept (fun j q e => ?_)
    · rw [tg' j (by have := q.2.2.1; omega)]; exact q.1
    · have e : j = hb := e
      rw [e, tg' hb (hlt hb _ h.hrow), h.tg.h] at q
      exact absurd q (by decide)
  · rw [tg' ga (by omega), tg' ba (by omega)]; exact h.tg.a
  · rw [tg' gc (by omega), tg' bc (by omega)]; exact h.tg.c
  · rw [tg' hb (hlt hb _ h.hrow)]; exact h.tg.h
  · rw [tg' lb (hlt lb _ h.lrow)]; exact h.tg.l
  · rw [tg' bm (hlt bm _ h.mine.1), tg' (bm + 1) (hlt (bm + 1) _ h.mine.2)]; exact h.tg.b
  · by_cases q : j = k
    · subst q; rw [upd_eq, upd_eq]
    · rw [upd_ne gs _ q, tg' _ (hlt _ _ (h.hld j hj).1)]; exact h.tg.g j hj
  · have hs : W'.heap.size ≤ j := Nat.le_trans hf.kept.1 hj
    rw [tg' j (by omega)]
    exact h.tz j (Nat.le_trans hb2.size hs)
/-- Asks on their way that one more is added to. -/
theorem AP.setW {wv' : Value} {ws' : List (Int × Int)} (h : AP w W tag m ls tr ga ba gc bc hb lb bm gs t dr now asked lt bl nd un wv ws) (hg : W.grownBy W' wv.ownBlock) (hr : kW.R 85 W' w.heap.size (fun k => tag k = 0) wv' ws') :
    AP w W' tag m ls tr ga ba gc bc hb lb bm gs t dr now asked lt bl nd un wv' ws' := by
  have hf : Kept W W' (fun k => some k = wv.ownBlock) := ⟨hg.size, fun k hk hn => hg.block k hk hn⟩
  obtain ⟨h1, h2, h3, h4, h5, h6, h7, h8⟩ := h.keep (c := 0) hf (fun k q => h.way.1 k q.symm)
  exact ⟨h1 (by decide), h2 (by decide), h3 (by decide), h4 (by decide), h5 (by decide), fun k hk => h6 k hk (by omega), hr, h.tg, h8, h.below.grown hg h.below.size (fun k e => Kd.R_base h.way k e), h.up⟩
theorem AP.newW {wv' : Value} {ws' : List (Int × Int)} {ok : Nat → Prop} (h : AP w W tag m ls tr ga ba gc bc hb lb bm gs t dr now asked lt bl nd un wv ws) (hb2 : Below W.heap.size W W') (hr : kW.R 85 W' W.heap.size ok wv' ws') :
    AP w W' tag m ls tr ga ba gc bc hb lb bm gs t dr now asked lt bl nd un wv' ws' := by
  have h' := h.step hb2
  exact ⟨h'.lse, h'.clk, h'.hrow, h'.lrow, h'.mine, h'.hld, Kd.R_mono (Kd.R_lower (Kd.R_bound hr) h.below.size) (fun k q => h.tz k q.2.1), h'.tg, h'.tz, h'.below, h'.up⟩
theorem AP.ptr {k : Nat} (h : AP w W tag m ls tr ga ba gc bc hb lb bm gs t dr now asked lt bl nd un wv ws) (hk : k < m) : W.cell? ⟨hb, k, none⟩ = some (.pointer (some ⟨gs k, 0, none⟩)) := (blk_cell h.hrow k).trans (ptrs_at gs hk)
theorem AP.letAt {k : Nat} (h : AP w W tag m ls tr ga ba gc bc hb lb bm gs t dr now asked lt bl nd un wv ws) (hk : k < m) : W.cell? ⟨lb, k, none⟩ = some (.bool (lt k)) := (blk_cell h.lrow k).trans (blsV_at lt hk)
end
/-- One thing that happens. -/
structure S83 where
  f0 : Int
  f1 : Int
  f2 : Int
  f3 : List Int
def z83 : S83 := ⟨0, 0, 0, []⟩
def k83 : Kd S83 := Kd.iso (Kd.pair (Kd.int .i64) (Kd.pair (Kd.int .i64) (Kd.pair (Kd.int .i64) (Kd.slice 3 (Kd.int .i64))))) (fun x : S83 => (x.f0, x.f1, x.f2, x.f3))
theorem k83_open {w : World} {x : S83} {cs : List Value} (h : k83.K w x cs) : ∃ A1 c1, cs = [.int .i64 x.f0, .int .i64 x.f1, .int .i64 x.f2, .slice A1 x.f3.length c1] ∧ x.f3.length ≤ c1 ∧ (Kd.int .i64).C w A1 x.f3.length x.f3 := by
  obtain ⟨_, _, rfl, rfl, _, _, rfl, rfl, _, _, rfl, rfl, A1, c1, rfl, h1, h2⟩ := h
  exact ⟨A1, c1, rfl, h1, h2⟩
def rd_T83 (xs : List S83) (i : Int) : S83 := xs.getD i.toNat z83
theorem at_T83 {w : World} {A : Option Addr} {n : Nat} {xs : List S83} (h : Kd.C k83 w A n xs) (i : Int) (h0 : 0 ≤ i) (h1 : i < n) : ∃ ad A1 c1, A = some ad ∧ w.cell? (ad.add (i.toNat * 4)) = some (.int .i64 (rd_T83 xs i).f0) ∧ w.cell? ⟨(ad.add (i.toNat * 4)).block, (ad.add (i.toNat * 4)).off + 1, none⟩ = some (.int .i64 (rd_T83 xs i).f1) ∧ w.cell? ⟨(ad.add (i.toNat * 4)).block, (ad.add (i.toNat * 4)).off + 2, none⟩ = some (.int .i64 (rd_T83 xs i).f2) ∧ w.cell? ⟨(ad.add (i.toNat * 4)).block, (ad.add (i.toNat * 4)).off + 3, none⟩ = some (.slice A1 (rd_T83 xs i).f3.length c1) ∧ (rd_T83 xs i).f3.length ≤ c1 ∧ (Kd.int .i64).C w A1 (rd_T83 xs i).f3.length (rd_T83 xs i).f3 := by
  obtain ⟨ad, c, e, _, hK, hc0⟩ := Kd.C_get h z83 i h0 h1
  have hc : ∀ j u, c[j]? = some u → w.cell? (ad.add (i.toNat * 4 + j)) = some u := hc0
  obtain ⟨A1, c1, rfl, l1, g1⟩ := k83_open hK
  exact ⟨ad, A1, c1, e, hc 0 _ rfl, by rw [← add_field _ _ 1 (by omega)]; exact hc 1 _ rfl, by rw [← add_field _ _ 2 (by omega)]; exact hc 2 _ rfl, by rw [← add_field _ _ 3 (by omega)]; exact hc 3 _ rfl, l1, g1⟩
theorem rd_T83_mem {xs : List S83} {i : Int} (h0 : 0 ≤ i) (h1 : i < xs.length) : rd_T83 xs i ∈ xs := by
  unfold rd_T83
  rw [List.getD_eq_getElem?_getD, List.getElem?_eq_getElem (by omega)]
  exact List.getElem_mem _
def rdW (xs : List (Int × Int)) (i : Int) : Int × Int := xs.getD i.toNat (0, 0)
theorem rdW_mem {xs : List (Int × Int)} {i : Int} (h0 : 0 ≤ i) (h1 : i < xs.length) : rdW xs i ∈ xs := by
  unfold rdW
  rw [List.getD_eq_getElem?_getD, List.getElem?_eq_getElem (by omega)]
  exact List.getElem_mem _
theorem kW_open {w : World} {x : Int × Int} {cs : List Value} (h : kW.K w x cs) : cs = [.int .i64 x.1, .int .i64 x.2] := by
  obtain ⟨_, _, rfl, rfl, rfl⟩ := h
  rfl
theorem at_kW {w : World} {A : Option Addr} {n : Nat} {xs : List (Int × Int)} (h : Kd.C kW w A n xs) (i : Int) (h0 : 0 ≤ i) (h1 : i < n) : ∃ ad, A = some ad ∧ w.cell? (ad.add (i.toNat * 2)) = some (.int .i64 (rdW xs i).1) ∧ w.cell? ⟨(ad.add (i.toNat * 2)).block, (ad.add (i.toNat * 2)).off + 1, none⟩ = some (.int .i64 (rdW xs i).2) := by
  obtain ⟨ad, c, e, _, hK, hc0⟩ := Kd.C_get h (0, 0) i h0 h1
  have hc : ∀ j u, c[j]? = some u → w.cell? (ad.add (i.toNat * 2 + j)) = some u := hc0
  obtain rfl := kW_open hK
  exact ⟨ad, e, hc 0 _ rfl, by rw [← add_field _ _ 1 (by omega)]; exact hc 1 _ rfl⟩
def s83wf (x : S83) : Prop := (Lit.int .i64 x.f0).wf = true ∧ (Lit.int .i64 x.f1).wf = true ∧ (Lit.int .i64 x.f2).wf = true ∧ (x.f3.length * 8 ≤ 140737488351232 ∧ ∀ y ∈ x.f3, (Lit.int .i64 y).wf = true)
section
variable {H : Type} {enc : TypeId × Value → H} {W : World} {base : Nat} {spare : Nat → Bool} {held : Bool}
theorem opens83 : Opens enc Try.prog W base spare held k83 83 s83wf := opens_iso _ (fun x => ⟨x.1, x.2.1, x.2.2.1, x.2.2.2⟩) (fun _ => rfl) (opens_struct4 Try.underlying83 opens3 opens3 opens3 opens22 (by kernel_rfl) rfl rfl rfl rfl)
end
end Go.Proofs.Ytfmcpceilkkhfaa.P
