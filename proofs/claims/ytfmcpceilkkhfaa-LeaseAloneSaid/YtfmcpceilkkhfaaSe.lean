/- LeaseAlone: how what lies in memory is laid. -/
import Derived.Test.YtfmcpceilkkhfaaSb
namespace Go.Proofs.Ytfmcpceilkkhfaa.P
open Go.RowKit Go.Proofs.YtfmcpceilkkhfaaW.PrintWords Go.Proofs.YtfmcpceilkkhfaaW.PrintLast Go.Proofs.YtfmcpceilkkhfaaW.PrintMore
set_option linter.unusedVariables false
set_option linter.unusedSimpArgs false
def ptrsTo (m i : Nat) (gs : Nat → Nat) : Array Value := ((List.range m).map fun k => if k < i then Value.pointer (some ⟨gs k, 0, none⟩) else .pointer none).toArray
theorem ptrsTo_all (m : Nat) (gs : Nat → Nat) : ptrsTo m m gs = ptrs m gs := by
  unfold ptrsTo ptrs
  congr 1
  refine List.map_congr_left (fun k hk => ?_)
  rw [if_pos (List.mem_range.1 hk)]
theorem made_one (v : Value) (m : Nat) : madeCells #[v] m = ((List.range m).map fun _ => v).toArray := by
  unfold madeCells
  apply Array.ext'
  simp [Array.toList_map]
  intro a _
  rw [Nat.mod_one]
  rfl
theorem ptrsTo_zero (m : Nat) (gs : Nat → Nat) : madeCells #[Value.pointer none] m = ptrsTo m 0 gs := by
  rw [made_one]
  unfold ptrsTo
  congr 1
theorem blsV_none (m : Nat) : madeCells #[Value.bool false] m = blsV m (fun _ => false) := made_one _ m
theorem ptrsTo_set {m i : Nat} (gs : Nat → Nat) (g : Nat) (h : i < m) : (ptrsTo m i gs).setIfInBounds i (.pointer (some ⟨g, 0, none⟩)) = ptrsTo m (i + 1) (upd gs i g) := by
  unfold ptrsTo
  rw [List.setIfInBounds_toArray]
  congr 1
  refine List.ext_getElem? (fun j => ?_)
  rw [List.getElem?_set]
  by_cases e : i = j
  · subst e
    rw [if_pos rfl, if_pos (by simpa using h), List.getElem?_map, List.getElem?_range h]
    show _ = some (if i < i + 1 then Value.pointer (some ⟨upd gs i g i, 0, none⟩) else .pointer none)
    rw [if_pos (Nat.lt_succ_self i), upd_eq]
  · rw [if_neg e, List.getElem?_map, List.getElem?_map]
    by_cases h2 : j < m
    · rw [List.getElem?_range h2]
      show some (if j < i then Value.pointer (some ⟨gs j, 0, none⟩) else .pointer none) = some (if j < i + 1 then Value.pointer (some ⟨upd gs i g j, 0, none⟩) else .pointer none)
      rw [upd_ne _ _ (fun q => e q.symm)]
      by_cases h3 : j < i
      · rw [if_pos h3, if_pos (by omega)]
      · rw [if_neg h3, if_neg (by omega)]
    · rw [List.getElem?_eq_none (by simpa using Nat.le_of_not_lt h2)]
      rfl
/-- The row of holds while it is filled. -/
structure HI (z W : World) (m i hb : Nat) (gs : Nat → Nat) (ls : Int) : Prop where
  row : W.heap[hb]? = some (.cells (ptrsTo m i gs) 27 (0, 0))
  hld : ∀ k, k < i → Hld W (hb + 1) (gs k) ls 0 0 0
  mono : ∀ j k, j < k → k < i → gs j < gs k
  below : Below z.heap.size z W
  up : z.heap.size ≤ hb
theorem HI.step {z W W' : World} {m i hb : Nat} {gs : Nat → Nat} {ls : Int} (h : HI z W m i hb gs ls) (hb2 : Below W.heap.size W W') : HI z W' m i hb gs ls := ⟨blk_below h.row hb2, fun k hk => (h.hld k hk).below hb2, h.mono, below_step h.below hb2, h.up⟩
theorem HI.put {z W W' : World} {m i hb g : Nat} {gs : Nat → Nat} {ls : Int} (h : HI z W m i hb gs ls) (hi : i < m) (hl : Hld W' W.heap.size g ls 0 0 0) (hb2 : Below W.heap.size W W') : HI z (W'.setCell ⟨hb, i, none⟩ (.pointer (some ⟨g, 0, none⟩))) m (i + 1) hb (upd gs i g) ls := by
  have h' := h.step hb2
  have hg := hl.2
  have hlt := blk_lt h.row
  have hk : Kept W' (W'.setCell ⟨hb, i, none⟩ (.pointer (some ⟨g, 0, none⟩))) (fun j => j = hb) := Kept.setCell (S := fun j => j = hb) (Kept.refl _ _) (p := ⟨hb, i, none⟩) (.inl (show hb = hb from rfl)) _
  refine ⟨?_, fun k hk2 => ?_, fun j k hjk hk2 => ?_, h'.below.setCell (p := ⟨hb, i, none⟩) h.up _, h.up⟩
  · rw [blk_set h'.row i (.pointer (some ⟨g, 0, none⟩)), ptrsTo_set gs g hi]
  · by_cases e : k = i
    · subst e
      rw [upd_eq]
      have : Hld W' (hb + 1) g ls 0 0 0 := ⟨hl.1, by omega⟩
      exact this.kept hk (by omega)
    · rw [upd_ne _ _ e]
      have := h'.hld k (by omega)
      exact this.kept hk (by have := this.2; omega)
  · by_cases e : k = i
    · subst e
      rw [upd_eq, upd_ne _ _ (by omega)]
      have := (h.hld j (by omega)).lt
      omega
    · rw [upd_ne _ _ e, upd_ne _ _ (by omega)]
      exact h.mono j k hjk (by omega)
/-- The numbers of blocks, of those of the holds. -/
def tagR (f : Nat → Nat) (gs : Nat → Nat) : Nat → Nat → Nat
  | 0 => f
  | k + 1 => upd (tagR f gs k) (gs k) (6 + k)
theorem tagR_far (f : Nat → Nat) (gs : Nat → Nat) : ∀ (m x : Nat), (∀ k, k < m → x ≠ gs k) → tagR f gs m x = f x
  | 0, x, _ => rfl
  | m + 1, x, h => by
    show upd (tagR f gs m) (gs m) (6 + m) x = f x
    rw [upd_ne _ _ (h m (Nat.lt_succ_self m))]
    exact tagR_far f gs m x (fun k hk => h k (by omega))
theorem tagR_at (f : Nat → Nat) (gs : Nat → Nat) : ∀ (m : Nat), (∀ j k, j < k → k < m → gs j < gs k) → ∀ k, k < m → tagR f gs m (gs k) = 6 + k
  | 0, _, k, hk => absurd hk (by omega)
  | m + 1, h, k, hk => by
    show upd (tagR f gs m) (gs m) (6 + m) (gs k) = 6 + k
    by_cases e : k = m
    · subst e; rw [upd_eq]
    · rw [upd_ne _ _ (by have := h k m (by omega) (by omega); omega)]
      exact tagR_at f gs m (fun j k hjk hk2 => h j k hjk (by omega)) k (by omega)
def tag0 (ga ba gc bc hb lb bm x : Nat) : Nat := if x = ga ∨ x = ba then 1 else if x = gc ∨ x = bc then 2 else if x = hb then 3 else if x = lb then 4 else if x = bm ∨ x = bm + 1 then 5 else 0
theorem AP.start {w z W : World} {m : Nat} {ls tr : Int} {ga ba gc bc hb : Nat} {gs : Nat → Nat} (hL : Lse z w.heap.size ga ba (List.replicate m (-1)) tr) (hC : Clk z w.heap.size gc bc 0 (List.replicate m 0) 0) (hb1 : Below w.heap.size w z) (hac : ga < gc ∧ ga < bc ∧ ba < gc ∧ ba < bc) (h : HI z W m m hb gs ls) (hm : m ≤ 7) :
    AP w (((W.alloc (.cells #[.int .i64 5, .int .i64 0] 34)).alloc (.cells #[.int .i64 6, .int .i64 1] 34)).alloc (.cells (madeCells #[.bool false] m) 4)) (tagR (tag0 ga ba gc bc hb (W.heap.size + 1 + 1) W.heap.size) gs m) m ls tr ga ba gc bc hb (W.heap.size + 1 + 1) W.heap.size gs 0 0 (List.replicate m 0) (List.replicate m (-1)) (fun _ => false) (fun _ => 0) (fun _ => 0) (fun _ => 0) (.slice none 0 0) [] := by
  obtain ⟨Y, eY⟩ : ∃ Y, ((W.alloc (.cells #[.int .i64 5, .int .i64 0] 34)).alloc (.cells #[.int .i64 6, .int .i64 1] 34)).alloc (.cells (madeCells #[.bool false] m) 4) = Y := ⟨_, rfl⟩
  have hWY : Below W.heap.size W Y := by rw [← eY]; exact below_alloc (below_alloc (below_alloc (Below.refl _ _) _) _) _
  have e1 := blk_new W (.cells #[.int .i64 5, .int .i64 0] 34)
  have e2 := blk_new (W.alloc (.cells #[.int .i64 5, .int .i64 0] 34)) (.cells #[.int .i64 6, .int .i64 1] 34)
  have e3 := blk_new ((W.alloc (.cells #[.int .i64 5, .int .i64 0] 34)).alloc (.cells #[.int .i64 6, .int .i64 1] 34)) (.cells (madeCells #[.bool false] m) 4)
  rw [World.size_alloc] at e2 e3
  rw [World.size_alloc] at e3
  replace e1 := blk_alloc (blk_alloc e1 (.cells #[.int .i64 6, .int .i64 1] 34)) (.cells (madeCells #[.bool false] m) 4)
  replace e2 := blk_alloc e2 (.cells (madeCells #[.bool false] m) 4)
  rw [eY] at e1 e2 e3
  rw [eY]
  have hzY : Below z.heap.size z Y := below_step h.below hWY
  have hhb := blk_lt h.row
  have hup := h.up
  have hgs : ∀ k, k < m → hb < gs k ∧ gs k < W.heap.size := fun k hk => ⟨(h.hld k hk).2, (h.hld k hk).lt⟩
  have hla := hL.lt
  have hlc := hC.lt
  have hzs := hb1.size
  have far : ∀ x, x ≤ hb ∨ W.heap.size ≤ x → tagR (tag0 ga ba gc bc hb (W.heap.size + 1 + 1) W.heap.size) gs m x = tag0 ga ba gc bc hb (W.heap.size + 1 + 1) W.heap.size x := fun x hx => tagR_far _ gs m x (fun k hk => by have := hgs k hk; omega)
  refine ⟨hL.below hzY, hC.below hzY, ?_, ?_, ⟨e1, e2⟩, fun k hk => ?_, Kd.R_nil _ _ _ _ _, ⟨?_, ?_, ?_, ?_, ?_, fun k hk => tagR_at _ gs m h.mono k hk⟩, fun x hx => ?_, below_step hb1 hzY, by omega⟩
  · rw [← ptrsTo_all]; exact blk_below h.row hWY
  · rw [e3, blsV_none]
  · have := (h.hld k hk).below hWY
    exact ⟨this.1, by have := this.2; omega⟩
  · rw [far ga (by omega), far ba (by omega)]
    unfold tag0
    rw [if_pos (.inl rfl), if_pos (.inr rfl)]
    exact ⟨rfl, rfl⟩
  · rw [far gc (by omega), far bc (by omega)]
    unfold tag0
    rw [if_neg (by omega), if_pos (.inl rfl), if_neg (by omega), if_pos (.inr rfl)]
    exact ⟨rfl, rfl⟩
  · rw [far hb (by omega)]
    unfold tag0
    rw [if_neg (by omega), if_neg (by omega), if_pos rfl]
  · rw [far _ (by omega)]
    unfold tag0
    rw [if_neg (by omega), if_neg (by omega), if_neg (by omega), if_pos rfl]
  · rw [far _ (by omega), far _ (by omega)]
    unfold tag0
    rw [if_neg (by omega), if_neg (by omega), if_neg (by omega), if_neg (by omega), if_pos (.inl rfl), if_neg (by omega), if_neg (by omega), if_neg (by omega), if_neg (by omega), if_pos (.inr rfl)]
    exact ⟨rfl, rfl⟩
  · have hs := blk_lt e3
    rw [far x (by have := hWY.size; omega)]
    unfold tag0
    rw [if_neg (by omega), if_neg (by omega), if_neg (by omega), if_neg (by omega), if_neg (by omega)]
/-- What the loop over what happens keeps. -/
def ST (w W : World) (m : Nat) (ls d tr : Int) (ga ba gc bc hb lb bm : Nat) (wv : Value) : Prop :=
  ∃ (tag gs : Nat → Nat) (t dr : Int) (now asked : List Int) (lt : Nat → Bool) (bl nd un : Nat → Int) (ws : List (Int × Int)), AP w W tag m ls tr ga ba gc bc hb lb bm gs t dr now asked lt bl nd un wv ws ∧ GA m ls d tr now asked lt bl un ws ∧ ClkOk t now dr ∧ ws.length ≤ 5000
end Go.Proofs.Ytfmcpceilkkhfaa.P
