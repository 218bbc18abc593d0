/- The printed functions of layer 8 answer what plain words on lists say. -/
import Derived.Test.YtnmjhagmobcdkaaPm
import Derived.ChangeSlices
namespace Go.Proofs.Ytnmjhagmobcdkaa.P
open Go.RowKit Go.Proofs.YtnmjhagmobcdkaaW.PrintWords Go.Proofs.YtnmjhagmobcdkaaW.PrintLast Go.Proofs.YtnmjhagmobcdkaaW.PrintMore
set_option linter.unusedVariables false

theorem w64 {i : Int} (h0 : 0 ≤ i) (h : i < 9223372036854775807) : wrap64 (i + 1) = i + 1 := by unfold wrap64; omega
theorem succ_of {k d : Nat} (h : d < k) : ∃ m, k = m + 1 := ⟨k - 1, by omega⟩
theorem rd_out {l : List Int} {n : Nat} (h : l.length ≤ n) : rd l (n : Int) = 0 := by
  unfold rd
  rw [List.getD_eq_getElem?_getD, Int.toNat_natCast, List.getElem?_eq_none h]
  rfl
theorem rd_in {l : List Int} {n : Nat} (h : n < l.length) : rd l (n : Int) = l[n] := by
  unfold rd
  rw [List.getD_eq_getElem?_getD, Int.toNat_natCast, List.getElem?_eq_getElem h]
  rfl

/-- A slice of whole numbers that came in: the list that it reads as. -/
theorem open_ints_C {H : Type} {enc : TypeId × Value → H} {P : Program} {W : World} {base : Nat} {spare : Nat → Bool} {held : Bool} {t e : TypeId} {k : IntKind} {a : Option Addr} {len cap : Nat} {d : DataW H} {ps : List MemPlace}
    (hu : P.underlying t = some (.slice e)) (he : P.underlying e = some (.int k)) (hc : P.cellsOf e = 1) (h : DataW.Trod enc P W base spare held t (.slice a len cap) d ps) :
    ∃ l : List Int, len = l.length ∧ (Kd.C (Kd.int k) W a l.length l ∧ l.length ≤ cap) ∧ ∀ x ∈ l, (Lit.int k x).wf = true := by
  obtain ⟨fuel, hf⟩ := h
  rcases Go.ChangeShapes.open_ints hu he hc hf with ⟨hcs, _⟩ | ⟨x, l, c, zs, hcs, _, hl, hm, hz, hx, hcell, hwz⟩
  · simp [Value.cells] at hcs
    obtain ⟨rfl, rfl, rfl⟩ := hcs
    exact ⟨[], rfl, ⟨Kd.C_nil _ _, Nat.le_refl _⟩, fun _ h => absurd h (by simp)⟩
  · simp [Value.cells] at hcs
    obtain ⟨rfl, rfl, rfl⟩ := hcs
    have hl2 : len ≤ zs.length := by
      rw [hz]
      split
      · exact hl
      · exact Nat.le_refl _
    have hlen : (zs.take len).length = len := by rw [List.length_take]; omega
    refine ⟨zs.take len, hlen.symm, ⟨?_, by omega⟩, fun y hy => hwz y (List.mem_of_mem_take hy)⟩
    refine Kd.C_of_reads (d := (0 : Int)) (h1 := fun _ => rfl) ⟨rfl, by simp only [maxLen] at hm; omega, fun _ => ⟨x, rfl, fun j hj => ?_⟩⟩
    rw [hlen] at hj
    rw [hcell j (by omega)]
    congr 2
    rw [List.getD_eq_getElem?_getD, List.getD_eq_getElem?_getD, List.getElem?_take_of_lt hj]
/-- Each number at most the other's. -/
def belowB (a b : List Int) : Bool := (List.range (max a.length b.length)).all fun j => decide (rd a (j : Int) ≤ rd b (j : Int))
theorem belowB_iff {a b : List Int} : belowB a b = true ↔ ∀ j : Nat, rd a (j : Int) ≤ rd b (j : Int) := by
  unfold belowB
  rw [List.all_eq_true]
  constructor
  · intro h j
    rcases Nat.lt_or_ge j (max a.length b.length) with hj | hj
    · exact of_decide_eq_true (h j (List.mem_range.2 hj))
    · rw [rd_out (by omega), rd_out (by omega)]; exact Int.le_refl _
  · intro h j _
    exact decide_eq_true (h j)
theorem below_part {a b : List Int} {n i : Int} (hn : n = ((max a.length b.length : Nat) : Int)) (hi : i = 0) : (∀ j : Nat, i ≤ (j : Int) → (j : Int) < n → rd a (j : Int) ≤ rd b (j : Int)) ↔ belowB a b = true := by
  rw [belowB_iff]
  constructor
  · intro h j
    rcases Nat.lt_or_ge j (max a.length b.length) with hj | hj
    · exact h j (by omega) (by omega)
    · rw [rd_out (by omega), rd_out (by omega)]; exact Int.le_refl _
  · intro h j _ _
    exact h j
theorem below_step_t {a b : List Int} {n i : Int} (h0 : 0 ≤ i) (hr : ¬ rd a i > rd b i) : (∀ j : Nat, i + 1 ≤ (j : Int) → (j : Int) < n → rd a (j : Int) ≤ rd b (j : Int)) ↔ (∀ j : Nat, i ≤ (j : Int) → (j : Int) < n → rd a (j : Int) ≤ rd b (j : Int)) := by
  constructor
  · intro h j h1 h2
    rcases Int.lt_or_le i (j : Int) with hj | hj
    · exact h j (by omega) h2
    · obtain rfl : i = (j : Int) := by omega
      omega
  · intro h j h1 h2
    exact h j (by omega) h2
theorem vv_Below.loop (a b : List Int) (n : Int) (hn : n < 9223372036854775807) (d : Nat) : ∀ (k : Nat) (i : Int), 0 ≤ i → i + d = n → d < k →
    ∃ r, vv_Below.l0 k a b n i = some r ∧ (r = true ↔ ∀ j : Nat, i ≤ (j : Int) → (j : Int) < n → rd a (j : Int) ≤ rd b (j : Int)) := by
  induction d with
  | zero =>
    intro k i h0 hd hk
    obtain ⟨k, rfl⟩ := succ_of hk
    refine ⟨true, by simp only [vv_Below.l0]; rw [if_neg (by omega)], by simp; intro j h1 h2; omega⟩
  | succ d ih =>
    intro k i h0 hd hk
    obtain ⟨k, rfl⟩ := succ_of hk
    have hlt : i < n := by omega
    by_cases hr : rd a i > rd b i
    · refine ⟨false, by simp only [vv_Below.l0]; rw [if_pos hlt, vv_Of.nat _ _ h0, vv_Of.nat _ _ h0]; simp only [Option.bind_some]; rw [if_pos hr], by simp; exact ⟨i.toNat, by omega, by omega, by rw [Int.toNat_of_nonneg h0]; exact hr⟩⟩
    · obtain ⟨r, h1, h2⟩ := ih k (i + 1) (by omega) (by omega) (by omega)
      exact ⟨r, by simp only [vv_Below.l0]; rw [if_pos hlt, vv_Of.nat _ _ h0, vv_Of.nat _ _ h0]; simp only [Option.bind_some]; rw [if_neg hr, w64 h0 (by omega)]; exact h1, h2.trans (below_step_t h0 hr)⟩
theorem mx_len (a b : List Int) : mx (a.length : Int) (b.length : Int) = ((max a.length b.length : Nat) : Int) := by unfold mx; split <;> omega
theorem vv_Below.tot {a b : List Int} (ha : a.length < 17592186044416) (hb : b.length < 17592186044416) : ∃ k, vv_Below.f k a b = some (belowB a b) := by
  obtain ⟨r, h1, h2⟩ := vv_Below.loop a b (mx (a.length : Int) (b.length : Int)) (by rw [mx_len]; omega) (max a.length b.length) (max a.length b.length + 1) 0 (by omega) (by rw [mx_len]; omega) (by omega)
  refine ⟨_, h1.trans (congrArg some ?_)⟩
  rw [Bool.eq_iff_iff, h2]
  exact below_part (mx_len a b) rfl
theorem pannierref08_Of.nat (l : List Int) (i : Int) (h : 0 ≤ i) : pannierref08_Of.f l i = some (rd l i) := vv_Of.nat l i h
theorem longer_is (a b : List Int) : pannierref08_longer.f a b = some ((max a.length b.length : Nat) : Int) := by
  unfold pannierref08_longer.f
  by_cases h : (a.length : Int) > (b.length : Int)
  · rw [if_pos h]; congr 1; omega
  · rw [if_neg h]; congr 1; omega
theorem pannierref08_Below.loop (a b : List Int) (n : Int) (hN : n = ((max a.length b.length : Nat) : Int)) (hn : n < 9223372036854775807) (d : Nat) : ∀ (k : Nat) (i : Int), 0 ≤ i → i + d = n → d < k →
    ∃ r, pannierref08_Below.l0 k a b i = some r ∧ (r = true ↔ ∀ j : Nat, i ≤ (j : Int) → (j : Int) < n → rd a (j : Int) ≤ rd b (j : Int)) := by
  induction d with
  | zero =>
    intro k i h0 hd hk
    obtain ⟨k, rfl⟩ := succ_of hk
    refine ⟨true, by simp only [pannierref08_Below.l0]; rw [longer_is, ← hN]; simp only [Option.bind_some]; rw [if_neg (by omega)], by simp; intro j h1 h2; omega⟩
  | succ d ih =>
    intro k i h0 hd hk
    obtain ⟨k, rfl⟩ := succ_of hk
    have hlt : i < n := by omega
    by_cases hr : rd a i > rd b i
    · refine ⟨false, by simp only [pannierref08_Below.l0]; rw [longer_is, ← hN]; simp only [Option.bind_some]; rw [if_pos hlt, pannierref08_Of.nat _ _ h0, pannierref08_Of.nat _ _ h0]; simp only [Option.bind_some]; rw [if_pos hr], by simp; exact ⟨i.toNat, by omega, by omega, by rw [Int.toNat_of_nonneg h0]; exact hr⟩⟩
    · obtain ⟨r, h1, h2⟩ := ih k (i + 1) (by omega) (by omega) (by omega)
      exact ⟨r, by simp only [pannierref08_Below.l0]; rw [longer_is, ← hN]; simp only [Option.bind_some]; rw [if_pos hlt, pannierref08_Of.nat _ _ h0, pannierref08_Of.nat _ _ h0]; simp only [Option.bind_some]; rw [if_neg hr, w64 h0 (by omega)]; exact h1, h2.trans (below_step_t h0 hr)⟩
theorem pannierref08_Below.tot {a b : List Int} (ha : a.length < 17592186044416) (hb : b.length < 17592186044416) : ∃ k, pannierref08_Below.f k a b = some (belowB a b) := by
  obtain ⟨r, h1, h2⟩ := pannierref08_Below.loop a b _ rfl (by omega) (max a.length b.length) (max a.length b.length + 1) 0 (by omega) (by omega) (by omega)
  refine ⟨_, h1.trans (congrArg some ?_)⟩
  rw [Bool.eq_iff_iff, h2]
  exact below_part rfl rfl

/-- Which of two is behind. -/
def cmpZ (a b : List Int) : Int := if belowB a b = true then (if belowB b a = true then 0 else -1) else if belowB b a = true then 1 else 2
theorem both {α : Type} {f g : Nat → Option α} {x y : α} (mf : ∀ k, LeO (f k) (f (k + 1))) (mg : ∀ k, LeO (g k) (g (k + 1))) (hf : ∃ k, f k = some x) (hg : ∃ k, g k = some y) : ∃ k, 0 < k ∧ f k = some x ∧ g k = some y := by
  obtain ⟨i, hi⟩ := hf
  obtain ⟨j, hj⟩ := hg
  have up : ∀ (h : Nat → Option α) (z : α), (∀ k, LeO (h k) (h (k + 1))) → ∀ (i d : Nat), h i = some z → h (i + d) = some z := by
    intro h z mh i d
    induction d with
    | zero => exact fun h => h
    | succ d ih => exact fun hh => mh _ _ (ih hh)
  refine ⟨i + j + 1, by omega, ?_, ?_⟩
  · rw [Nat.add_assoc]; exact up f x mf i (j + 1) hi
  · rw [show i + j + 1 = j + (i + 1) from by omega]; exact up g y mg j (i + 1) hj
theorem vv_Compare.tot {a b : List Int} (ha : a.length < 17592186044416) (hb : b.length < 17592186044416) : ∃ k, vv_Compare.f k a b = some (cmpZ a b) := by
  obtain ⟨k, hk, h1, h2⟩ := both (vv_Below.mono a b) (vv_Below.mono b a) (vv_Below.tot ha hb) (vv_Below.tot hb ha)
  refine ⟨k, ?_⟩
  obtain ⟨k, rfl⟩ : ∃ m, k = m + 1 := ⟨k - 1, by omega⟩
  unfold vv_Compare.f cmpZ
  rw [h1, h2]
  simp only [Option.bind_some, vv_Compare.j0]
  cases belowB a b <;> cases belowB b a <;> rfl
theorem pannierref08_Compare.tot {a b : List Int} (ha : a.length < 17592186044416) (hb : b.length < 17592186044416) : ∃ k, pannierref08_Compare.f k a b = some (cmpZ a b) := by
  obtain ⟨k, hk, h1, h2⟩ := both (pannierref08_Below.mono a b) (pannierref08_Below.mono b a) (pannierref08_Below.tot ha hb) (pannierref08_Below.tot hb ha)
  refine ⟨k, ?_⟩
  obtain ⟨k, rfl⟩ : ∃ m, k = m + 1 := ⟨k - 1, by omega⟩
  unfold pannierref08_Compare.f cmpZ
  rw [h1, h2]
  simp only [Option.bind_some, pannierref08_Compare.j0]
  cases belowB a b <;> cases belowB b a <;> rfl

/-! Same -/
theorem pannierlaw08_Same.loop (a b : List Int) (hl : a.length = b.length) (ha : a.length < 9223372036854775807) (d : Nat) : ∀ (k : Nat) (i : Int), 0 ≤ i → i + d = a.length → d < k →
    ∃ r, pannierlaw08_Same.l0 k a b i = some r ∧ (r = true ↔ ∀ j : Nat, i ≤ (j : Int) → (j : Int) < a.length → rd a (j : Int) = rd b (j : Int)) := by
  induction d with
  | zero =>
    intro k i h0 hd hk
    obtain ⟨k, rfl⟩ := succ_of hk
    refine ⟨true, by simp only [pannierlaw08_Same.l0]; rw [if_neg (by omega)], by simp; intro j h1 h2; omega⟩
  | succ d ih =>
    intro k i h0 hd hk
    obtain ⟨k, rfl⟩ := succ_of hk
    by_cases hr : rd a i = rd b i
    · obtain ⟨r, h1, h2⟩ := ih k (i + 1) (by omega) (by omega) (by omega)
      refine ⟨r, by simp only [pannierlaw08_Same.l0]; rw [if_pos (by omega), if_pos h0, if_pos (by omega), if_pos hr, w64 h0 (by omega)]; exact h1, h2.trans ?_⟩
      constructor
      · intro h j h3 h4
        rcases Int.lt_or_le i (j : Int) with hj | hj
        · exact h j (by omega) h4
        · obtain rfl : i = (j : Int) := by omega
          exact hr
      · intro h j h3 h4
        exact h j (by omega) h4
    · refine ⟨false, by simp only [pannierlaw08_Same.l0]; rw [if_pos (by omega), if_pos h0, if_pos (by omega), if_neg hr], by simp; exact ⟨i.toNat, by omega, by omega, by rw [Int.toNat_of_nonneg h0]; exact hr⟩⟩
theorem list_ext_rd {a b : List Int} (hl : a.length = b.length) (h : ∀ j : Nat, j < a.length → rd a (j : Int) = rd b (j : Int)) : a = b := by
  apply List.ext_getElem hl
  intro j h1 h2
  have := h j h1
  rwa [rd_in h1, rd_in h2] at this
theorem pannierlaw08_Same.tot {a b : List Int} (ha : a.length < 17592186044416) : ∃ k, pannierlaw08_Same.f k a b = some (decide (a = b)) := by
  unfold pannierlaw08_Same.f
  by_cases hl : a.length = b.length
  · obtain ⟨r, h1, h2⟩ := pannierlaw08_Same.loop a b hl (by omega) a.length (a.length + 1) 0 (by omega) (by omega) (by omega)
    refine ⟨a.length + 1, ?_⟩
    rw [if_pos (by omega), h1]
    congr 1
    rw [Bool.eq_iff_iff, h2, decide_eq_true_iff]
    constructor
    · exact fun h => list_ext_rd hl (fun j hj => h j (by omega) (by omega))
    · rintro rfl j _ _
      rfl
  · refine ⟨0, ?_⟩
    rw [if_neg (by omega), decide_eq_false (fun e => hl (by rw [e]))]

/-! The reference's Merge and Meet -/
theorem pannierref08_Merge.loop (a b : List Int) (hn : max a.length b.length < 17592186044416) (d : Nat) : ∀ (k j : Nat), j + d = max a.length b.length → d < k →
    pannierref08_Merge.l0 k a b (upto mx a b j) (j : Int) = some (plainL (zipL mx a b)) := by
  induction d with
  | zero =>
    intro k j hd hk
    obtain ⟨k, rfl⟩ := succ_of hk
    obtain rfl : j = max a.length b.length := by omega
    simp only [pannierref08_Merge.l0]
    rw [longer_is]
    simp only [Option.bind_some]
    rw [if_neg (by omega)]
    unfold pannierref08_Plain.f
    rw [if_pos (by rw [upto_length]; exact hn)]
    rfl
  | succ d ih =>
    intro k j hd hk
    obtain ⟨k, rfl⟩ := succ_of hk
    have h := ih k (j + 1) (by omega) (by omega)
    rw [upto_succ] at h
    simp only [pannierref08_Merge.l0]
    rw [longer_is]
    simp only [Option.bind_some]
    rw [if_pos (by omega), pannierref08_Of.nat _ _ (by omega), pannierref08_Of.nat _ _ (by omega)]
    simp only [Option.bind_some]
    rw [w64 (by omega) (by omega)]
    have hL : (upto mx a b j).length < 17592186044416 := by rw [upto_length]; omega
    by_cases hr : rd b (j : Int) > rd a (j : Int)
    · rw [if_pos hr, if_pos hL]
      rw [show mx (rd a (j : Int)) (rd b (j : Int)) = rd b (j : Int) from by unfold mx; rw [if_pos hr]] at h
      exact h
    · rw [if_neg hr, if_pos hL]
      rw [show mx (rd a (j : Int)) (rd b (j : Int)) = rd a (j : Int) from by unfold mx; rw [if_neg hr]] at h
      exact h
theorem pannierref08_Merge.tot {a b : List Int} (ha : a.length < 17592186044416) (hb : b.length < 17592186044416) : ∃ k, pannierref08_Merge.f k a b = some (plainL (zipL mx a b)) :=
  ⟨max a.length b.length + 1, pannierref08_Merge.loop a b (by omega) (max a.length b.length) _ 0 (by omega) (by omega)⟩
theorem pannierref08_Meet.loop (a b : List Int) (hn : max a.length b.length < 17592186044416) (d : Nat) : ∀ (k j : Nat), j + d = max a.length b.length → d < k →
    pannierref08_Meet.l0 k a b (upto mn a b j) (j : Int) = some (plainL (zipL mn a b)) := by
  induction d with
  | zero =>
    intro k j hd hk
    obtain ⟨k, rfl⟩ := succ_of hk
    obtain rfl : j = max a.length b.length := by omega
    simp only [pannierref08_Meet.l0]
    rw [longer_is]
    simp only [Option.bind_some]
    rw [if_neg (by omega)]
    unfold pannierref08_Plain.f
    rw [if_pos (by rw [upto_length]; exact hn)]
    rfl
  | succ d ih =>
    intro k j hd hk
    obtain ⟨k, rfl⟩ := succ_of hk
    have h := ih k (j + 1) (by omega) (by omega)
    rw [upto_succ] at h
    simp only [pannierref08_Meet.l0]
    rw [longer_is]
    simp only [Option.bind_some]
    rw [if_pos (by omega), pannierref08_Of.nat _ _ (by omega), pannierref08_Of.nat _ _ (by omega)]
    simp only [Option.bind_some]
    rw [w64 (by omega) (by omega)]
    have hL : (upto mn a b j).length < 17592186044416 := by rw [upto_length]; omega
    by_cases hr : rd b (j : Int) < rd a (j : Int)
    · rw [if_pos hr, if_pos hL]
      rw [show mn (rd a (j : Int)) (rd b (j : Int)) = rd b (j : Int) from by unfold mn; rw [if_pos hr]] at h
      exact h
    · rw [if_neg hr, if_pos hL]
      rw [show mn (rd a (j : Int)) (rd b (j : Int)) = rd a (j : Int) from by unfold mn; rw [if_neg hr]] at h
      exact h
theorem pannierref08_Meet.tot {a b : List Int} (ha : a.length < 17592186044416) (hb : b.length < 17592186044416) : ∃ k, pannierref08_Meet.f k a b = some (plainL (zipL mn a b)) :=
  ⟨max a.length b.length + 1, pannierref08_Meet.loop a b (by omega) (max a.length b.length) _ 0 (by omega) (by omega)⟩

/-! The reference's May -/
theorem pannierref08_May.loop (a : List Int) (ha : a.length < 9223372036854775807) (d : Nat) : ∀ (k : Nat) (i : Int), 0 ≤ i → i + d = a.length → d < k →
    ∃ r, pannierref08_May.l0 k a i = some r ∧ (r = true ↔ (∀ j : Nat, i ≤ (j : Int) → (j : Int) < a.length → cntB (rd a (j : Int)) = true) ∧ a.length ≤ 7) := by
  induction d with
  | zero =>
    intro k i h0 hd hk
    obtain ⟨k, rfl⟩ := succ_of hk
    refine ⟨decide ((a.length : Int) ≤ 7), by simp only [pannierref08_May.l0]; rw [if_neg (by omega)], ?_⟩
    rw [decide_eq_true_iff]
    exact ⟨fun h => ⟨fun j h1 h2 => by omega, by omega⟩, fun h => by omega⟩
  | succ d ih =>
    intro k i h0 hd hk
    obtain ⟨k, rfl⟩ := succ_of hk
    by_cases hr : cntB (rd a i) = true
    · obtain ⟨r, h1, h2⟩ := ih k (i + 1) (by omega) (by omega) (by omega)
      have hr' : 0 ≤ rd a i ∧ rd a i ≤ 2147483647 := by simpa [cntB] using hr
      refine ⟨r, by simp only [pannierref08_May.l0]; rw [if_pos (by omega), if_pos h0, if_neg (by omega), if_neg (by omega), w64 h0 (by omega)]; exact h1, h2.trans ?_⟩
      constructor
      · rintro ⟨h, h7⟩
        refine ⟨fun j h3 h4 => ?_, h7⟩
        rcases Int.lt_or_le i (j : Int) with hj | hj
        · exact h j (by omega) h4
        · obtain rfl : i = (j : Int) := by omega
          exact hr
      · rintro ⟨h, h7⟩
        exact ⟨fun j h3 h4 => h j (by omega) h4, h7⟩
    · refine ⟨false, ?_, ?_⟩
      · simp only [pannierref08_May.l0]
        rw [if_pos (by omega), if_pos h0]
        by_cases h1 : rd a i < 0
        · rw [if_pos h1]
        · rw [if_neg h1]
          have : rd a i > 2147483647 := by
            have hr2 : ¬ (0 ≤ rd a i ∧ rd a i ≤ 2147483647) := by simpa [cntB] using hr
            omega
          rw [if_pos this]
      · simp only [Bool.false_eq_true, false_iff]
        rintro ⟨h, _⟩
        exact hr (by have := h i.toNat (by omega) (by omega); rwa [Int.toNat_of_nonneg h0] at this)
theorem mayB_iff {a : List Int} : mayB a = true ↔ (∀ j : Nat, j < a.length → cntB (rd a (j : Int)) = true) ∧ a.length ≤ 7 := by
  unfold mayB
  rw [Bool.and_eq_true, decide_eq_true_iff, List.all_eq_true]
  constructor
  · rintro ⟨h7, h⟩
    exact ⟨fun j hj => by rw [rd_in hj]; exact h _ (List.getElem_mem hj), h7⟩
  · rintro ⟨h, h7⟩
    refine ⟨h7, fun x hx => ?_⟩
    obtain ⟨j, hj, rfl⟩ := List.getElem_of_mem hx
    have := h j hj
    rwa [rd_in hj] at this
theorem pannierref08_May.tot {a : List Int} (ha : a.length < 17592186044416) : ∃ k, pannierref08_May.f k a = some (mayB a) := by
  obtain ⟨r, h1, h2⟩ := pannierref08_May.loop a (by omega) a.length (a.length + 1) 0 (by omega) (by omega) (by omega)
  refine ⟨_, h1.trans (congrArg some ?_)⟩
  rw [Bool.eq_iff_iff, h2, mayB_iff]
  exact ⟨fun h => ⟨fun j hj => h.1 j (by omega) (by omega), h.2⟩, fun h => ⟨fun j _ hj => h.1 j (by omega), h.2⟩⟩

/-! Has -/
def ofZ (l : List Int) (o : Int) : Int := if 0 ≤ o then rd l o else 0
def hasB (l : List Int) (o s : Int) : Bool := decide (0 < s) && decide (s ≤ ofZ l o)
theorem vv_Of.all (l : List Int) (o : Int) : vv_Of.f l o = some (ofZ l o) := by
  unfold ofZ
  by_cases h : 0 ≤ o
  · rw [if_pos h]; exact vv_Of.nat l o h
  · rw [if_neg h]; unfold vv_Of.f; rw [if_pos (by omega)]
theorem vv_Has.tot (l : List Int) (o s : Int) : vv_Has.f l o s = some (hasB l o s) := by
  unfold vv_Has.f hasB
  by_cases h : s > 0
  · rw [if_pos h, vv_Of.all, decide_eq_true (show 0 < s from h)]; rfl
  · rw [if_neg h, decide_eq_false (show ¬ 0 < s from h)]; rfl
theorem pannierref08_Has.tot (l : List Int) (o s : Int) : pannierref08_Has.f l o s = some (hasB l o s) := by
  unfold pannierref08_Has.f hasB
  by_cases h : s ≥ 1
  · rw [if_pos h, show pannierref08_Of.f l o = some (ofZ l o) from vv_Of.all l o, decide_eq_true (show 0 < s by omega)]; rfl
  · rw [if_neg h, decide_eq_false (show ¬ 0 < s by omega)]; rfl

theorem vv_Below.ev {a b : List Int} (ha : a.length < 17592186044416) (hb : b.length < 17592186044416) : Ev (fun k => vv_Below.f k a b) (belowB a b) := (vv_Below.tot ha hb).elim fun _ h => Ev.of (vv_Below.mono a b) h
theorem pannierref08_Below.ev {a b : List Int} (ha : a.length < 17592186044416) (hb : b.length < 17592186044416) : Ev (fun k => pannierref08_Below.f k a b) (belowB a b) := (pannierref08_Below.tot ha hb).elim fun _ h => Ev.of (pannierref08_Below.mono a b) h
theorem vv_Compare.ev {a b : List Int} (ha : a.length < 17592186044416) (hb : b.length < 17592186044416) : Ev (fun k => vv_Compare.f k a b) (cmpZ a b) := (vv_Compare.tot ha hb).elim fun _ h => Ev.of (vv_Compare.mono a b) h
theorem pannierref08_Compare.ev {a b : List Int} (ha : a.length < 17592186044416) (hb : b.length < 17592186044416) : Ev (fun k => pannierref08_Compare.f k a b) (cmpZ a b) := (pannierref08_Compare.tot ha hb).elim fun _ h => Ev.of (pannierref08_Compare.mono a b) h
theorem pannierref08_Merge.ev {a b : List Int} (ha : a.length < 17592186044416) (hb : b.length < 17592186044416) : Ev (fun k => pannierref08_Merge.f k a b) (plainL (zipL mx a b)) := (pannierref08_Merge.tot ha hb).elim fun _ h => Ev.of (pannierref08_Merge.mono a b) h
theorem pannierref08_Meet.ev {a b : List Int} (ha : a.length < 17592186044416) (hb : b.length < 17592186044416) : Ev (fun k => pannierref08_Meet.f k a b) (plainL (zipL mn a b)) := (pannierref08_Meet.tot ha hb).elim fun _ h => Ev.of (pannierref08_Meet.mono a b) h
theorem pannierref08_May.ev {a : List Int} (ha : a.length < 17592186044416) : Ev (fun k => pannierref08_May.f k a) (mayB a) := (pannierref08_May.tot ha).elim fun _ h => Ev.of (pannierref08_May.mono a) h
theorem pannierlaw08_Same.ev {a b : List Int} (ha : a.length < 17592186044416) : Ev (fun k => pannierlaw08_Same.f k a b) (decide (a = b)) := (pannierlaw08_Same.tot ha).elim fun _ h => Ev.of (pannierlaw08_Same.mono a b) h
theorem plainL_length (l : List Int) : (plainL l).length ≤ l.length := by unfold plainL; rw [List.length_take]; omega
theorem vv_Merge.tot {a b : List Int} (ha : a.length < 17592186044416) (hb : b.length < 17592186044416) : vv_Merge.f a b = some (plainL (zipL mx a b)) := by unfold vv_Merge.f; rw [if_pos ⟨ha, hb⟩]
theorem vv_Meet.tot {a b : List Int} (ha : a.length < 17592186044416) (hb : b.length < 17592186044416) : vv_Meet.f a b = some (plainL (zipL mn a b)) := by unfold vv_Meet.f; rw [if_pos ⟨ha, hb⟩]
theorem merge_length {a b : List Int} (op : Int → Int → Int) (ha : a.length < 17592186044416) (hb : b.length < 17592186044416) : (plainL (zipL op a b)).length < 17592186044416 := by
  have := plainL_length (zipL op a b)
  rw [zipL_length] at this
  omega
end Go.Proofs.Ytnmjhagmobcdkaa.P
