/- Bounds in plain words; twice; ContainsFunc over tokens (written by lb_.py). -/
import Derived.Test.YtmijalplheoekaaLa
import Derived.Test.YtmijalplheoekaaP11
namespace Go.Proofs.Ytmijalplheoekaa.P
open Go.RowKit Go.Proofs.YtmijalplheoekaaW.PrintWords Go.Proofs.YtmijalplheoekaaW.PrintLast Go.Proofs.YtmijalplheoekaaW.PrintMore
attribute [local go_sem] max2_int min2_int max_two min_two max_three min_three max_four min_four
set_option linter.unusedVariables false
set_option linter.unusedSimpArgs false
theorem mx_max (a b : Int) : mx a b = max a b := by unfold mx; split <;> omega
theorem mn_min (a b : Int) : mn a b = min a b := by unfold mn; split <;> omega
theorem rd31_get {l : List S31} {j : Nat} (h : j < l.length) : rd_T31 l (j : Int) = l[j] := by
  unfold rd_T31
  rw [Int.toNat_natCast, List.getD_eq_getElem?_getD, List.getElem?_eq_getElem h]
  rfl
theorem Bounds_l0 (l : List S31) (t : ByteArray) (i : Int) (hl : l.length < 17592186044416) : ∀ (m j : Nat) (F L B : Int) (k : Nat), j + m = l.length → 2 * m + 1 ≤ k →
    lin_Bounds.l0 k t i F L B l (l.length : Int) (j : Int) = some (max (fst ((l.drop j).map toSn) t.toList F) (bgn ((l.drop j).map toSn) t.toList B), lst ((l.drop j).map toSn) t.toList i L)
  | 0, j, F, L, B, 0, hj, hk => by omega
  | 0, j, F, L, B, k + 1, hj, hk => by
    unfold lin_Bounds.l0
    rw [if_neg (by omega), List.drop_of_length_le (by omega), mx_max]
    rfl
  | m + 1, j, F, L, B, 0, hj, hk => by omega
  | m + 1, j, F, L, B, 1, hj, hk => by omega
  | m + 1, j, F, L, B, k + 2, hj, hk => by
    have ih := Bounds_l0 l t i hl m (j + 1)
    have hw : wrap64 ((j : Int) + 1) = ((j + 1 : Nat) : Int) := by unfold wrap64; omega
    have hjl : j < l.length := by omega
    rw [List.drop_eq_getElem_cons hjl, List.map_cons]
    unfold lin_Bounds.l0
    rw [if_pos (by omega), if_pos (by omega), if_pos (by omega), rd31_get hjl, hw]
    obtain ⟨jj, ejj⟩ : ∃ jj : Int, ((j + 1 : Nat) : Int) = jj := ⟨_, rfl⟩
    rw [ejj] at ih ⊢
    obtain ⟨x, ex⟩ : ∃ x, l[j] = x := ⟨_, rfl⟩
    rw [ex]
    obtain ⟨R, eR⟩ : ∃ R, (l.drop (j + 1)).map toSn = R := ⟨_, rfl⟩
    rw [eR] at ih ⊢
    have ih1 : ∀ F L B, lin_Bounds.l0 (k + 1) t i F L B l (l.length : Int) jj = some (max (fst R t.toList F) (bgn R t.toList B), lst R t.toList i L) := fun F L B => ih F L B (k + 1) (by omega) (by omega)
    have ih2 : ∀ F L B, lin_Bounds.l0 k t i F L B l (l.length : Int) jj = some (max (fst R t.toList F) (bgn R t.toList B), lst R t.toList i L) := fun F L B => ih F L B k (by omega) (by omega)
    have hj1 : ∀ (x8 x6 x7 : Int) (e b : Bool) (y0 : Bool) (y1 : ByteArray) (y2 y3 y4 : Int), lin_Bounds.j1 (k + 1) t i x6 x7 x8 e l (l.length : Int) (j : Int) b y0 y1 y2 y3 y4 = some (max (fst R t.toList (if b = true then max x6 y2 else x6)) (bgn R t.toList x8), lst R t.toList i (if e = true ∧ y4 = i then min x7 y3 else x7)) := by
      intro x8 x6 x7 e b y0 y1 y2 y3 y4
      unfold lin_Bounds.j1
      rw [hw, ejj]
      simp only [ih2, mx_max, mn_min]
      cases b <;> cases e <;> by_cases h : y4 = i <;> simp [h]
    simp only [ih1, hj1, mx_max, mn_min]
    have f1 : fst (toSn x :: R) t.toList F = fst R t.toList (if x.f1.toList = t.toList ∧ x.f0 = false ∧ x.f3 ≠ 0 ∧ x.f4 = 0 then max F x.f2 else F) := rfl
    have f2 : bgn (toSn x :: R) t.toList B = bgn R t.toList (if x.f1.toList = t.toList ∧ x.f0 = true then min B x.f2 else B) := rfl
    have f3 : lst (toSn x :: R) t.toList i L = lst R t.toList i (if x.f1.toList = t.toList ∧ x.f3 ≠ 0 ∧ x.f4 = i then min L x.f3 else L) := rfl
    rw [f1, f2, f3]
    clear ih1 ih2 hj1 f1 f2 f3 ih
    by_cases c1 : x.f1.toList = t.toList
    · simp only [c1, if_true, true_and]
      cases c2 : x.f0 <;> by_cases c3 : x.f3 = 0 <;> by_cases c4 : x.f4 = i <;> by_cases c5 : x.f4 = 0 <;> simp_all
    · simp only [c1, if_false, false_and]
theorem Bounds.at (A0 : Option Addr) (c0 : Nat) (l0 : List S31) (a1 : ByteArray) (a2 : Int) (w : World) (hr0 : Kd.C k31 w A0 l0.length l0) (hc0 : l0.length ≤ c0) (hl : l0.length < 17592186044416) :
    Calls Try.prog 11 #[.slice A0 l0.length c0, .string a1, .int .i64 a2] w fun e w' => e = .returned (.tuple #[.int .i64 (first (l0.map toSn) a1.toList), .int .i64 (last (l0.map toSn) a1.toList a2)]) ∧ Below w.heap.size w w' := by
  refine lin_Bounds.calls (2 * l0.length + 1) A0 c0 l0 a1 a2 _ _ w hr0 hc0 ?_
  have := Bounds_l0 l0 a1 a2 hl l0.length 0 0 4611686018427387904 4611686018427387904 (2 * l0.length + 1) (by omega) (by omega)
  rw [List.drop_zero] at this
  exact this
theorem rdOf_get {l : List ByteArray} {j : Nat} (h : j < l.length) : rdOf ByteArray.empty l (j : Int) = l[j] := by
  unfold rdOf
  rw [Int.toNat_natCast, List.getD_eq_getElem?_getD, List.getElem?_eq_getElem h]
  rfl
def cnt (l : List ByteArray) (t : ByteArray) (j : Nat) : Nat := (l.take j).countP (fun u => u.toList == t.toList)
theorem cnt_succ {l : List ByteArray} {t : ByteArray} {j : Nat} (h : j < l.length) : cnt l t (j + 1) = cnt l t j + (if (rdOf ByteArray.empty l (j : Int)).toList = t.toList then 1 else 0) := by
  unfold cnt
  rw [List.take_succ_eq_append_getElem h, List.countP_append, rdOf_get h]
  by_cases c : l[j].toList = t.toList <;> simp [c]
theorem cnt_le (l : List ByteArray) (t : ByteArray) (j : Nat) : cnt l t j ≤ l.length := by
  unfold cnt
  exact Nat.le_trans (List.countP_le_length) (by rw [List.length_take]; omega)
/-- A token that stands twice. -/
def twB (l : List ByteArray) (t : ByteArray) : Bool := decide (1 < cnt l t l.length)
theorem twB_any (l : List ByteArray) : l.any (twB l) = twiceB (l.map (·.toList)) := by
  unfold twiceB
  rw [List.any_map]
  congr 1
  funext t
  unfold twB cnt
  rw [List.take_length]
  show _ = decide (1 < List.countP _ (l.map _))
  rw [List.countP_map]
  have e : (fun u : ByteArray => u.toList == t.toList) = ((fun u => decide (u = t.toList)) ∘ fun x : ByteArray => x.toList) := by
    funext u
    exact Bool.eq_iff_iff.2 (by simp)
  rw [e]
set_option maxHeartbeats 2000000 in
set_option maxRecDepth 100000 in
theorem twice.at {b : Nat} (A0 : Option Addr) (c0 : Nat) (l0 : List ByteArray) (t : ByteArray) (w : World) (hc : w.cell? ⟨b, 0, none⟩ = some (.slice A0 l0.length c0)) (hr0 : Kd.C Kd.string w A0 l0.length l0) (hl : l0.length < 17592186044416) :
    Calls Try.prog 13 #[.string t, .pointer (some ⟨b, 0, none⟩)] w fun e w' => e = .returned (.bool (twB l0 t)) ∧ Below w.heap.size w w' := by
  have HR0 := Aside0.mk hr0
  have HL := Aside0.mk hl
  clear hr0 hl
  have HB := Aside0.mk (Below.refl w.heap.size w)
  go_enter Try.func13, Try.ntmps13
  go_wp2
  go_loopg [4, 9] l0.length (fun kq v4 v9 w' => ∃ y x : Int, v4 = .int .i64 y ∧ v9 = .int .i64 x ∧ Aside0 (∃ j : Nat, x = (j : Int) ∧ j + kq = l0.length ∧ y = (cnt l0 t j : Nat)) ∧ Aside0 (Below w.heap.size w w'))
  case atStart => exact ⟨0, 0, rfl, rfl, ⟨0, rfl, by omega, rfl⟩, HB⟩
  case round =>
    obtain ⟨y, x, rfl, rfl, HJ, HB⟩ := hrel
    cases gk with
    | zero =>
      have c0b : decide (x < (l0.length : Int)) = false := decide_eq_false (by obtain ⟨j, e, hj, _⟩ := HJ.out; omega)
      have HA : Aside0 (twB l0 t = decide (1 < y)) := ⟨by
        obtain ⟨j, e, hj, ha⟩ := HJ.out
        obtain rfl : j = l0.length := by omega
        unfold twB
        rw [ha]
        by_cases q : 1 < cnt l0 t l0.length
        · rw [decide_eq_true q, decide_eq_true (by omega)]
        · rw [decide_eq_false q, decide_eq_false (by omega)]⟩
      clear HJ
      go_wp2
      go_ret
      exact ⟨by rw [HA.out]; rfl, HB.out⟩
    | succ m =>
      have c0b : decide (x < (l0.length : Int)) = true := decide_eq_true (by obtain ⟨j, e, hj, _⟩ := HJ.out; omega)
      have hx1 : IntKind.i64.wrap (x + 1) = x + 1 := by rw [i64_w]; unfold wrap64; obtain ⟨j, e, hj, _⟩ := HJ.out; have := HL.out; omega
      have hy1 : IntKind.i64.wrap (y + 1) = y + 1 := by rw [i64_w]; unfold wrap64; obtain ⟨j, e, hj, ha⟩ := HJ.out; have := HL.out; have := cnt_le l0 t j; omega
      have c1 : 0 ≤ x := by obtain ⟨j, e, hj, _⟩ := HJ.out; omega
      have c2 : x < (l0.length : Int) := by obtain ⟨j, e, hj, _⟩ := HJ.out; omega
      obtain ⟨ad, e129, hx129⟩ := Kd.at_string (Kd.C_below HR0.out HB.out) x c1 c2
      cases e129
      replace c1 := eq_true c1
      replace c2 := eq_true c2
      by_cases hq : (rdOf ByteArray.empty l0 x).toList = t.toList
      · have c5b0 : ((rdOf ByteArray.empty l0 x).toList == t.toList) = true := beq_iff_eq.mpr hq
        have HQ := Aside0.mk hq
        clear hq
        go_wp2
        go_roundg m
        case measure => omega
        case rel => exact ⟨y + 1, x + 1, rfl, rfl, ⟨by
          obtain ⟨j, e, hj, ha⟩ := HJ.out
          refine ⟨j + 1, by omega, by omega, ?_⟩
          rw [cnt_succ (by omega), ← e, if_pos HQ.out]
          omega⟩, HB⟩
      · have c5b0 : ((rdOf ByteArray.empty l0 x).toList == t.toList) = false := beq_eq_false_iff_ne.mpr hq
        have HQ := Aside0.mk hq
        clear hq
        go_wp2
        go_roundg m
        case measure => omega
        case rel => exact ⟨y, x + 1, rfl, rfl, ⟨by
          obtain ⟨j, e, hj, ha⟩ := HJ.out
          refine ⟨j + 1, by omega, by omega, ?_⟩
          rw [cnt_succ (by omega), ← e, if_neg HQ.out]
          omega⟩, HB⟩
theorem rdB_any {l : List ByteArray} {ok : ByteArray → Bool} {j : Nat} (h : j < l.length) (hb : ok (rdOf ByteArray.empty l j) = true) : l.any ok = true := by
  rw [List.any_eq_true]
  refine ⟨rdOf ByteArray.empty l j, ?_, hb⟩
  rw [rdOf_get h]
  exact List.getElem_mem h
theorem rdB_mem {l : List ByteArray} {x : Int} (h0 : 0 ≤ x) (h1 : x < (l.length : Int)) : rdOf ByteArray.empty l x ∈ l := by
  unfold rdOf
  rw [List.getD_eq_getElem?_getD, List.getElem?_eq_getElem (by omega)]
  exact List.getElem_mem _
theorem rdB_none {l : List ByteArray} {ok : ByteArray → Bool} (h : ∀ j : Nat, j < l.length → ok (rdOf ByteArray.empty l j) = false) : l.any ok = false := by
  rw [List.any_eq_false]
  intro x hx
  obtain ⟨j, hj, rfl⟩ := List.getElem_of_mem hx
  have := h j hj
  rw [rdOf_get hj] at this
  simpa using this
set_option maxHeartbeats 2000000 in
set_option maxRecDepth 100000 in
theorem IndexToks {b : Nat} (ok : ByteArray → Bool) (A0 : Option Addr) (c0 : Nat) (l0 : List ByteArray) (w : World) (hr0 : Kd.C Kd.string w A0 l0.length l0) (hl : l0.length < 17592186044416) (hf : ∀ (a : ByteArray), a ∈ l0 → ∀ (w' : World), Below w.heap.size w w' → Calls Try.prog 13 #[.string a, .pointer (some ⟨b, 0, none⟩)] w' fun e w2 => e = .returned (.bool (ok a)) ∧ Below w'.heap.size w' w2) :
    Calls Try.prog 23 #[.slice A0 l0.length c0, .func (.func 13) #[] #[.pointer (some ⟨b, 0, none⟩)]] w (IdxPost (l0.any ok) w) := by
  have HR0 := Aside0.mk hr0
  have HL := Aside0.mk hl
  have HF := Aside0.mk hf
  clear hr0 hl hf
  have HB := Aside0.mk (Below.refl w.heap.size w)
  go_enter Try.func23, Try.ntmps23
  go_wp2
  go_loopg [8] l0.length (fun kq v8 w' => ∃ x : Int, v8 = .int .i64 x ∧ Aside0 (∃ j : Nat, x = (j : Int) ∧ j + kq = l0.length ∧ ∀ i : Nat, i < j → ok (rdOf ByteArray.empty l0 i) = false) ∧ Aside0 (Below w.heap.size w w'))
  case atStart => exact ⟨0, rfl, ⟨0, rfl, by omega, fun i hi => absurd hi (by omega)⟩, HB⟩
  case round =>
    obtain ⟨x, rfl, HJ, HB⟩ := hrel
    cases gk with
    | zero =>
      have c0b : decide (x < (l0.length : Int)) = false := decide_eq_false (by obtain ⟨j, e, hj, _⟩ := HJ.out; omega)
      have HA : Aside0 (l0.any ok = false) := ⟨by
        obtain ⟨j, e, hj, ha⟩ := HJ.out
        exact rdB_none (fun i hi => ha i (by omega))⟩
      clear HJ
      go_wp2
      go_ret
      exact ⟨-1, rfl, by rw [HA.out]; rfl, HB.out⟩
    | succ m =>
      have c0b : decide (x < (l0.length : Int)) = true := decide_eq_true (by obtain ⟨j, e, hj, _⟩ := HJ.out; omega)
      have hx1 : IntKind.i64.wrap (x + 1) = x + 1 := by rw [i64_w]; unfold wrap64; obtain ⟨j, e, hj, _⟩ := HJ.out; have := HL.out; omega
      have c1 : 0 ≤ x := by obtain ⟨j, e, hj, _⟩ := HJ.out; omega
      have c2 : x < (l0.length : Int) := by obtain ⟨j, e, hj, _⟩ := HJ.out; omega
      obtain ⟨ad, rfl, q0⟩ := Kd.at_string (Kd.C_below HR0.out HB.out) x c1 c2
      have HX : Aside0 (0 ≤ x) := ⟨c1⟩
      replace c1 := eq_true c1
      replace c2 := eq_true c2
      go_wp2_with fail
      refine (HF.out (rdOf ByteArray.empty l0 x) (rdB_mem HX.out (of_eq_true c2)) _ HB.out).mono ?_
      rintro e w' ⟨rfl, hb'⟩
      have HB2 := Aside0.mk (below_step HB.out hb')
      clear hb' q0
      by_cases hb : ok (rdOf ByteArray.empty l0 x) = true
      · have HP : Aside0 (l0.any ok = true) := ⟨by
          obtain ⟨j, e, hj, ha⟩ := HJ.out
          exact rdB_any (j := j) (by omega) (by rw [← e]; exact hb)⟩
        go_wp2
        go_ret
        exact ⟨x, rfl, by rw [HP.out, decide_eq_true HX.out], HB2.out⟩
      · have hb : ok (rdOf ByteArray.empty l0 x) = false := by simpa using hb
        have HP : Aside0 (ok (rdOf ByteArray.empty l0 x) = false) := ⟨hb⟩
        go_wp2
        go_roundg m
        case measure => omega
        case rel => exact ⟨x + 1, rfl, ⟨by
          obtain ⟨j, e, hj, ha⟩ := HJ.out
          refine ⟨j + 1, by omega, by omega, fun i hi => ?_⟩
          rcases Nat.lt_or_ge i j with h | h
          · exact ha i h
          · obtain rfl : i = j := by omega
            rw [← e]; exact HP.out⟩, HB2⟩
set_option maxHeartbeats 1000000 in
theorem ContainsToks {b : Nat} (ok : ByteArray → Bool) (A0 : Option Addr) (c0 : Nat) (l0 : List ByteArray) (w : World) (hr0 : Kd.C Kd.string w A0 l0.length l0) (hl : l0.length < 17592186044416) (hf : ∀ (a : ByteArray), a ∈ l0 → ∀ (w' : World), Below w.heap.size w w' → Calls Try.prog 13 #[.string a, .pointer (some ⟨b, 0, none⟩)] w' fun e w2 => e = .returned (.bool (ok a)) ∧ Below w'.heap.size w' w2) :
    Calls Try.prog 17 #[.slice A0 l0.length c0, .func (.func 13) #[] #[.pointer (some ⟨b, 0, none⟩)]] w fun e w' => e = .returned (.bool (l0.any ok)) ∧ Below w.heap.size w w' := by
  have HC := Aside0.mk (IndexToks (b := b) ok A0 c0 l0 w hr0 hl hf)
  clear hr0 hl hf
  go_enter Try.func17, Try.ntmps17
  go_wp2_with fail
  refine HC.out.mono ?_
  rintro e w' ⟨r, rfl, hr, hb⟩
  have HR := Aside0.mk hr
  have HB := Aside0.mk hb
  clear hr hb
  go_wp2
  go_ret
  exact ⟨by rw [← HR.out]; rfl, HB.out⟩
end Go.Proofs.Ytmijalplheoekaa.P
