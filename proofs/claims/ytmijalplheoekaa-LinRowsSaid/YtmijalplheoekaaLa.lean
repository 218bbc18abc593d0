/- Sights that may be; ContainsFunc over sights and tokens (written by la.py). -/
import Derived.Test.YtmijalplheoekaaLq
import Derived.Test.YtmijalplheoekaaP0
namespace Go.Proofs.Ytmijalplheoekaa.P
open Go.RowKit Go.Proofs.YtmijalplheoekaaW.PrintWords Go.Proofs.YtmijalplheoekaaW.PrintLast Go.Proofs.YtmijalplheoekaaW.PrintMore
attribute [local go_sem] max2_int min2_int max_two min_two max_three min_three max_four min_four
set_option linter.unusedVariables false
set_option linter.unusedSimpArgs false
def toSn (x : S31) : Sn (List UInt8) := ⟨x.f0, x.f1.toList, x.f2, x.f3, x.f4⟩
def aggS (x : S31) : Value := .agg #[.bool x.f0, .string x.f1, .int .i64 x.f2, .int .i64 x.f3, .int .i64 x.f4]
def IdxPost (b : Bool) (w : World) (e : Ending) (w' : World) : Prop := ∃ r : Int, e = .returned (.int .i64 r) ∧ decide (0 ≤ r) = b ∧ Below w.heap.size w w'
theorem rd31_any {l : List S31} {ok : S31 → Bool} {j : Nat} (h : j < l.length) (hb : ok (rd_T31 l j) = true) : l.any ok = true := by
  rw [List.any_eq_true]
  refine ⟨rd_T31 l j, ?_, hb⟩
  unfold rd_T31
  rw [Int.toNat_natCast, List.getD_eq_getElem?_getD, List.getElem?_eq_getElem h]
  exact List.getElem_mem h
theorem rd31_mem {l : List S31} {x : Int} (h0 : 0 ≤ x) (h1 : x < (l.length : Int)) : rd_T31 l x ∈ l := by
  unfold rd_T31
  rw [List.getD_eq_getElem?_getD, List.getElem?_eq_getElem (by omega)]
  exact List.getElem_mem _
theorem rd31_none {l : List S31} {ok : S31 → Bool} (h : ∀ j : Nat, j < l.length → ok (rd_T31 l j) = false) : l.any ok = false := by
  rw [List.any_eq_false]
  intro x hx
  obtain ⟨j, hj, rfl⟩ := List.getElem_of_mem hx
  have := h j hj
  unfold rd_T31 at this
  rw [Int.toNat_natCast, List.getD_eq_getElem?_getD, List.getElem?_eq_getElem hj] at this
  simpa using this
set_option maxHeartbeats 1000000 in
set_option maxRecDepth 100000 in
theorem right.at (x : S31) (w : World) : Calls Try.prog 16 #[aggS x] w fun e w' => e = .returned (.bool (rightB (toSn x))) ∧ Below w.heap.size w w' := by
  obtain ⟨f0, f1, f2, f3, f4⟩ := x
  obtain ⟨bo, ebo⟩ : ∃ bo, w.heap.size = bo := ⟨_, rfl⟩
  obtain ⟨w1, ew1⟩ : ∃ w1, w.alloc (.cells #[.bool f0, .string f1, .int .i64 f2, .int .i64 f3, .int .i64 f4] 31) = w1 := ⟨_, rfl⟩
  have hx : w1.heap[bo]? = some (.cells #[.bool f0, .string f1, .int .i64 f2, .int .i64 f3, .int .i64 f4] 31 (0, 0)) := by rw [← ew1, ← ebo]; exact blk_new _ _
  have HB : Aside0 (Below w.heap.size w w1) := ⟨by rw [← ew1]; exact below_alloc (Below.refl _ _) _⟩
  have HBo : Aside0 (Below bo w w1) := ⟨by rw [← ebo]; exact HB.out⟩
  have o2 : w1.cell? ⟨bo, 2, none⟩ = some (.int .i64 f2) := (blk_cell hx 2).trans rfl
  have o3 : w1.cell? ⟨bo, 3, none⟩ = some (.int .i64 f3) := (blk_cell hx 3).trans rfl
  have o4 : w1.cell? ⟨bo, 4, none⟩ = some (.int .i64 f4) := (blk_cell hx 4).trans rfl
  obtain ⟨rb, erb⟩ : ∃ rb, rightB (toSn ⟨f0, f1, f2, f3, f4⟩) = rb := ⟨_, rfl⟩
  have HE : Aside0 (rb = if decide (4611686018427387904 ≤ f2) || decide (4611686018427387904 ≤ f3) then false else if f3 = 0 then decide (1 ≤ f2) && decide (f4 = 0) else decide (1 ≤ f2) && (decide (f2 ≤ f3) && decide (0 ≤ f4))) := ⟨erb.symm⟩
  rw [erb]
  clear hx erb
  unfold aggS
  go_enter Try.func16, Try.ntmps16
  go_upto_region 1 with (fail)
  try simp only [ew1, ebo]
  clear ew1
  by_cases k1 : 4611686018427387904 ≤ f2
  · have d1 : decide (4611686018427387904 ≤ f2) = true := decide_eq_true k1
    clear k1
    go_wp2
    go_ret
    exact ⟨by rw [HE.out]; simp [*], by first | exact HB.out | exact HBo.out⟩
  have d1 : decide (4611686018427387904 ≤ f2) = false := decide_eq_false k1
  by_cases k2 : 4611686018427387904 ≤ f3
  · have d2 : decide (4611686018427387904 ≤ f3) = true := decide_eq_true k2
    clear k1 k2
    go_wp2
    go_ret
    exact ⟨by rw [HE.out]; simp [*], by first | exact HB.out | exact HBo.out⟩
  have d2 : decide (4611686018427387904 ≤ f3) = false := decide_eq_false k2
  by_cases k3 : f3 = 0
  · subst k3
    by_cases k4 : 1 ≤ f2
    · have d4 : decide (1 ≤ f2) = true := decide_eq_true k4
      by_cases k5 : f4 = 0
      · subst k5
        clear k1 k2 k4
        go_wp2
        go_ret
        exact ⟨by rw [HE.out]; simp [*], by first | exact HB.out | exact HBo.out⟩
      · have d5 : (f4 == 0) = false := by rw [beq_eq_false_iff_ne]; exact k5
        have HK := Aside0.mk k5
        clear k1 k2 k4 k5
        go_wp2
        go_ret
        exact ⟨by rw [HE.out]; simp [HK.out, *], by first | exact HB.out | exact HBo.out⟩
    · have d4 : decide (1 ≤ f2) = false := decide_eq_false k4
      clear k1 k2 k4
      go_wp2
      go_ret
      exact ⟨by rw [HE.out]; simp [*], by first | exact HB.out | exact HBo.out⟩
  · have d3 : (f3 == 0) = false := by rw [beq_eq_false_iff_ne]; exact k3
    have HK := Aside0.mk k3
    by_cases k4 : 1 ≤ f2
    · have d4 : decide (1 ≤ f2) = true := decide_eq_true k4
      by_cases k5 : f2 ≤ f3
      · have d5 : decide (f2 ≤ f3) = true := decide_eq_true k5
        clear k1 k2 k3 k4 k5
        go_wp2
        go_ret
        exact ⟨by rw [HE.out]; simp [HK.out, *], by first | exact HB.out | exact HBo.out⟩
      · have d5 : decide (f2 ≤ f3) = false := decide_eq_false k5
        clear k1 k2 k3 k4 k5
        go_wp2
        go_ret
        exact ⟨by rw [HE.out]; simp [HK.out, *], by first | exact HB.out | exact HBo.out⟩
    · have d4 : decide (1 ≤ f2) = false := decide_eq_false k4
      clear k1 k2 k3 k4
      go_wp2
      go_ret
      exact ⟨by rw [HE.out]; simp [HK.out, *], by first | exact HB.out | exact HBo.out⟩
set_option maxHeartbeats 1000000 in
set_option maxRecDepth 100000 in
theorem notRight.at (x : S31) (w : World) : Calls Try.prog 15 #[aggS x] w fun e w' => e = .returned (.bool (!rightB (toSn x))) ∧ Below w.heap.size w w' := by
  have HRt : Aside0 (∀ w, Calls Try.prog 16 #[aggS x] w fun e w' => e = .returned (.bool (rightB (toSn x))) ∧ Below w.heap.size w w') := ⟨fun w => right.at x w⟩
  obtain ⟨b, eb⟩ : ∃ b, rightB (toSn x) = b := ⟨_, rfl⟩
  rw [eb] at HRt ⊢
  clear eb
  obtain ⟨f0, f1, f2, f3, f4⟩ := x
  unfold aggS at HRt ⊢
  obtain ⟨bo, ebo⟩ : ∃ bo, w.heap.size = bo := ⟨_, rfl⟩
  obtain ⟨w1, ew1⟩ : ∃ w1, w.alloc (.cells #[.bool f0, .string f1, .int .i64 f2, .int .i64 f3, .int .i64 f4] 31) = w1 := ⟨_, rfl⟩
  have hx : w1.heap[bo]? = some (.cells #[.bool f0, .string f1, .int .i64 f2, .int .i64 f3, .int .i64 f4] 31 (0, 0)) := by rw [← ew1, ← ebo]; exact blk_new _ _
  have HB : Aside0 (Below w.heap.size w w1) := ⟨by rw [← ew1]; exact below_alloc (Below.refl _ _) _⟩
  have o0 : w1.cell? ⟨bo, 0, none⟩ = some (.bool f0) := (blk_cell hx 0).trans rfl
  have o1 : w1.cell? ⟨bo, 1, none⟩ = some (.string f1) := (blk_cell hx 1).trans rfl
  have o2 : w1.cell? ⟨bo, 2, none⟩ = some (.int .i64 f2) := (blk_cell hx 2).trans rfl
  have o3 : w1.cell? ⟨bo, 3, none⟩ = some (.int .i64 f3) := (blk_cell hx 3).trans rfl
  have o4 : w1.cell? ⟨bo, 4, none⟩ = some (.int .i64 f4) := (blk_cell hx 4).trans rfl
  clear hx
  go_enter Try.func15, Try.ntmps15
  go_upto_region 1 with (fail)
  try simp only [ew1, ebo]
  clear ew1
  go_wp2_with fail
  refine (HRt.out _).mono ?_
  rintro e w2 ⟨rfl, hb⟩
  have HB2 := Aside0.mk (below_step HB.out hb)
  clear hb
  go_wp2
  go_ret
  exact ⟨rfl, HB2.out⟩
set_option maxHeartbeats 2000000 in
set_option maxRecDepth 100000 in
theorem IndexRight {b : Nat} (ok : S31 → Bool) (A0 : Option Addr) (c0 : Nat) (l0 : List S31) (w : World) (hr0 : Kd.C k31 w A0 l0.length l0) (hl : l0.length < 17592186044416) (hf : ∀ (a : S31), a ∈ l0 → ∀ (w' : World), Below w.heap.size w w' → Calls Try.prog 15 #[aggS a] w' fun e w2 => e = .returned (.bool (ok a)) ∧ Below w'.heap.size w' w2) :
    Calls Try.prog 22 #[.slice A0 l0.length c0, .func (.func 15) #[] #[]] w (IdxPost (l0.any ok) w) := by
  have HR0 := Aside0.mk hr0
  have HL := Aside0.mk hl
  have HF := Aside0.mk hf
  clear hr0 hl hf
  have HB := Aside0.mk (Below.refl w.heap.size w)
  go_enter Try.func22, Try.ntmps22
  go_wp2
  go_loopg [8] l0.length (fun kq v8 w' => ∃ x : Int, v8 = .int .i64 x ∧ Aside0 (∃ j : Nat, x = (j : Int) ∧ j + kq = l0.length ∧ ∀ i : Nat, i < j → ok (rd_T31 l0 i) = false) ∧ Aside0 (Below w.heap.size w w'))
  case atStart => exact ⟨0, rfl, ⟨0, rfl, by omega, fun i hi => absurd hi (by omega)⟩, HB⟩
  case round =>
    obtain ⟨x, rfl, HJ, HB⟩ := hrel
    cases gk with
    | zero =>
      have c0b : decide (x < (l0.length : Int)) = false := decide_eq_false (by obtain ⟨j, e, hj, _⟩ := HJ.out; omega)
      have HA : Aside0 (l0.any ok = false) := ⟨by
        obtain ⟨j, e, hj, ha⟩ := HJ.out
        exact rd31_none (fun i hi => ha i (by omega))⟩
      clear HJ
      go_wp2
      go_ret
      exact ⟨-1, rfl, by rw [HA.out]; rfl, HB.out⟩
    | succ m =>
      have c0b : decide (x < (l0.length : Int)) = true := decide_eq_true (by obtain ⟨j, e, hj, _⟩ := HJ.out; omega)
      have hx1 : IntKind.i64.wrap (x + 1) = x + 1 := by rw [i64_w]; unfold wrap64; obtain ⟨j, e, hj, _⟩ := HJ.out; have := HL.out; omega
      have c1 : 0 ≤ x := by obtain ⟨j, e, hj, _⟩ := HJ.out; omega
      have c2 : x < (l0.length : Int) := by obtain ⟨j, e, hj, _⟩ := HJ.out; omega
      obtain ⟨ad, rfl, q0, q1, q2, q3, q4⟩ := at_T31 (Kd.C_below HR0.out HB.out) x c1 c2
      have HX : Aside0 (0 ≤ x) := ⟨c1⟩
      replace c1 := eq_true c1
      replace c2 := eq_true c2
      go_wp2_with fail
      refine (HF.out (rd_T31 l0 x) (rd31_mem HX.out (of_eq_true c2)) _ HB.out).mono ?_
      rintro e w' ⟨rfl, hb'⟩
      have HB2 := Aside0.mk (below_step HB.out hb')
      clear hb' q0 q1 q2 q3 q4
      by_cases hb : ok (rd_T31 l0 x) = true
      · have HP : Aside0 (l0.any ok = true) := ⟨by
          obtain ⟨j, e, hj, ha⟩ := HJ.out
          exact rd31_any (j := j) (by omega) (by rw [← e]; exact hb)⟩
        go_wp2
        go_ret
        exact ⟨x, rfl, by rw [HP.out, decide_eq_true HX.out], HB2.out⟩
      · have hb : ok (rd_T31 l0 x) = false := by simpa using hb
        have HP : Aside0 (ok (rd_T31 l0 x) = false) := ⟨hb⟩
        go_wp2
        go_roundg m
        case measure => omega
        case rel => exact ⟨x + 1, rfl, ⟨by
          obtain ⟨j, e, hj, ha⟩ := HJ.out
          refine ⟨j + 1, by omega, by omega, fun i hi => ?_⟩
          rcases Nat.lt_or_ge i j with h | h
          · exact ha i h
          · obtain rfl : i = j := by omega
            rw [← e]; exact HP.out⟩, HB2⟩
set_option maxHeartbeats 1000000 in
theorem ContainsRight {b : Nat} (ok : S31 → Bool) (A0 : Option Addr) (c0 : Nat) (l0 : List S31) (w : World) (hr0 : Kd.C k31 w A0 l0.length l0) (hl : l0.length < 17592186044416) (hf : ∀ (a : S31), a ∈ l0 → ∀ (w' : World), Below w.heap.size w w' → Calls Try.prog 15 #[aggS a] w' fun e w2 => e = .returned (.bool (ok a)) ∧ Below w'.heap.size w' w2) :
    Calls Try.prog 14 #[.slice A0 l0.length c0, .func (.func 15) #[] #[]] w fun e w' => e = .returned (.bool (l0.any ok)) ∧ Below w.heap.size w w' := by
  have HC := Aside0.mk (IndexRight (b := b) ok A0 c0 l0 w hr0 hl hf)
  clear hr0 hl hf
  go_enter Try.func14, Try.ntmps14
  go_wp2_with fail
  refine HC.out.mono ?_
  rintro e w' ⟨r, rfl, hr, hb⟩
  have HR := Aside0.mk hr
  have HB := Aside0.mk hb
  clear hr hb
  go_wp2
  go_ret
  exact ⟨by rw [← HR.out]; rfl, HB.out⟩
set_option maxHeartbeats 2000000 in
set_option maxRecDepth 100000 in
theorem IndexIds {b : Nat} (ok : S31 → Bool) (A0 : Option Addr) (c0 : Nat) (l0 : List S31) (w : World) (hr0 : Kd.C k31 w A0 l0.length l0) (hl : l0.length < 17592186044416) (hf : ∀ (a : S31), a ∈ l0 → ∀ (w' : World), Below w.heap.size w w' → Calls Try.prog 21 #[aggS a, .pointer (some ⟨b, 0, none⟩)] w' fun e w2 => e = .returned (.bool (ok a)) ∧ Below w'.heap.size w' w2) :
    Calls Try.prog 22 #[.slice A0 l0.length c0, .func (.func 21) #[] #[.pointer (some ⟨b, 0, none⟩)]] w (IdxPost (l0.any ok) w) := by
  have HR0 := Aside0.mk hr0
  have HL := Aside0.mk hl
  have HF := Aside0.mk hf
  clear hr0 hl hf
  have HB := Aside0.mk (Below.refl w.heap.size w)
  go_enter Try.func22, Try.ntmps22
  go_wp2
  go_loopg [8] l0.length (fun kq v8 w' => ∃ x : Int, v8 = .int .i64 x ∧ Aside0 (∃ j : Nat, x = (j : Int) ∧ j + kq = l0.length ∧ ∀ i : Nat, i < j → ok (rd_T31 l0 i) = false) ∧ Aside0 (Below w.heap.size w w'))
  case atStart => exact ⟨0, rfl, ⟨0, rfl, by omega, fun i hi => absurd hi (by omega)⟩, HB⟩
  case round =>
    obtain ⟨x, rfl, HJ, HB⟩ := hrel
    cases gk with
    | zero =>
      have c0b : decide (x < (l0.length : Int)) = false := decide_eq_false (by obtain ⟨j, e, hj, _⟩ := HJ.out; omega)
      have HA : Aside0 (l0.any ok = false) := ⟨by
        obtain ⟨j, e, hj, ha⟩ := HJ.out
        exact rd31_none (fun i hi => ha i (by omega))⟩
      clear HJ
      go_wp2
      go_ret
      exact ⟨-1, rfl, by rw [HA.out]; rfl, HB.out⟩
    | succ m =>
      have c0b : decide (x < (l0.length : Int)) = true := decide_eq_true (by obtain ⟨j, e, hj, _⟩ := HJ.out; omega)
      have hx1 : IntKind.i64.wrap (x + 1) = x + 1 := by rw [i64_w]; unfold wrap64; obtain ⟨j, e, hj, _⟩ := HJ.out; have := HL.out; omega
      have c1 : 0 ≤ x := by obtain ⟨j, e, hj, _⟩ := HJ.out; omega
      have c2 : x < (l0.length : Int) := by obtain ⟨j, e, hj, _⟩ := HJ.out; omega
      obtain ⟨ad, rfl, q0, q1, q2, q3, q4⟩ := at_T31 (Kd.C_below HR0.out HB.out) x c1 c2
      have HX : Aside0 (0 ≤ x) := ⟨c1⟩
      replace c1 := eq_true c1
      replace c2 := eq_true c2
      go_wp2_with fail
      refine (HF.out (rd_T31 l0 x) (rd31_mem HX.out (of_eq_true c2)) _ HB.out).mono ?_
      rintro e w' ⟨rfl, hb'⟩
      have HB2 := Aside0.mk (below_step HB.out hb')
      clear hb' q0 q1 q2 q3 q4
      by_cases hb : ok (rd_T31 l0 x) = true
      · have HP : Aside0 (l0.any ok = true) := ⟨by
          obtain ⟨j, e, hj, ha⟩ := HJ.out
          exact rd31_any (j := j) (by omega) (by rw [← e]; exact hb)⟩
        go_wp2
        go_ret
        exact ⟨x, rfl, by rw [HP.out, decide_eq_true HX.out], HB2.out⟩
      · have hb : ok (rd_T31 l0 x) = false := by simpa using hb
        have HP : Aside0 (ok (rd_T31 l0 x) = false) := ⟨hb⟩
        go_wp2
        go_roundg m
        case measure => omega
        case rel => exact ⟨x + 1, rfl, ⟨by
          obtain ⟨j, e, hj, ha⟩ := HJ.out
          refine ⟨j + 1, by omega, by omega, fun i hi => ?_⟩
          rcases Nat.lt_or_ge i j with h | h
          · exact ha i h
          · obtain rfl : i = j := by omega
            rw [← e]; exact HP.out⟩, HB2⟩
set_option maxHeartbeats 1000000 in
theorem ContainsIds {b : Nat} (ok : S31 → Bool) (A0 : Option Addr) (c0 : Nat) (l0 : List S31) (w : World) (hr0 : Kd.C k31 w A0 l0.length l0) (hl : l0.length < 17592186044416) (hf : ∀ (a : S31), a ∈ l0 → ∀ (w' : World), Below w.heap.size w w' → Calls Try.prog 21 #[aggS a, .pointer (some ⟨b, 0, none⟩)] w' fun e w2 => e = .returned (.bool (ok a)) ∧ Below w'.heap.size w' w2) :
    Calls Try.prog 14 #[.slice A0 l0.length c0, .func (.func 21) #[] #[.pointer (some ⟨b, 0, none⟩)]] w fun e w' => e = .returned (.bool (l0.any ok)) ∧ Below w.heap.size w w' := by
  have HC := Aside0.mk (IndexIds (b := b) ok A0 c0 l0 w hr0 hl hf)
  clear hr0 hl hf
  go_enter Try.func14, Try.ntmps14
  go_wp2_with fail
  refine HC.out.mono ?_
  rintro e w' ⟨r, rfl, hr, hb⟩
  have HR := Aside0.mk hr
  have HB := Aside0.mk hb
  clear hr hb
  go_wp2
  go_ret
  exact ⟨by rw [← HR.out]; rfl, HB.out⟩
end Go.Proofs.Ytmijalplheoekaa.P
