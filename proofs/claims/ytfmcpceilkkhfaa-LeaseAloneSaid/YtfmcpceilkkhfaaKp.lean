/- clock.Keeps and clock.least: contracts. -/
import Derived.Test.YtfmcpceilkkhfaaFr
import Derived.Test.YtfmcpceilkkhfaaP50
import Derived.Test.YtfmcpceilkkhfaaP52
import Derived.Test.YtfmcpceilkkhfaaP53
namespace Go.Proofs.Ytfmcpceilkkhfaa.P
open Go.RowKit Go.Proofs.YtfmcpceilkkhfaaW.PrintWords Go.Proofs.YtfmcpceilkkhfaaW.PrintLast Go.Proofs.YtfmcpceilkkhfaaW.PrintMore
attribute [local go_sem] max2_int min2_int max_two min_two max_three min_three max_four min_four
set_option linter.unusedVariables false
set_option linter.unusedSimpArgs false
def tkB (n : Int) : Bool := decide (0 ≤ n) && decide (n ≤ 1048576)
def drB (n : Int) : Bool := decide (0 ≤ n) && decide (n ≤ 999)
theorem tkB_iff {n : Int} : tkB n = true ↔ 0 ≤ n ∧ n ≤ 1048576 := by simp [tkB]
theorem drB_iff {n : Int} : drB n = true ↔ 0 ≤ n ∧ n ≤ 999 := by simp [drB]
theorem within_is (a b c : Int) : clock_within_int.f a b c = some (decide (b ≤ a) && decide (a ≤ c)) := by
  unfold clock_within_int.f
  by_cases h : a ≥ b
  · rw [if_pos h, decide_eq_true (show b ≤ a from h)]; rfl
  · rw [if_neg h, decide_eq_false (show ¬ b ≤ a from h)]; rfl
theorem isTick_is (n : Int) : clock_isTick.f n = some (tkB n) := by unfold clock_isTick.f; rw [within_is]; rfl
theorem isDrift_is (n : Int) : clock_isDrift.f n = some (drB n) := by unfold clock_isDrift.f; rw [within_is]; rfl
theorem isTick.at (n : Int) (w : World) : Calls Try.prog 53 #[.int .i64 n] w fun e w' => e = .returned (.bool (tkB n)) ∧ Drawn0 w w' := clock_isTick.calls n _ w (isTick_is n)
theorem isDrift.at (n : Int) (w : World) : Calls Try.prog 52 #[.int .i64 n] w fun e w' => e = .returned (.bool (drB n)) ∧ Drawn0 w w' := clock_isDrift.calls n _ w (isDrift_is n)
theorem within.at (a b c : Int) (w : World) : Calls Try.prog 50 #[.int .i64 a, .int .i64 b, .int .i64 c] w fun e w' => e = .returned (.bool (decide (b ≤ a) && decide (a ≤ c))) ∧ Drawn0 w w' := clock_within_int.calls a b c _ w (within_is a b c)
/-- One clock goes on by a while the time goes on by t: within the drift d. -/
def fitB (t d a : Int) : Bool := tkB a && (decide ((1000 - d) * t ≤ 1000 * a) && decide (1000 * a ≤ (1000 + d) * t))
def keepsB (t : Int) (l : List Int) (d : Int) : Bool := drB d && (tkB t && l.all (fitB t d))
theorem mul_le_of {a b c d : Int} (h1 : a ≤ c) (h2 : b ≤ d) (h3 : 0 ≤ b) (h4 : 0 ≤ c) : a * b ≤ c * d := Int.mul_le_mul h1 h2 h3 h4
set_option maxHeartbeats 1000000 in
set_option maxRecDepth 100000 in
theorem wrong.calls (pd pt : Nat) (d t a : Int) (w : World) (hd : w.cell? ⟨pd, 0, none⟩ = some (.int .i64 d)) (ht : w.cell? ⟨pt, 0, none⟩ = some (.int .i64 t)) (h1 : drB d = true) (h2 : tkB t = true) :
    Calls Try.prog 54 #[.int .i64 a, .pointer (some ⟨pd, 0, none⟩), .pointer (some ⟨pt, 0, none⟩)] w fun e w' => e = .returned (.bool (!fitB t d a)) ∧ Drawn0 w w' := by
  obtain ⟨d1, d2⟩ := drB_iff.mp h1
  obtain ⟨t1, t2⟩ := tkB_iff.mp h2
  clear h1 h2
  have e1 : IntKind.i64.wrap (1000 - d) = 1000 - d := by rw [i64_w]; unfold wrap64; omega
  have e2 : IntKind.i64.wrap (1000 + d) = 1000 + d := by rw [i64_w]; unfold wrap64; omega
  have m1 : (1000 - d) * t ≤ 1000 * 1048576 := mul_le_of (by omega) t2 t1 (by omega)
  have m2 : (1000 + d) * t ≤ 1999 * 1048576 := mul_le_of (by omega) t2 t1 (by omega)
  have m3 : 0 ≤ (1000 - d) * t := Int.mul_nonneg (by omega) t1
  have m4 : 0 ≤ (1000 + d) * t := Int.mul_nonneg (by omega) t1
  have e3 : IntKind.i64.wrap ((1000 - d) * t) = (1000 - d) * t := by rw [i64_w]; unfold wrap64; omega
  have e4 : IntKind.i64.wrap ((1000 + d) * t) = (1000 + d) * t := by rw [i64_w]; unfold wrap64; omega
  clear d1 d2 t1 t2 m1 m2 m3 m4
  by_cases c : tkB a = true
  · obtain ⟨a1, a2⟩ := tkB_iff.mp c
    have e5 : IntKind.i64.wrap (1000 * a) = 1000 * a := by rw [i64_w]; unfold wrap64; omega
    have HF : Aside0 ((!fitB t d a) = !(decide ((1000 - d) * t ≤ 1000 * a) && decide (1000 * a ≤ (1000 + d) * t))) := ⟨by unfold fitB; rw [c]; rfl⟩
    clear a1 a2
    go_enter Try.func54, Try.ntmps54
    go_wp2_with fail
    refine (isTick.at a _).mono ?_
    rintro e w' ⟨rfl, ⟨nd, rfl⟩⟩
    go_wp2_with fail
    refine (within.at _ _ _ _).mono ?_
    rintro e w' ⟨rfl, ⟨nd2, rfl⟩⟩
    go_wp2
    go_ret
    exact ⟨by rw [HF.out, Bool.not_and]; rfl, ⟨_, rfl⟩⟩
  · have c : tkB a = false := by simpa using c
    have HF : Aside0 ((!fitB t d a) = true) := ⟨by unfold fitB; rw [c]; rfl⟩
    go_enter Try.func54, Try.ntmps54
    go_wp2_with fail
    refine (isTick.at a _).mono ?_
    rintro e w' ⟨rfl, ⟨nd, rfl⟩⟩
    go_wp2
    go_ret
    exact ⟨by rw [HF.out]; rfl, ⟨nd, rfl⟩⟩
def IdxPost (b : Bool) (w : World) (e : Ending) (w' : World) : Prop := ∃ r : Int, e = .returned (.int .i64 r) ∧ decide (0 ≤ r) = b ∧ Below w.heap.size w w'
theorem all_at {ok : Int → Bool} {l : List Int} {j : Nat} (h : j < l.length) (hb : ok (rd l j) = false) : l.all ok = false := by
  rw [List.all_eq_false]
  refine ⟨rd l j, ?_, by rw [hb]; simp⟩
  unfold rd
  rw [List.getD_eq_getElem?_getD, Int.toNat_natCast, List.getElem?_eq_getElem h]
  exact List.getElem_mem h
theorem all_of {ok : Int → Bool} {l : List Int} (h : ∀ j : Nat, j < l.length → ok (rd l j) = true) : l.all ok = true := by
  rw [List.all_eq_true]
  intro x hx
  obtain ⟨j, hj, rfl⟩ := List.getElem_of_mem hx
  have := h j hj
  unfold rd at this
  rw [List.getD_eq_getElem?_getD, Int.toNat_natCast, List.getElem?_eq_getElem hj] at this
  exact this
/- from kp.py -/
set_option maxHeartbeats 2000000 in
set_option maxRecDepth 100000 in
theorem IndexFunc.at_Tick (ok : Int → Bool) (A0 : Option Addr) (c0 : Nat) (l0 : List Int) (w : World) (hr0 : Kd.C (Kd.int .i64) w A0 l0.length l0) (hl : l0.length < 17592186044416) (hf : ∀ (a : Int) (w' : World), Below w.heap.size w w' → Calls Try.prog 56 #[.int .i64 a] w' fun e w2 => e = .returned (.bool (!ok a)) ∧ Drawn0 w' w2) :
    Calls Try.prog 61 #[.slice A0 l0.length c0, .func (.func 56) #[] #[]] w (IdxPost (!l0.all ok) w) := by
  have HR0 := Aside0.mk hr0
  have HL := Aside0.mk hl
  have HF := Aside0.mk hf
  clear hr0 hl hf
  have HB := Aside0.mk (Below.refl w.heap.size w)
  go_enter Try.func61, Try.ntmps61
  go_wp2
  go_loopg [8] l0.length (fun kq v8 w' => ∃ x : Int, v8 = .int .i64 x ∧ Aside0 (∃ j : Nat, x = (j : Int) ∧ j + kq = l0.length ∧ ∀ i : Nat, i < j → ok (rd l0 i) = true) ∧ Aside0 (Below w.heap.size w w'))
  case atStart => exact ⟨0, rfl, ⟨0, rfl, by omega, fun i hi => absurd hi (by omega)⟩, HB⟩
  case round =>
    obtain ⟨x, rfl, HJ, HB⟩ := hrel
    cases gk with
    | zero =>
      have c0b : decide (x < (l0.length : Int)) = false := decide_eq_false (by obtain ⟨j, e, hj, _⟩ := HJ.out; omega)
      have HA : Aside0 (l0.all ok = true) := ⟨by
        obtain ⟨j, e, hj, ha⟩ := HJ.out
        exact all_of (fun i hi => ha i (by omega))⟩
      clear HJ
      go_wp2
      go_ret
      exact ⟨-1, rfl, by rw [HA.out]; rfl, HB.out⟩
    | succ m =>
      have c0b : decide (x < (l0.length : Int)) = true := decide_eq_true (by obtain ⟨j, e, hj, _⟩ := HJ.out; omega)
      have hx1 : IntKind.i64.wrap (x + 1) = x + 1 := by rw [i64_w]; unfold wrap64; obtain ⟨j, e, hj, _⟩ := HJ.out; have := HL.out; omega
      have c1 : 0 ≤ x := by obtain ⟨j, e, hj, _⟩ := HJ.out; omega
      have c2 : x < (l0.length : Int) := by obtain ⟨j, e, hj, _⟩ := HJ.out; omega
      obtain ⟨ad, rfl, hcell⟩ := Kd.at_int HR0.out x c1 c2
      replace hcell := (HB.out.cell (World.block_lt_of_cell? w _ hcell)).trans hcell
      replace c1 := eq_true c1
      replace c2 := eq_true c2
      go_wp2_with fail
      refine (HF.out _ _ (by first | exact HB.out | exact pw_below_drewN HB.out _)).mono ?_
      rintro e w' ⟨rfl, ⟨nd, rfl⟩⟩
      by_cases hb : ok (rd l0 x) = true
      · have HP : Aside0 (ok (rd l0 x) = true) := ⟨hb⟩
        go_wp2
        go_roundg m
        case measure => omega
        case rel => exact ⟨x + 1, rfl, ⟨by
          obtain ⟨j, e, hj, ha⟩ := HJ.out
          refine ⟨j + 1, by omega, by omega, fun i hi => ?_⟩
          rcases Nat.lt_or_ge i j with h | h
          · exact ha i h
          · obtain rfl : i = j := by omega
            rw [← e]; exact HP.out⟩, ⟨pw_below_drewN HB.out _⟩⟩
      · have hb : ok (rd l0 x) = false := by simpa using hb
        have HP : Aside0 (l0.all ok = false) := ⟨by
          obtain ⟨j, e, hj, ha⟩ := HJ.out
          exact all_at (j := j) (by omega) (by rw [← e]; exact hb)⟩
        have HX : Aside0 (0 ≤ x) := ⟨of_eq_true c1⟩
        go_wp2
        go_ret
        exact ⟨x, rfl, by rw [HP.out, decide_eq_true HX.out]; rfl, pw_below_drewN HB.out _⟩
set_option maxHeartbeats 1000000 in
theorem ContainsFunc.at_Tick (ok : Int → Bool) (A0 : Option Addr) (c0 : Nat) (l0 : List Int) (w : World) (hr0 : Kd.C (Kd.int .i64) w A0 l0.length l0) (hl : l0.length < 17592186044416) (hf : ∀ (a : Int) (w' : World), Below w.heap.size w w' → Calls Try.prog 56 #[.int .i64 a] w' fun e w2 => e = .returned (.bool (!ok a)) ∧ Drawn0 w' w2) :
    Calls Try.prog 55 #[.slice A0 l0.length c0, .func (.func 56) #[] #[]] w fun e w' => e = .returned (.bool (!l0.all ok)) ∧ Below w.heap.size w w' := by
  have HC := Aside0.mk (IndexFunc.at_Tick ok A0 c0 l0 w hr0 hl hf)
  clear hr0 hl hf
  go_enter Try.func55, Try.ntmps55
  go_wp2_with fail
  refine HC.out.mono ?_
  rintro e w' ⟨r, rfl, hr, hb⟩
  have HR := Aside0.mk hr
  have HB := Aside0.mk hb
  clear hr hb
  go_wp2
  go_ret
  exact ⟨by rw [← HR.out]; rfl, HB.out⟩

set_option maxHeartbeats 2000000 in
set_option maxRecDepth 100000 in
theorem IndexFunc.at_Keeps (pd pt : Nat) (ok : Int → Bool) (A0 : Option Addr) (c0 : Nat) (l0 : List Int) (w : World) (hr0 : Kd.C (Kd.int .i64) w A0 l0.length l0) (hl : l0.length < 17592186044416) (hf : ∀ (a : Int) (w' : World), Below w.heap.size w w' → Calls Try.prog 54 #[.int .i64 a, .pointer (some ⟨pd, 0, none⟩), .pointer (some ⟨pt, 0, none⟩)] w' fun e w2 => e = .returned (.bool (!ok a)) ∧ Drawn0 w' w2) :
    Calls Try.prog 61 #[.slice A0 l0.length c0, .func (.func 54) #[] #[.pointer (some ⟨pd, 0, none⟩), .pointer (some ⟨pt, 0, none⟩)]] w (IdxPost (!l0.all ok) w) := by
  have HR0 := Aside0.mk hr0
  have HL := Aside0.mk hl
  have HF := Aside0.mk hf
  clear hr0 hl hf
  have HB := Aside0.mk (Below.refl w.heap.size w)
  go_enter Try.func61, Try.ntmps61
  go_wp2
  go_loopg [8] l0.length (fun kq v8 w' => ∃ x : Int, v8 = .int .i64 x ∧ Aside0 (∃ j : Nat, x = (j : Int) ∧ j + kq = l0.length ∧ ∀ i : Nat, i < j → ok (rd l0 i) = true) ∧ Aside0 (Below w.heap.size w w'))
  case atStart => exact ⟨0, rfl, ⟨0, rfl, by omega, fun i hi => absurd hi (by omega)⟩, HB⟩
  case round =>
    obtain ⟨x, rfl, HJ, HB⟩ := hrel
    cases gk with
    | zero =>
      have c0b : decide (x < (l0.length : Int)) = false := decide_eq_false (by obtain ⟨j, e, hj, _⟩ := HJ.out; omega)
      have HA : Aside0 (l0.all ok = true) := ⟨by
        obtain ⟨j, e, hj, ha⟩ := HJ.out
        exact all_of (fun i hi => ha i (by omega))⟩
      clear HJ
      go_wp2
      go_ret
      exact ⟨-1, rfl, by rw [HA.out]; rfl, HB.out⟩
    | succ m =>
      have c0b : decide (x < (l0.length : Int)) = true := decide_eq_true (by obtain ⟨j, e, hj, _⟩ := HJ.out; omega)
      have hx1 : IntKind.i64.wrap (x + 1) = x + 1 := by rw [i64_w]; unfold wrap64; obtain ⟨j, e, hj, _⟩ := HJ.out; have := HL.out; omega
      have c1 : 0 ≤ x := by obtain ⟨j, e, hj, _⟩ := HJ.out; omega
      have c2 : x < (l0.length : Int) := by obtain ⟨j, e, hj, _⟩ := HJ.out; omega
      obtain ⟨ad, rfl, hcell⟩ := Kd.at_int HR0.out x c1 c2
      replace hcell := (HB.out.cell (World.block_lt_of_cell? w _ hcell)).trans hcell
      replace c1 := eq_true c1
      replace c2 := eq_true c2
      go_wp2_with fail
      refine (HF.out _ _ (by first | exact HB.out | exact pw_below_drewN HB.out _)).mono ?_
      rintro e w' ⟨rfl, ⟨nd, rfl⟩⟩
      by_cases hb : ok (rd l0 x) = true
      · have HP : Aside0 (ok (rd l0 x) = true) := ⟨hb⟩
        go_wp2
        go_roundg m
        case measure => omega
        case rel => exact ⟨x + 1, rfl, ⟨by
          obtain ⟨j, e, hj, ha⟩ := HJ.out
          refine ⟨j + 1, by omega, by omega, fun i hi => ?_⟩
          rcases Nat.lt_or_ge i j with h | h
          · exact ha i h
          · obtain rfl : i = j := by omega
            rw [← e]; exact HP.out⟩, ⟨pw_below_drewN HB.out _⟩⟩
      · have hb : ok (rd l0 x) = false := by simpa using hb
        have HP : Aside0 (l0.all ok = false) := ⟨by
          obtain ⟨j, e, hj, ha⟩ := HJ.out
          exact all_at (j := j) (by omega) (by rw [← e]; exact hb)⟩
        have HX : Aside0 (0 ≤ x) := ⟨of_eq_true c1⟩
        go_wp2
        go_ret
        exact ⟨x, rfl, by rw [HP.out, decide_eq_true HX.out]; rfl, pw_below_drewN HB.out _⟩
set_option maxHeartbeats 1000000 in
theorem ContainsFunc.at_Keeps (pd pt : Nat) (ok : Int → Bool) (A0 : Option Addr) (c0 : Nat) (l0 : List Int) (w : World) (hr0 : Kd.C (Kd.int .i64) w A0 l0.length l0) (hl : l0.length < 17592186044416) (hf : ∀ (a : Int) (w' : World), Below w.heap.size w w' → Calls Try.prog 54 #[.int .i64 a, .pointer (some ⟨pd, 0, none⟩), .pointer (some ⟨pt, 0, none⟩)] w' fun e w2 => e = .returned (.bool (!ok a)) ∧ Drawn0 w' w2) :
    Calls Try.prog 55 #[.slice A0 l0.length c0, .func (.func 54) #[] #[.pointer (some ⟨pd, 0, none⟩), .pointer (some ⟨pt, 0, none⟩)]] w fun e w' => e = .returned (.bool (!l0.all ok)) ∧ Below w.heap.size w w' := by
  have HC := Aside0.mk (IndexFunc.at_Keeps pd pt ok A0 c0 l0 w hr0 hl hf)
  clear hr0 hl hf
  go_enter Try.func55, Try.ntmps55
  go_wp2_with fail
  refine HC.out.mono ?_
  rintro e w' ⟨r, rfl, hr, hb⟩
  have HR := Aside0.mk hr
  have HB := Aside0.mk hb
  clear hr hb
  go_wp2
  go_ret
  exact ⟨by rw [← HR.out]; rfl, HB.out⟩

set_option maxHeartbeats 400000 in
theorem tickNot.at (a : Int) (w : World) : Calls Try.prog 56 #[.int .i64 a] w fun e w2 => e = .returned (.bool (!tkB a)) ∧ Drawn0 w w2 := by
  go_enter Try.func56, Try.ntmps56
  go_wp2_with fail
  refine (isTick.at a _).mono ?_
  rintro e w' ⟨rfl, ⟨nd, rfl⟩⟩
  go_wp2
  go_ret
  exact ⟨rfl, ⟨nd, rfl⟩⟩
set_option maxHeartbeats 1000000 in
set_option maxRecDepth 100000 in
theorem keeps.at (t d : Int) (A0 : Option Addr) (c0 : Nat) (l0 : List Int) (w : World) (hr0 : Kd.C (Kd.int .i64) w A0 l0.length l0) (hl : l0.length < 17592186044416) :
    Calls Try.prog 23 #[.int .i64 t, .slice A0 l0.length c0, .int .i64 d] w fun e w' => e = .returned (.bool (keepsB t l0 d)) ∧ Below w.heap.size w w' := by
  have HR0 := Aside0.mk hr0
  have HL := Aside0.mk hl
  clear hr0 hl
  by_cases h1 : drB d = true
  · by_cases h2 : tkB t = true
    · have HF : Aside0 (keepsB t l0 d = l0.all (fitB t d)) := ⟨by unfold keepsB; rw [h1, h2]; rfl⟩
      have H1 := Aside0.mk h1
      have H2 := Aside0.mk h2
      go_enter Try.func23, Try.ntmps23
      go_wp2_with fail
      refine (isDrift.at d _).mono ?_
      rintro e w' ⟨rfl, ⟨nd, rfl⟩⟩
      go_wp2_with fail
      refine (isTick.at t _).mono ?_
      rintro e w' ⟨rfl, ⟨nd2, rfl⟩⟩
      go_wp2_with fail
      refine (ContainsFunc.at_Keeps (w.heap.size + 1) w.heap.size (fitB t d) _ _ l0 _ (Kd.C_drewN (Kd.C_alloc (Kd.C_alloc HR0.out _) _) _) HL.out (fun a w' hb => wrong.calls _ _ d t a w' ((hb.cell (by go_simp)).trans (by go_simp)) ((hb.cell (by go_simp)).trans (by go_simp)) H1.out H2.out)).mono ?_
      rintro e w' ⟨rfl, hb⟩
      have HB := Aside0.mk hb
      clear hb
      go_wp2
      go_ret
      exact ⟨by rw [HF.out]; simp, below_step (pw_below_drewN (below_alloc (below_alloc (Below.refl _ _) _) _) _) HB.out⟩
    · have h2 : tkB t = false := by simpa using h2
      have HF : Aside0 (keepsB t l0 d = false) := ⟨by unfold keepsB; rw [h1, h2]; rfl⟩
      go_enter Try.func23, Try.ntmps23
      go_wp2_with fail
      refine (isDrift.at d _).mono ?_
      rintro e w' ⟨rfl, ⟨nd, rfl⟩⟩
      go_wp2_with fail
      refine (isTick.at t _).mono ?_
      rintro e w' ⟨rfl, ⟨nd2, rfl⟩⟩
      go_wp2
      go_ret
      exact ⟨by rw [HF.out]; rfl, pw_below_drewN (below_alloc (below_alloc (Below.refl _ _) _) _) _⟩
  · have h1 : drB d = false := by simpa using h1
    have HF : Aside0 (keepsB t l0 d = false) := ⟨by unfold keepsB; rw [h1]; rfl⟩
    go_enter Try.func23, Try.ntmps23
    go_wp2_with fail
    refine (isDrift.at d _).mono ?_
    rintro e w' ⟨rfl, ⟨nd, rfl⟩⟩
    go_wp2
    go_ret
    exact ⟨by rw [HF.out]; rfl, pw_below_drewN (below_alloc (below_alloc (Below.refl _ _) _) _) _⟩

theorem fitB_mono {t d d' a : Int} (h0 : 0 ≤ t) (hd : d ≤ d') (h : fitB t d a = true) : fitB t d' a = true := by
  simp only [fitB, Bool.and_eq_true, decide_eq_true_eq] at h ⊢
  obtain ⟨h1, h2, h3⟩ := h
  exact ⟨h1, Int.le_trans (Int.mul_le_mul_of_nonneg_right (by omega) h0) h2, Int.le_trans h3 (Int.mul_le_mul_of_nonneg_right (by omega) h0)⟩
theorem keepsB_mono {t d d' : Int} {l : List Int} (hd : d ≤ d') (h : keepsB t l d = true) (h' : drB d' = true) : keepsB t l d' = true := by
  simp only [keepsB, Bool.and_eq_true, List.all_eq_true] at h ⊢
  exact ⟨h', h.2.1, fun x hx => fitB_mono (tkB_iff.mp h.2.1).1 hd (h.2.2 x hx)⟩
/-- What 'least' answers: from that drift on the tick keeps each. -/
def IsLeast (t : Int) (l : List Int) (r : Int) : Prop := 0 ≤ r ∧ r ≤ 1000 ∧ ∀ d, drB d = true → keepsB t l d = decide (r ≤ d)
set_option maxHeartbeats 2000000 in
set_option maxRecDepth 100000 in
theorem least.at (t : Int) (A0 : Option Addr) (c0 : Nat) (l0 : List Int) (w : World) (hr0 : Kd.C (Kd.int .i64) w A0 l0.length l0) (hl : l0.length < 17592186044416) :
    Calls Try.prog 57 #[.int .i64 t, .slice A0 l0.length c0] w fun e w' => ∃ r : Int, e = .returned (.int .i64 r) ∧ IsLeast t l0 r ∧ Below w.heap.size w w' := by
  have HR0 := Aside0.mk hr0
  have HL := Aside0.mk hl
  clear hr0 hl
  have HB := Aside0.mk (Below.refl w.heap.size w)
  go_enter Try.func57, Try.ntmps57
  go_wp2
  go_loopg [5, 6] 1000 (fun kq v5 v6 w' => ∃ lo hi : Int, v5 = .int .i64 lo ∧ v6 = .int .i64 hi ∧ Aside0 (0 ≤ lo ∧ lo ≤ hi ∧ hi ≤ 1000 ∧ hi - lo ≤ (kq : Int)) ∧ Aside0 (∀ d, drB d = true → d < lo → keepsB t l0 d = false) ∧ Aside0 (∀ d, drB d = true → hi ≤ d → keepsB t l0 d = true) ∧ Aside0 (Below w.heap.size w w'))
  case atStart => exact ⟨0, 1000, rfl, rfl, ⟨by omega⟩, ⟨fun d h1 h2 => by have := (drB_iff.mp h1).1; omega⟩, ⟨fun d h1 h2 => by have := (drB_iff.mp h1).2; omega⟩, HB⟩
  case round =>
    obtain ⟨lo, hi, rfl, rfl, HI, H1, H2, HB⟩ := hrel
    by_cases c : lo < hi
    · cases gk with
      | zero => exact absurd HI.out (by omega)
      | succ m =>
        have cb : decide (lo < hi) = true := decide_eq_true c
        have e1 : IntKind.i64.wrap (lo + hi) = lo + hi := by rw [i64_w]; unfold wrap64; have := HI.out; omega
        obtain ⟨mid, em⟩ : ∃ mid, mid = (lo + hi) / 2 := ⟨_, rfl⟩
        have e2 : (lo + hi).tdiv 2 = mid := by rw [em]; have := HI.out; exact Int.tdiv_eq_ediv_of_nonneg (by omega)
        have e3 : IntKind.i64.wrap mid = mid := by rw [i64_w]; unfold wrap64; have := HI.out; omega
        have e4 : IntKind.i64.wrap (mid + 1) = mid + 1 := by rw [i64_w]; unfold wrap64; have := HI.out; omega
        have HM : Aside0 (lo ≤ mid ∧ mid < hi) := ⟨by omega⟩
        clear em c
        go_wp2_with fail
        refine (keeps.at t mid _ _ l0 _ (Kd.C_below HR0.out (by first | exact HB.out | exact pw_below_drewN HB.out _)) HL.out).mono ?_
        rintro e w' ⟨rfl, hb⟩
        have HB2 := Aside0.mk (below_step HB.out hb)
        clear hb
        by_cases k : keepsB t l0 mid = true
        · have HK := Aside0.mk k
          go_wp2
          go_roundg m
          case measure => omega
          case rel => exact ⟨lo, mid, rfl, rfl, ⟨by have := HI.out; have := HM.out; omega⟩, H1, ⟨fun d h1 h2 => keepsB_mono h2 HK.out h1⟩, HB2⟩
        · have k : keepsB t l0 mid = false := by simpa using k
          have HK := Aside0.mk k
          go_wp2
          go_roundg m
          case measure => omega
          case rel => exact ⟨mid + 1, hi, rfl, rfl, ⟨by have := HI.out; have := HM.out; omega⟩, ⟨fun d h1 h2 => by
            rw [Bool.eq_false_iff]
            intro h
            have := keepsB_mono (show d ≤ mid by omega) h (drB_iff.mpr (by have := HI.out; have := HM.out; omega))
            rw [HK.out] at this
            exact absurd this (by simp)⟩, H2, HB2⟩
    · have cb : decide (lo < hi) = false := decide_eq_false c
      have HQ : Aside0 (IsLeast t l0 lo) := ⟨by
        have := HI.out
        obtain rfl : lo = hi := by omega
        refine ⟨by omega, by omega, fun d hd => ?_⟩
        by_cases q : lo ≤ d
        · rw [decide_eq_true q]; exact H2.out d hd q
        · rw [decide_eq_false q]; exact H1.out d hd (by omega)⟩
      go_wp2
      go_ret
      exact ⟨lo, rfl, HQ.out, HB.out⟩
end Go.Proofs.Ytfmcpceilkkhfaa.P
