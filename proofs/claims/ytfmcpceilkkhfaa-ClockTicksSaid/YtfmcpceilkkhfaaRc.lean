/- The reference's clocks (pannierref05): contracts of its methods. -/
import Derived.Test.YtfmcpceilkkhfaaLv
import Derived.Test.YtfmcpceilkkhfaaP32
import Derived.Test.YtfmcpceilkkhfaaP59
namespace Go.Proofs.Ytfmcpceilkkhfaa.P
open Go.RowKit Go.Proofs.YtfmcpceilkkhfaaW.PrintWords Go.Proofs.YtfmcpceilkkhfaaW.PrintLast Go.Proofs.YtfmcpceilkkhfaaW.PrintMore
attribute [local go_sem] max2_int min2_int max_two min_two max_three min_three max_four min_four
set_option linter.unusedVariables false
set_option linter.unusedSimpArgs false
/-- The reference's clocks lie in block g; their row of ticks is v. -/
def Ref (W : World) (B g : Nat) (ok : Nat → Prop) (n : Int) (v : Value) (L : List S44) : Prop := W.heap[g]? = some (.cells #[.int .i64 n, v] 98 (0, 0)) ∧ Kd.R k44 44 W B ok v L ∧ B ≤ g ∧ ¬ ok g
theorem Ref.below {W W' : World} {B g : Nat} {ok : Nat → Prop} {n : Int} {v : Value} {L : List S44} (h : Ref W B g ok n v L) (hb : Below W.heap.size W W') : Ref W' B g ok n v L :=
  ⟨blk_kept h.1 (Kept.of_below hb (fun _ => False)) (fun h => h), Kd.R_below h.2.1 hb, h.2.2⟩
theorem Ref.kept {W W' : World} {B g : Nat} {ok : Nat → Prop} {n : Int} {v : Value} {L : List S44} {S : Nat → Prop} (h : Ref W B g ok n v L) (hk : Kept W W' S) (hg : ¬ S g) (hs : ∀ k, ok k → ¬ S k) : Ref W' B g ok n v L := ⟨blk_kept h.1 hk hg, Kd.R_kept h.2.1 hk hs, h.2.2⟩
theorem Ref.cells {W : World} {B g : Nat} {ok : Nat → Prop} {n : Int} {v : Value} {L : List S44} (h : Ref W B g ok n v L) : ∃ A c, v = .slice A L.length c ∧ L.length ≤ c ∧ W.cell? ⟨g, 0, none⟩ = some (.int .i64 n) ∧ W.cell? ⟨g, 1, none⟩ = some (.slice A L.length c) ∧ Kd.C k44 W A L.length L := by
  obtain ⟨A, c, rfl, h1, h2⟩ := Kd.R_reads h.2.1
  exact ⟨A, c, rfl, h1, (blk_cell h.1 0).trans rfl, (blk_cell h.1 1).trans rfl, h2⟩
set_option maxHeartbeats 400000 in
theorem RNew.bad (n : Int) (w : World) (hn : ¬ (1 ≤ n ∧ n ≤ 7)) : Calls Try.prog 29 #[.int .i64 n] w fun e w' => e = .returned (.tuple #[.pointer none, .int .i64 1]) ∧ Drawn0 w w' := by
  by_cases h : n < 1
  · have b1 : decide (n < 1) = true := decide_eq_true h
    clear hn h
    go_enter Try.func29, Try.ntmps29
    go_wp2
    go_ret2
    exact ⟨by rfl, by repeat (first | exact Drawn0.refl _ | apply Drawn0.step)⟩
  · have b1 : decide (n < 1) = false := decide_eq_false h
    have b2 : decide (7 < n) = true := decide_eq_true (by omega)
    clear hn h
    go_enter Try.func29, Try.ntmps29
    go_wp2
    go_ret2
    exact ⟨by rfl, by repeat (first | exact Drawn0.refl _ | apply Drawn0.step)⟩
set_option maxHeartbeats 400000 in
theorem RNew.at (n : Int) (w : World) (h1 : 1 ≤ n) (h2 : n ≤ 7) (ok : Nat → Prop) (hok : ¬ ok w.heap.size) : Calls Try.prog 29 #[.int .i64 n] w fun e w' => e = .returned (.tuple #[.pointer (some ⟨w.heap.size, 0, none⟩), .int .i64 0]) ∧ Ref w' w.heap.size w.heap.size ok n (.slice none 0 0) [] ∧ Below w.heap.size w w' := by
  have b1 : decide (n < 1) = false := decide_eq_false (by omega)
  have b2 : decide (7 < n) = false := decide_eq_false (by omega)
  clear h1 h2
  have HK := Aside0.mk hok
  clear hok
  go_enter Try.func29, Try.ntmps29
  go_wp2
  go_ret2
  exact ⟨by rfl, ⟨heap_alloc_new w _, Kd.R_nil _ _ _ _ _, Nat.le_refl _, HK.out⟩, below_alloc (Below.refl _ _) _⟩
/-- The time of ticks, and how far clock k went by them. -/
def sumT (L : List S44) : Int := L.foldl (fun a x => a + x.f0) 0
def sumOn (k : Int) (L : List S44) : Int := L.foldl (fun a x => a + rd x.f1 k) 0
theorem sumT_app (L : List S44) (x : S44) : sumT (L ++ [x]) = sumT L + x.f0 := by simp [sumT]
theorem sumOn_app (k : Int) (L : List S44) (x : S44) : sumOn k (L ++ [x]) = sumOn k L + rd x.f1 k := by simp [sumOn]
theorem rd44_take {L : List S44} {j : Nat} (h : j < L.length) : L.take (j + 1) = L.take j ++ [rd_T44 L j] := by
  rw [List.take_succ_eq_append_getElem h]
  congr 2
  unfold rd_T44
  rw [Int.toNat_natCast, List.getD_eq_getElem?_getD, List.getElem?_eq_getElem h]
  rfl
set_option maxHeartbeats 2000000 in
set_option maxRecDepth 100000 in
theorem RTime.at {B g : Nat} {ok : Nat → Prop} {n : Int} {v : Value} {L : List S44} (w : World) (h : Ref w B g ok n v L) (hl : L.length < 17592186044416) (hp : ∀ j, j ≤ L.length → 0 ≤ sumT (L.take j) ∧ sumT (L.take j) ≤ MaxC) :
    Calls Try.prog 34 #[.pointer (some ⟨g, 0, none⟩)] w fun e w' => e = .returned (.int .i64 (sumT L)) ∧ Drawn0 w w' := by
  obtain ⟨A, c, rfl, hc, h1, h2, h3⟩ := h.cells
  have HR := Aside0.mk h3
  have HL := Aside0.mk hl
  have HP := Aside0.mk hp
  have HD := Aside0.mk (Drawn0.refl w)
  clear h hc h3 hl hp
  go_enter Try.func34, Try.ntmps34
  go_wp2
  go_loopg [3, 4] L.length (fun kq v3 v4 w2 => ∃ (s x : Int), v3 = .int .i64 s ∧ v4 = .int .i64 x ∧ Aside0 (∃ j : Nat, x = (j : Int) ∧ j + kq = L.length ∧ s = sumT (L.take j)) ∧ Aside0 (Drawn0 w w2))
  case atStart => exact ⟨0, 0, rfl, rfl, ⟨0, rfl, by omega, by simp [sumT]⟩, HD⟩
  case round =>
    obtain ⟨s, x, rfl, rfl, HJ, HD⟩ := hrel
    obtain ⟨nq, rfl⟩ := HD.out
    cases gk with
    | zero =>
      have c0b : decide (x < (L.length : Int)) = false := decide_eq_false (by obtain ⟨j, e, hj, _⟩ := HJ.out; omega)
      have HE : Aside0 (s = sumT L) := ⟨by obtain ⟨j, e, hj, hs⟩ := HJ.out; rw [hs, List.take_of_length_le (by omega)]⟩
      go_wp2
      go_ret
      exact ⟨by rw [HE.out]; rfl, ⟨_, rfl⟩⟩
    | succ m =>
      have c0b : decide (x < (L.length : Int)) = true := decide_eq_true (by obtain ⟨j, e, hj, _⟩ := HJ.out; omega)
      have hx1 : IntKind.i64.wrap (x + 1) = x + 1 := by rw [i64_w]; unfold wrap64; obtain ⟨j, e, hj, _⟩ := HJ.out; have := HL.out; omega
      have c1 : 0 ≤ x := by obtain ⟨j, e, hj, _⟩ := HJ.out; omega
      have c2 : x < (L.length : Int) := by obtain ⟨j, e, hj, _⟩ := HJ.out; omega
      obtain ⟨ad, A1, c1', rfl, hx0, hx1', hl1, hi1⟩ := at_T44 HR.out x c1 c2
      have HS : Aside0 (∃ j : Nat, x + 1 = (j : Int) ∧ j + m = L.length ∧ s + (rd_T44 L x).f0 = sumT (L.take j)) := ⟨by
        obtain ⟨j, e, hj, hs⟩ := HJ.out
        exact ⟨j + 1, by omega, by omega, by rw [rd44_take (by omega), sumT_app, hs, e]⟩⟩
      have es : IntKind.i64.wrap (s + (rd_T44 L x).f0) = s + (rd_T44 L x).f0 := by
        obtain ⟨j, e, hj, hs⟩ := HS.out
        have := HP.out j (by omega)
        rw [hs, i64_w]; unfold wrap64; unfold MaxC at this; omega
      replace c1 := eq_true c1
      replace c2 := eq_true c2
      clear hi1 hl1
      go_wp2
      go_roundg m
      case measure => omega
      case rel => exact ⟨_, x + 1, rfl, rfl, HS, ⟨_, rfl⟩⟩
def rnow (n : Int) (L : List S44) (k : Int) : Int := if 0 ≤ k ∧ k < n then sumOn k L else 0
set_option maxHeartbeats 400000 in
theorem RNow.bad {B g : Nat} {ok : Nat → Prop} {n : Int} {v : Value} {L : List S44} (k : Int) (w : World) (h : Ref w B g ok n v L) (hk : ¬ (0 ≤ k ∧ k < n)) :
    Calls Try.prog 33 #[.pointer (some ⟨g, 0, none⟩), .int .i64 k] w fun e w' => e = .returned (.int .i64 0) ∧ Drawn0 w w' := by
  obtain ⟨A, c, rfl, hc, h1, h2, h3⟩ := h.cells
  clear h hc h3
  by_cases q : k < 0
  · have b1 : decide (k < 0) = true := decide_eq_true q
    clear hk q
    go_enter Try.func33, Try.ntmps33
    go_wp2
    go_ret
    exact ⟨by rfl, by repeat (first | exact Drawn0.refl _ | apply Drawn0.step)⟩
  · have b1 : decide (k < 0) = false := decide_eq_false q
    have b2 : decide (n ≤ k) = true := decide_eq_true (by omega)
    clear hk q
    go_enter Try.func33, Try.ntmps33
    go_wp2
    go_ret
    exact ⟨by rfl, by repeat (first | exact Drawn0.refl _ | apply Drawn0.step)⟩
set_option maxHeartbeats 4000000 in
set_option maxRecDepth 100000 in
theorem RNow.at {B g : Nat} {ok : Nat → Prop} {n : Int} {v : Value} {L : List S44} (k : Int) (w : World) (h : Ref w B g ok n v L) (hl : L.length < 17592186044416) (hk : 0 ≤ k ∧ k < n) (hn : ∀ x ∈ L, (x.f1.length : Int) = n) (hp : ∀ j, j ≤ L.length → 0 ≤ sumOn k (L.take j) ∧ sumOn k (L.take j) ≤ MaxC) :
    Calls Try.prog 33 #[.pointer (some ⟨g, 0, none⟩), .int .i64 k] w fun e w' => e = .returned (.int .i64 (sumOn k L)) ∧ Drawn0 w w' := by
  obtain ⟨A, c, rfl, hc, h1, h2, h3⟩ := h.cells
  have HR := Aside0.mk h3
  have HL := Aside0.mk hl
  have HP := Aside0.mk hp
  have HN := Aside0.mk hn
  have HK := Aside0.mk hk
  have HD := Aside0.mk (Drawn0.refl w)
  have b1 : decide (k < 0) = false := decide_eq_false (by omega)
  have b2 : decide (n ≤ k) = false := decide_eq_false (by omega)
  clear h hc h3 hl hp hn hk
  go_enter Try.func33, Try.ntmps33
  go_wp2
  go_loopg [5, 6] L.length (fun kq v5 v6 w2 => ∃ (s x : Int), v5 = .int .i64 s ∧ v6 = .int .i64 x ∧ Aside0 (∃ j : Nat, x = (j : Int) ∧ j + kq = L.length ∧ s = sumOn k (L.take j)) ∧ Aside0 (Drawn0 w w2))
  case atStart => exact ⟨0, 0, rfl, rfl, ⟨0, rfl, by omega, by simp [sumOn]⟩, HD⟩
  case round =>
    obtain ⟨s, x, rfl, rfl, HJ, HD⟩ := hrel
    obtain ⟨nq, rfl⟩ := HD.out
    cases gk with
    | zero =>
      have c0b : decide (x < (L.length : Int)) = false := decide_eq_false (by obtain ⟨j, e, hj, _⟩ := HJ.out; omega)
      have HE : Aside0 (s = sumOn k L) := ⟨by obtain ⟨j, e, hj, hs⟩ := HJ.out; rw [hs, List.take_of_length_le (by omega)]⟩
      go_wp2
      go_ret
      exact ⟨by rw [HE.out]; rfl, ⟨_, rfl⟩⟩
    | succ m =>
      have c0b : decide (x < (L.length : Int)) = true := decide_eq_true (by obtain ⟨j, e, hj, _⟩ := HJ.out; omega)
      have hx1 : IntKind.i64.wrap (x + 1) = x + 1 := by rw [i64_w]; unfold wrap64; obtain ⟨j, e, hj, _⟩ := HJ.out; have := HL.out; omega
      have c1 : 0 ≤ x := by obtain ⟨j, e, hj, _⟩ := HJ.out; omega
      have c2 : x < (L.length : Int) := by obtain ⟨j, e, hj, _⟩ := HJ.out; omega
      obtain ⟨ad, A1, c1', rfl, hx0, hx1', hl1, hi1⟩ := at_T44 HR.out x c1 c2
      have ho : ((rd_T44 L x).f1.length : Int) = n := HN.out _ (by
        unfold rd_T44
        rw [List.getD_eq_getElem?_getD, List.getElem?_eq_getElem (by omega)]
        exact List.getElem_mem _)
      have c3 : 0 ≤ k := HK.out.1
      have c4 : k < ((rd_T44 L x).f1.length : Int) := by have := HK.out; omega
      obtain ⟨ad2, rfl, hcell⟩ := Kd.at_int hi1 k c3 c4
      have HS : Aside0 (∃ j : Nat, x + 1 = (j : Int) ∧ j + m = L.length ∧ s + rd (rd_T44 L x).f1 k = sumOn k (L.take j)) := ⟨by
        obtain ⟨j, e, hj, hs⟩ := HJ.out
        exact ⟨j + 1, by omega, by omega, by rw [rd44_take (by omega), sumOn_app, hs, e]⟩⟩
      have es : IntKind.i64.wrap (s + rd (rd_T44 L x).f1 k) = s + rd (rd_T44 L x).f1 k := by
        obtain ⟨j, e, hj, hs⟩ := HS.out
        have := HP.out j (by omega)
        rw [hs, i64_w]; unfold wrap64; unfold MaxC at this; omega
      replace c1 := eq_true c1
      replace c2 := eq_true c2
      replace c3 := eq_true c3
      replace c4 := eq_true c4
      clear hi1 hl1 ho
      go_wp2
      go_roundg m
      case measure => omega
      case rel => exact ⟨_, x + 1, rfl, rfl, HS, ⟨_, rfl⟩⟩
theorem right_is (n : Int) : pannierref05_right.f n = some (tkB n) := by
  unfold pannierref05_right.f tkB
  by_cases h : n ≥ 0
  · rw [if_pos h, decide_eq_true (show 0 ≤ n from h)]; rfl
  · rw [if_neg h, decide_eq_false (show ¬ 0 ≤ n from h)]; rfl
theorem right.at (n : Int) (w : World) : Calls Try.prog 59 #[.int .i64 n] w fun e w' => e = .returned (.bool (tkB n)) ∧ Drawn0 w w' := pannierref05_right.calls n _ w (right_is n)
theorem drop_cons {l : List Int} {j : Nat} (h : j < l.length) : l.drop j = rd l j :: l.drop (j + 1) := by
  rw [List.drop_eq_getElem_cons h]
  congr 1
  unfold rd
  rw [Int.toNat_natCast, List.getD_eq_getElem?_getD, List.getElem?_eq_getElem h]
  rfl
set_option maxHeartbeats 2000000 in
theorem RK_l0 {t d : Int} {l : List Int} (hd : drB d = true) (ht : tkB t = true) (hl : l.length < 17592186044416) : ∀ (n j k : Nat), j + n = l.length → n < k → pannierref05_Keeps.l0 k t l d j = some ((l.drop j).all (fitB t d)) := by
  obtain ⟨d1, d2⟩ := drB_iff.mp hd
  obtain ⟨t1, t2⟩ := tkB_iff.mp ht
  have m1 : (1000 - d) * t ≤ 1000 * 1048576 := mul_le_of (by omega) t2 t1 (by omega)
  have m2 : (1000 + d) * t ≤ 1999 * 1048576 := mul_le_of (by omega) t2 t1 (by omega)
  have m3 : 0 ≤ (1000 - d) * t := Int.mul_nonneg (by omega) t1
  have m4 : 0 ≤ (1000 + d) * t := Int.mul_nonneg (by omega) t1
  have e1 : wrap64 (1000 - d) = 1000 - d := by unfold wrap64; omega
  have e2 : wrap64 (1000 + d) = 1000 + d := by unfold wrap64; omega
  have e3 : wrap64 ((1000 - d) * t) = (1000 - d) * t := by unfold wrap64; omega
  have e4 : wrap64 ((1000 + d) * t) = (1000 + d) * t := by unfold wrap64; omega
  intro n
  induction n with
  | zero =>
    intro j k hj hk
    obtain ⟨k, rfl⟩ : ∃ q, k = q + 1 := ⟨k - 1, by omega⟩
    clear m1 m2 m3 m4 e1 e2 e3 e4
    rw [pannierref05_Keeps.l0, if_neg (by omega), List.drop_eq_nil_of_le (by omega)]
    rfl
  | succ n ih =>
    intro j k hj hk
    obtain ⟨k, rfl⟩ : ∃ q, k = q + 1 := ⟨k - 1, by omega⟩
    have ej : wrap64 ((j : Int) + 1) = ((j + 1 : Nat) : Int) := by clear m1 m2 m3 m4 e1 e2 e3 e4 ih t1 t2 d1 d2; unfold wrap64; omega
    have hjl : j < l.length := by clear m1 m2 m3 m4 e1 e2 e3 e4 ih t1 t2 d1 d2; omega
    have hj1 : j + 1 + n = l.length := by clear m1 m2 m3 m4 e1 e2 e3 e4 ih t1 t2 d1 d2; omega
    have hk1 : n < k := by clear m1 m2 m3 m4 e1 e2 e3 e4 ih t1 t2 d1 d2; omega
    rw [pannierref05_Keeps.l0, if_pos (Int.ofNat_lt.mpr hjl), if_pos (Int.natCast_nonneg j), right_is, e1, e2, e3, e4, ej, ih (j + 1) k hj1 hk1, drop_cons hjl, List.all_cons]
    simp only [Option.bind_some]
    by_cases h : tkB (rd l j) = true
    · obtain ⟨a1, a2⟩ := tkB_iff.mp h
      have e5 : wrap64 (1000 * rd l j) = 1000 * rd l j := by clear m1 m2 m3 m4 e1 e2 e3 e4 ih t1 t2 d1 d2 ej hjl hj1 hk1; unfold wrap64; omega
      clear e1 e2 e3 e4 ih m1 m2 m3 m4 ej hj1 hk1
      rw [if_pos h, e5]
      unfold fitB
      rw [h]
      by_cases q1 : 1000 * rd l j < (1000 - d) * t
      · rw [if_pos q1, decide_eq_false (Int.not_le.mpr q1)]
        rfl
      · rw [if_neg q1, decide_eq_true (Int.not_lt.mp q1)]
        by_cases q2 : 1000 * rd l j > (1000 + d) * t
        · rw [if_pos q2, decide_eq_false (Int.not_le.mpr q2)]
          rfl
        · rw [if_neg q2, decide_eq_true (Int.not_lt.mp q2)]
          rfl
    · rw [if_neg h]
      have h : tkB (rd l j) = false := by simpa using h
      unfold fitB
      rw [h]
      rfl
theorem keepsB_neg' (t d : Int) (l : List Int) (h : drB d = false) : keepsB t l d = false := by unfold keepsB; rw [h]; rfl
theorem RKeepsF.at (t d : Int) (A0 : Option Addr) (c0 : Nat) (l0 : List Int) (w : World) (hr0 : Kd.C (Kd.int .i64) w A0 l0.length l0) (hc0 : l0.length ≤ c0) (hl : l0.length < 17592186044416) :
    Calls Try.prog 32 #[.int .i64 t, .slice A0 l0.length c0, .int .i64 d] w fun e w' => e = .returned (.bool (keepsB t l0 d)) ∧ Drawn0 w w' := by
  refine pannierref05_Keeps.calls (l0.length + 3) t A0 c0 l0 d _ w hr0 hc0 ?_
  unfold pannierref05_Keeps.f
  by_cases hd : drB d = true
  · obtain ⟨d1, d2⟩ := drB_iff.mp hd
    rw [if_neg (by omega), if_neg (by omega), right_is]
    simp only [Option.bind_some]
    rw [pannierref05_Keeps.j0]
    by_cases ht : tkB t = true
    · have := RK_l0 hd ht hl l0.length 0 (l0.length + 2) (by omega) (by omega)
      have e0 : ((0 : Nat) : Int) = 0 := rfl
      rw [e0, List.drop_zero] at this
      rw [ht, if_neg (by decide), this]
      unfold keepsB
      rw [hd, ht]
      rfl
    · have ht : tkB t = false := by simpa using ht
      rw [ht, if_pos (by decide)]
      unfold keepsB
      rw [hd, ht]
      rfl
  · have hd : drB d = false := by simpa using hd
    have q : ¬ (0 ≤ d ∧ d ≤ 999) := fun h => by rw [drB_iff.mpr h] at hd; exact absurd hd (by simp)
    rw [keepsB_neg' t d l0 hd]
    by_cases h1 : d < 0
    · rw [if_pos h1, pannierref05_Keeps.j0, if_pos rfl]
    · rw [if_neg h1, if_pos (by omega), pannierref05_Keeps.j0, if_pos rfl]
end Go.Proofs.Ytfmcpceilkkhfaa.P
