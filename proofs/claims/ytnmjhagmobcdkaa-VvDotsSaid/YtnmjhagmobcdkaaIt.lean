/- The iterator of Between: for every loop body that keeps its boxes and rows it goes over the dots, one by one. -/
import Derived.RangeFuncNested
import Derived.RangeFuncBound
import Derived.RangeFuncCalls
import Derived.RangeFuncLeaves
import Derived.Shelf.Abstract
import Derived.Shelf.RegionOpen
import Derived.WalkKit
import Derived.OwnWalkIn
import Derived.TacticsInMore
import Derived.LoopNIn
import Derived.LoopIn
import Derived.Sort.LoopGhostIn
import Derived.Sort.CutIn
import Derived.Test.YtnmjhagmobcdkaaTc
import Derived.Test.YtnmjhagmobcdkaaPm
namespace Go.Proofs.Ytnmjhagmobcdkaa.P
open Go.RowKit Go.Proofs.YtnmjhagmobcdkaaW.PrintWords Go.Proofs.YtnmjhagmobcdkaaW.PrintLast Go.Proofs.YtnmjhagmobcdkaaW.PrintMore
attribute [local go_sem] Oper.semAt_some
attribute [local go_sem] max2_int min2_int max_two min_two
set_option linter.unusedVariables false
set_option linter.unusedSimpArgs false
/-- How many dots of origin o the second list has and the first has not; and these. -/
def cntO (l0 l1 : List Int) (o : Nat) : Nat := (rd l1 o - mx (rd l0 o) 0).toNat
def dotsO (l0 l1 : List Int) (o : Nat) : List (Int × Int) := (List.range (cntO l0 l1 o)).map fun (k : Nat) => ((o : Int), mx (rd l0 o) 0 + (k : Int) + 1)
def dotsN (l0 l1 : List Int) (o : Nat) : List (Int × Int) := (List.range o).flatMap (dotsO l0 l1)
def dots (l0 l1 : List Int) : List (Int × Int) := dotsN l0 l1 l1.length
def dotsP (l0 l1 : List Int) (o k : Nat) : List (Int × Int) := dotsN l0 l1 o ++ (List.range k).map fun (k : Nat) => ((o : Int), mx (rd l0 o) 0 + (k : Int) + 1)
theorem dotsN_succ (l0 l1 : List Int) (o : Nat) : dotsN l0 l1 (o + 1) = dotsN l0 l1 o ++ dotsO l0 l1 o := by simp [dotsN, List.range_succ]
theorem dotsP_zero (l0 l1 : List Int) (o : Nat) : dotsP l0 l1 o 0 = dotsN l0 l1 o := by simp [dotsP]
theorem dotsP_succ (l0 l1 : List Int) (o k : Nat) : dotsP l0 l1 o (k + 1) = dotsP l0 l1 o k ++ [((o : Int), mx (rd l0 o) 0 + (k : Int) + 1)] := by simp [dotsP, List.range_succ]
theorem dotsP_all (l0 l1 : List Int) (o : Nat) : dotsP l0 l1 o (cntO l0 l1 o) = dotsN l0 l1 (o + 1) := by rw [dotsN_succ]; rfl
theorem dotsN_prefix (l0 l1 : List Int) {o p : Nat} (h : o ≤ p) : dotsN l0 l1 o <+: dotsN l0 l1 p := by
  induction p with
  | zero => obtain rfl : o = 0 := by omega
            exact List.prefix_refl _
  | succ p ih =>
    by_cases q : o ≤ p
    · rw [dotsN_succ]; exact (ih q).trans (List.prefix_append _ _)
    · obtain rfl : o = p + 1 := by omega
      exact List.prefix_refl _
theorem dotsP_prefix {l0 l1 : List Int} {o k : Nat} (ho : o < l1.length) (hk : k ≤ cntO l0 l1 o) : dotsP l0 l1 o k <+: dots l0 l1 := by
  refine List.IsPrefix.trans ?_ (dotsN_prefix l0 l1 (show o + 1 ≤ l1.length from ho))
  rw [dotsN_succ]
  unfold dotsP dotsO
  obtain ⟨d, hd⟩ : ∃ d, cntO l0 l1 o = k + d := ⟨cntO l0 l1 o - k, by omega⟩
  rw [hd, List.range_add, List.map_append, ← List.append_assoc]
  exact List.prefix_append _ _
def encD (d : Int × Int) : Array Value := #[.agg #[.int .i64 d.1, .int .i64 d.2]]
set_option maxHeartbeats 8000000 in
set_option maxRecDepth 100000 in
theorem Btw.in_ (n : Nat) (hn : 1 ≤ n) (T : Nat → Prop) (l0 l1 : List Int) (bx bz : Nat) (A0 A1 : Option Addr) (c0 c1 : Nat) (l : Nat) (J Jx : List (Int × Int) → World → Prop) (hJ : ∀ pre A B, J pre A → Drawn0 A B → J pre B)
    (hY : ∀ pre x W, J pre W → pre.length < (dots l0 l1).length → YieldAt Fence.wide (n - 1) Try.prog l (encD x) W fun e W' => (e = .returned (.bool true) ∧ J (pre ++ [x]) W' ∧ Kept W W' T) ∨ (e = .returned (.bool false) ∧ Jx (pre ++ [x]) W'))
    (W : World) (hx : W.cell? ⟨bx, 0, none⟩ = some (.slice A0 l0.length c0)) (hz : W.cell? ⟨bz, 0, none⟩ = some (.slice A1 l1.length c1)) (hTx : ¬ T bx) (hTz : ¬ T bz) (hc0 : l0.length ≤ c0)
    (hr0 : ∀ W', Kept W W' T → Kd.C (Kd.int .i64) W' A0 l0.length l0) (hr1 : ∀ W', Kept W W' T → Kd.C (Kd.int .i64) W' A1 l1.length l1) (hl1 : l1.length < 17592186044416) (hwf : ∀ x ∈ l1, x ≤ 9223372036854775807) (h0 : J [] W) :
    CallsIn Fence.wide n Try.prog 39 #[.func (.yield l) #[] #[], .pointer (some ⟨bz, 0, none⟩), .pointer (some ⟨bx, 0, none⟩)] W fun e W' => (∃ v, e = .returned v) ∧ (J (dots l0 l1) W' ∨ (∃ pre, pre <+: dots l0 l1 ∧ Jx pre W')) := by
  have HJ0 := Aside0.mk hJ
  have HY := Aside0.mk hY
  have HX := Aside0.mk hx
  have HT := Aside0.mk (And.intro hTx hTz)
  have HC := Aside0.mk hc0
  have HR0 := Aside0.mk hr0
  have HR1 := Aside0.mk hr1
  have HL := Aside0.mk hl1
  have HW := Aside0.mk hwf
  have H0 := Aside0.mk h0
  clear hJ hY hx hTx hTz hc0 hr0 hr1 hl1 hwf h0
  refine callsIn_of_wp Try.func39 rfl trivial ?_ rfl
  simp only [Try.ntmps39, List.size_toArray, List.length_cons, List.length_nil, Nat.reduceAdd, Nat.reduceSub, Array.replicate_succ, Array.replicate_zero, List.push_toArray, List.append_toArray, List.nil_append, List.cons_append]
  gi_wp2
  clear hz
  gi_loopg [9] l1.length (fun kq v9 wr => ∃ x : Int, v9 = .int .i64 x ∧ Aside0 (∃ o : Nat, x = (o : Int) ∧ o + kq = l1.length ∧ J (dotsN l0 l1 o) wr) ∧ Aside0 (Kept W wr T))
  case atStart => exact ⟨0, rfl, ⟨0, rfl, by omega, H0.out⟩, ⟨Kept.refl _ _⟩⟩
  case round =>
    obtain ⟨x, rfl, HO, HK⟩ := hrel
    cases gk with
    | zero =>
      have c0b : decide (x < (l1.length : Int)) = false := decide_eq_false (by obtain ⟨o, e, h, _⟩ := HO.out; omega)
      have HE : Aside0 (J (dots l0 l1) wr) := ⟨by
        obtain ⟨o, e, h, hj⟩ := HO.out
        have e : o = l1.length := by omega
        rw [e] at hj
        exact hj⟩
      gi_wp2
      go_end0
      exact ⟨⟨_, rfl⟩, .inl HE.out⟩
    | succ m =>
      have c0b : decide (x < (l1.length : Int)) = true := decide_eq_true (by obtain ⟨o, e, h, _⟩ := HO.out; omega)
      have hx1 : IntKind.i64.wrap (x + 1) = x + 1 := by rw [i64_w]; unfold wrap64; obtain ⟨o, e, h, _⟩ := HO.out; have := HL.out; omega
      have p0 : 0 ≤ x := by obtain ⟨o, e, h, _⟩ := HO.out; omega
      have p1 : x < (l1.length : Int) := by obtain ⟨o, e, h, _⟩ := HO.out; omega
      obtain ⟨ad, rfl, q0⟩ := Kd.at_int (HR1.out _ HK.out) x p0 p1
      have q1 := Go.Proofs.YtnmjhagmobcdkaaW.PrintWords.cell_kept HX.out HK.out HT.out.1
      have HOf : Aside0 (Calls Try.prog 30 #[.slice A0 l0.length c0, .int .i64 x] wr fun e w' => e = .returned (.int .i64 (rd l0 x)) ∧ Drawn0 wr w') := ⟨vv_Of.calls A0 c0 l0 x (rd l0 x) wr (HR0.out _ HK.out) HC.out (vv_Of.nat l0 x p0)⟩
      obtain ⟨B, eB⟩ : ∃ B, B = mx (rd l0 x) 0 := ⟨_, rfl⟩
      obtain ⟨E, eE⟩ : ∃ E, E = rd l1 x := ⟨_, rfl⟩
      have HBE := Aside0.mk eB
      obtain ⟨o, HOo⟩ : ∃ o : Nat, Aside0 (x = (o : Int) ∧ o + (m + 1) = l1.length ∧ J (dotsN l0 l1 o) wr) := by obtain ⟨o, h⟩ := HO.out; exact ⟨o, ⟨h⟩⟩
      have HCn : Aside0 (cntO l0 l1 o = (E - B).toNat ∧ B = mx (rd l0 o) 0) := ⟨by rw [eB, eE, HOo.out.1]; exact ⟨rfl, rfl⟩⟩
      have HEw : Aside0 (E ≤ 9223372036854775807 ∧ 0 ≤ B) := ⟨by
        constructor
        · rw [eE]
          unfold rd
          rw [List.getD_eq_getElem?_getD, List.getElem?_eq_getElem (by omega)]
          exact HW.out _ (List.getElem_mem _)
        · rw [eB]; unfold mx; split <;> omega⟩
      rw [← eE] at q0
      clear eB eE HO
      replace p0 := eq_true p0
      replace p1 := eq_true p1
      gi_wp2_with (first
        | (gi_at_call 30; refine (callsIn_wide.2 HOf.out).mono ?_; rintro e w' ⟨rfl, hd⟩; have HD := Aside0.mk hd; clear hd HOf)
        | (refine ⟨trivial, ?_⟩; gi_at_call 30; refine (callsIn_wide.2 HOf.out).mono ?_; rintro e w' ⟨rfl, hd⟩; have HD := Aside0.mk hd; clear hd HOf))
      all_goals
        have HJ2 := Aside0.mk (HJ0.out _ _ _ HOo.out.2.2 HD.out)
        have HK2 : Aside0 (Kept W w' T) := ⟨HK.out.below (Drawn0.below HD.out)⟩
        clear HK HD
        gi_loopg [6] (cntO l0 l1 o) (fun kq v6 wi => ∃ y : Int, v6 = .int .i64 y ∧ Aside0 (∃ k : Nat, y = B + (k : Int) ∧ k + kq = cntO l0 l1 o ∧ J (dotsP l0 l1 o k) wi) ∧ Aside0 (Kept W wi T))
        case atStart => exact ⟨_, rfl, ⟨0, by rw [HBE.out]; unfold mx; split <;> omega, by omega, by rw [dotsP_zero]; exact HJ2.out⟩, HK2⟩
        case round =>
          clear HJ2 HK2
          obtain ⟨y, rfl, HY2, HK⟩ := hrel
          cases gk with
          | zero =>
            have c1b : decide (y < E) = false := decide_eq_false (by
              obtain ⟨k, e, h, _⟩ := HY2.out
              have := HCn.out.1
              omega)
            have HJ3 : Aside0 (J (dotsN l0 l1 (o + 1)) wr) := ⟨by
              obtain ⟨k, e, h, hj⟩ := HY2.out
              have e2 : k = cntO l0 l1 o := by omega
              rw [e2, dotsP_all] at hj
              exact hj⟩
            gi_wp2
            gi_roundg m
            case measure => omega
            case rel => exact ⟨x + 1, rfl, ⟨o + 1, by have := HOo.out.1; omega, by have := HOo.out.2.1; omega, HJ3.out⟩, HK⟩
          | succ j =>
            have c1b : decide (y < E) = true := decide_eq_true (by
              obtain ⟨k, e, h, _⟩ := HY2.out
              have := HCn.out.1
              omega)
            have es : IntKind.i64.wrap (y + 1) = y + 1 := by rw [i64_w]; unfold wrap64; obtain ⟨k, e, h, _⟩ := HY2.out; have := HCn.out.1; have := HEw.out; omega
            obtain ⟨k, HKk⟩ : ∃ k : Nat, Aside0 (y = B + (k : Int) ∧ k + (j + 1) = cntO l0 l1 o ∧ J (dotsP l0 l1 o k) wr) := by obtain ⟨k, h⟩ := HY2.out; exact ⟨k, ⟨h⟩⟩
            clear HY2
            have HP : Aside0 (dotsP l0 l1 o k ++ [(x, y + 1)] <+: dots l0 l1) := ⟨by
              have := dotsP_prefix (l0 := l0) (l1 := l1) (o := o) (k := k + 1) (by have := HOo.out.2.1; omega) (by have := HKk.out.2.1; omega)
              rw [dotsP_succ, ← HOo.out.1, ← HBE.out, ← HKk.out.1] at this
              exact this⟩
            have HPe : Aside0 (dotsP l0 l1 o (k + 1) = dotsP l0 l1 o k ++ [(x, y + 1)]) := ⟨by rw [dotsP_succ, ← HOo.out.1, ← HBE.out, ← HKk.out.1]⟩
            obtain ⟨fn, tmps, assign, body, hy, hR⟩ := HY.out _ (x, y + 1) wr HKk.out.2.2 (by have := HP.out.length_le; rw [List.length_append, List.length_singleton] at this; omega)
            dsimp only [encD] at hy
            gi_wp2
            refine hR.mono ?_
            rintro e W3 (⟨rfl, hJ3, hk3⟩ | ⟨rfl, hJx3⟩)
            · have HJ4 := Aside0.mk hJ3
              have HK4 : Aside0 (Kept W W3 T) := ⟨HK.out.then_ hk3 (fun _ h => .inl h)⟩
              clear hJ3 hk3 hy hR
              gi_wp2
              gi_roundg j
              case measure => omega
              case rel => exact ⟨y + 1, rfl, ⟨k + 1, by have := HKk.out.1; omega, by have := HKk.out.2.1; omega, by rw [HPe.out]; exact HJ4.out⟩, HK4⟩
            · have HJ4 := Aside0.mk hJx3
              clear hJx3 hy hR
              gi_wp2
              refine bodyPost_ret (results_none rfl _ _ _) rfl ?_
              exact ⟨⟨_, rfl⟩, .inr ⟨_, HP.out, HJ4.out⟩⟩
theorem Btw.stops (n : Nat) (hn : 1 ≤ n) (T : Nat → Prop) (l0 l1 : List Int) (bx bz : Nat) (A0 A1 : Option Addr) (c0 c1 : Nat) (w : World) (hx : w.cell? ⟨bx, 0, none⟩ = some (.slice A0 l0.length c0)) (hz : w.cell? ⟨bz, 0, none⟩ = some (.slice A1 l1.length c1)) (hTx : ¬ T bx) (hTz : ¬ T bz) (hc0 : l0.length ≤ c0)
    (hr0 : ∀ W', Kept w W' T → Kd.C (Kd.int .i64) W' A0 l0.length l0) (hr1 : ∀ W', Kept w W' T → Kd.C (Kd.int .i64) W' A1 l1.length l1) (hl1 : l1.length < 17592186044416) (hwf : ∀ x ∈ l1, x ≤ 9223372036854775807) :
    SeqStopsK Fence.wide n Try.prog 39 #[.pointer (some ⟨bz, 0, none⟩), .pointer (some ⟨bx, 0, none⟩)] encD (fun A B => Kept A B T) (fun xs => xs = dots l0 l1) (fun pre => pre <+: dots l0 l1) (dots l0 l1).length w := fun l J Jx W hW hJ _ hY h0 => by
  have hk : Kept w W T := Kept.of_below hW T
  refine (Btw.in_ n hn T l0 l1 bx bz A0 A1 c0 c1 l J Jx (fun pre A B hj hd => hJ pre A B none hj ⟨(Drawn0.below hd).os, (Drawn0.below hd).tape, (Drawn0.below hd).output, (Drawn0.below hd).size, fun i hi _ => (Drawn0.below hd).block i hi⟩ (fun r e => by cases e)) hY W (Go.Proofs.YtnmjhagmobcdkaaW.PrintWords.cell_kept hx hk hTx) (Go.Proofs.YtnmjhagmobcdkaaW.PrintWords.cell_kept hz hk hTz) hTx hTz hc0
    (Kd.C_kept_step hr0 hk) (Kd.C_kept_step hr1 hk) hl1 hwf h0).mono ?_
  rintro e W' ⟨he, hj | ⟨pre, hp, hj⟩⟩
  · exact ⟨he, .inl ⟨_, rfl, hj⟩⟩
  · exact ⟨he, .inr ⟨pre, hp, hj⟩⟩
end Go.Proofs.Ytnmjhagmobcdkaa.P
