/- Check in plain words. -/
import Derived.Test.YtmijalplheoekaaLe
namespace Go.Proofs.Ytmijalplheoekaa.P
open Go.RowKit Go.Maps Go.WideMaps Go.Proofs.YtmijalplheoekaaW.PrintWords Go.Proofs.YtmijalplheoekaaW.PrintLast Go.Proofs.YtmijalplheoekaaW.PrintMore
attribute [local go_sem] max2_int min2_int max_two min_two max_three min_three max_four min_four
set_option linter.unusedVariables false
set_option linter.unusedSimpArgs false
theorem rowB_cons (L : List (Sn (List UInt8))) (t : List UInt8) (ts : List (List UInt8)) (i most : Int) : rowB L (t :: ts) i most = if decide (MT ≤ first L t) || decide (last L t i < max most (first L t)) then false else rowB L ts (i + 1) (max most (first L t)) := rfl
theorem toks_drop {l : List ByteArray} {j : Nat} (h : j < l.length) : (toks l).drop j = (rdOf ByteArray.empty l (j : Int)).toList :: (toks l).drop (j + 1) := by
  have hl : j < (toks l).length := by unfold toks; rw [List.length_map]; exact h
  rw [List.drop_eq_getElem_cons hl, rdOf_get h]
  congr 1
  simp [toks]
/-- What Check is handed. -/
structure CkArg (w : World) (A0 : Option Addr) (c0 : Nat) (l0 : List S31) (A1 : Option Addr) (c1 : Nat) (l1 : List ByteArray) : Prop where
  r0 : Kd.C k31 w A0 l0.length l0
  r1 : Kd.C Kd.string w A1 l1.length l1
  c0 : l0.length ≤ c0
  n0 : l0.length < 17592186044416
  n1 : l1.length < 17592186044416
  s0 : ∀ x ∈ l0, x.f1.size ≤ maxLen
  s1 : ∀ t ∈ l1, t.size ≤ maxLen
theorem CkArg.below {w w' : World} {A0 A1 : Option Addr} {c0 c1 : Nat} {l0 : List S31} {l1 : List ByteArray} (h : CkArg w A0 c0 l0 A1 c1 l1) (hb : Below w.heap.size w w') : CkArg w' A0 c0 l0 A1 c1 l1 := { h with r0 := Kd.C_below h.r0 hb, r1 := Kd.C_below h.r1 hb }
set_option maxHeartbeats 8000000 in
set_option maxRecDepth 100000 in
theorem Check.at (A0 : Option Addr) (c0 : Nat) (l0 : List S31) (A1 : Option Addr) (c1 : Nat) (l1 : List ByteArray) (w : World) (h : CkArg w A0 c0 l0 A1 c1 l1) :
    Calls Try.prog 9 #[.slice A0 l0.length c0, .slice A1 l1.length c1] w fun e w' => e = .returned (.int .i64 (checkC (l0.map toSn) (toks l1) 1 250)) ∧ Below w.heap.size w w' := by
  have HH := Aside0.mk h
  clear h
  obtain ⟨rc, erc⟩ : ∃ rc, checkC (l0.map toSn) (toks l1) 1 250 = rc := ⟨_, rfl⟩
  rw [erc]
  obtain ⟨p1, ep1⟩ : ∃ p1, l0.any (fun a => !rightB (toSn a)) = p1 := ⟨_, rfl⟩
  obtain ⟨p2, ep2⟩ : ∃ p2, l1.any (twB l1) = p2 := ⟨_, rfl⟩
  obtain ⟨p3, ep3⟩ : ∃ p3, l0.any (fun a => wrongB (toks l1) (toSn a)) = p3 := ⟨_, rfl⟩
  obtain ⟨p4, ep4⟩ : ∃ p4, rowB (l0.map toSn) (toks l1) 1 0 = p4 := ⟨_, rfl⟩
  have HE : Aside0 (rc = if p1 || p2 then 1 else if p3 then 250 else if p4 then 0 else 250) := ⟨by
    rw [← erc, ← ep1, ← ep2, ← ep3, ← ep4, twB_any]
    unfold checkC
    rw [List.any_map, List.any_map]
    rfl⟩
  have H1 : Aside0 (∀ W, Below w.heap.size w W → Calls Try.prog 14 #[.slice A0 l0.length c0, .func (.func 15) #[] #[]] W fun e w' => e = .returned (.bool p1) ∧ Below W.heap.size W w') := ⟨fun W hb => by
    rw [← ep1]
    exact ContainsRight (b := 0) (fun a => !rightB (toSn a)) A0 c0 l0 W (Kd.C_below HH.out.r0 hb) HH.out.n0 (fun a _ w' _ => notRight.at a w')⟩
  have H2 : Aside0 (∀ (b : Nat) W, Below w.heap.size w W → W.cell? ⟨b, 0, none⟩ = some (.slice A1 l1.length c1) → Calls Try.prog 17 #[.slice A1 l1.length c1, .func (.func 13) #[] #[.pointer (some ⟨b, 0, none⟩)]] W fun e w' => e = .returned (.bool p2) ∧ Below W.heap.size W w') := ⟨fun b W hb hc => by
    rw [← ep2]
    exact ContainsToks (b := b) (twB l1) A1 c1 l1 W (Kd.C_below HH.out.r1 hb) HH.out.n1 (fun a _ w' hb' => twice.at A1 c1 l1 a w' (pw_cell_below hb' hc) (Kd.C_below (Kd.C_below HH.out.r1 hb) hb') HH.out.n1)⟩
  have H3 : Aside0 (∀ W, Below w.heap.size w W → Calls Try.prog 12 #[.slice A0 l0.length c0, .slice A1 l1.length c1] W fun e w' => e = .returned (.bool (!p3)) ∧ Below W.heap.size W w') := ⟨fun W hb => by
    rw [← ep3]
    exact Ids.at A0 c0 l0 A1 c1 l1 W (Kd.C_below HH.out.r0 hb) (Kd.C_below HH.out.r1 hb) HH.out.n0 HH.out.n1 HH.out.s0 HH.out.s1⟩
  have H4 : Aside0 (rowB (l0.map toSn) (toks l1) 1 0 = p4) := ⟨ep4⟩
  clear erc ep1 ep2 ep3 ep4
  obtain ⟨b3, eb3⟩ : ∃ b3, w.heap.size = b3 := ⟨_, rfl⟩
  obtain ⟨w1, ew1⟩ : ∃ w1, w.alloc (.cells #[.slice A1 l1.length c1] 23) = w1 := ⟨_, rfl⟩
  have X3 : w1.heap[b3]? = some (.cells #[.slice A1 l1.length c1] 23 (0, 0)) := by rw [← ew1, ← eb3]; exact blk_new _ _
  have HB : Aside0 (Below w.heap.size w w1) := ⟨by rw [← ew1]; exact below_alloc (Below.refl _ _) _⟩
  have q3 : w1.cell? ⟨b3, 0, none⟩ = some (.slice A1 l1.length c1) := (blk_cell X3 0).trans rfl
  have HBo : Aside0 (w.heap.size = b3) := ⟨eb3⟩
  clear X3
  go_enter Try.func9, Try.ntmps9
  go_upto_region 2 with (fail)
  try simp only [ew1, eb3]
  clear ew1 eb3
  go_wp2_with fail
  refine (H1.out _ HB.out).mono ?_
  rintro e w2 ⟨rfl, hb⟩
  replace q3 := pw_cell_below hb q3
  replace HB := Aside0.mk (below_step HB.out hb)
  clear hb
  cases p1 with
  | true =>
    go_wp2
    go_ret
    exact ⟨by rw [HE.out]; rfl, by first | exact HB.out | (rw [← HBo.out]; exact HB.out)⟩
  | false =>
  go_wp2_with fail
  refine (H2.out b3 _ HB.out q3).mono ?_
  rintro e w3 ⟨rfl, hb⟩
  replace q3 := pw_cell_below hb q3
  replace HB := Aside0.mk (below_step HB.out hb)
  clear hb
  cases p2 with
  | true =>
    go_wp2
    go_ret
    exact ⟨by rw [HE.out]; rfl, by first | exact HB.out | (rw [← HBo.out]; exact HB.out)⟩
  | false =>
  go_wp2_with fail
  refine (H3.out _ HB.out).mono ?_
  rintro e w4 ⟨rfl, hb⟩
  replace q3 := pw_cell_below hb q3
  replace HB := Aside0.mk (below_step HB.out hb)
  clear hb
  cases p3 with
  | true =>
    go_wp2
    go_ret
    exact ⟨by rw [HE.out]; rfl, by first | exact HB.out | (rw [← HBo.out]; exact HB.out)⟩
  | false =>
  go_wp2
  go_loopg [6, 25] l1.length (fun kq v6 v25 w' => ∃ y x : Int, v6 = .int .i64 y ∧ v25 = .int .i64 x ∧ Aside0 (∃ j : Nat, x = (j : Int) ∧ j + kq = l1.length ∧ rowB (l0.map toSn) ((toks l1).drop j) (x + 1) y = p4) ∧ Aside0 (Below w.heap.size w w'))
  case atStart => exact ⟨0, 0, rfl, rfl, ⟨0, rfl, by omega, by rw [List.drop_zero]; exact H4.out⟩, HB⟩
  case round =>
    obtain ⟨y, x, rfl, rfl, HJ, HB⟩ := hrel
    cases gk with
    | zero =>
      have c0b : decide (x < (l1.length : Int)) = false := decide_eq_false (by obtain ⟨j, e, hj, _⟩ := HJ.out; omega)
      have HA : Aside0 (p4 = true) := ⟨by
        obtain ⟨j, e, hj, ha⟩ := HJ.out
        rw [List.drop_of_length_le (by unfold toks; rw [List.length_map]; omega)] at ha
        rw [← ha]; rfl⟩
      clear HJ
      go_wp2
      go_ret
      exact ⟨by rw [HE.out, HA.out]; rfl, by first | exact HB.out | (rw [← HBo.out]; exact HB.out)⟩
    | succ m =>
      have c0b : decide (x < (l1.length : Int)) = true := decide_eq_true (by obtain ⟨j, e, hj, _⟩ := HJ.out; omega)
      have hx1 : IntKind.i64.wrap (x + 1) = x + 1 := by rw [i64_w]; unfold wrap64; obtain ⟨j, e, hj, _⟩ := HJ.out; have := HH.out.n1; omega
      have c1 : 0 ≤ x := by obtain ⟨j, e, hj, _⟩ := HJ.out; omega
      have c2 : x < (l1.length : Int) := by obtain ⟨j, e, hj, _⟩ := HJ.out; omega
      obtain ⟨ad, e129, hx129⟩ := Kd.at_string (Kd.C_below HH.out.r1 HB.out) x c1 c2
      obtain ⟨t, et⟩ : ∃ t, rdOf ByteArray.empty l1 x = t := ⟨_, rfl⟩
      obtain ⟨F, eF⟩ : ∃ F, first (l0.map toSn) t.toList = F := ⟨_, rfl⟩
      obtain ⟨L, eL⟩ : ∃ L, last (l0.map toSn) t.toList (x + 1) = L := ⟨_, rfl⟩
      have HBd : Aside0 (Calls Try.prog 11 #[.slice A0 l0.length c0, .string t, .int .i64 (x + 1)] wr fun e w' => e = .returned (.tuple #[.int .i64 F, .int .i64 L]) ∧ Below wr.heap.size wr w') := ⟨by
        rw [← eF, ← eL]
        exact Bounds.at A0 c0 l0 t (x + 1) wr (Kd.C_below HH.out.r0 HB.out) HH.out.c0 HH.out.n0⟩
      have HC : Aside0 (∃ j : Nat, x = (j : Int) ∧ j + (m + 1) = l1.length ∧ (if decide (4611686018427387904 ≤ F) || decide (L < mx y F) then false else rowB (l0.map toSn) ((toks l1).drop (j + 1)) (x + 1 + 1) (mx y F)) = p4) := ⟨by
        obtain ⟨j, e, hj, ha⟩ := HJ.out
        refine ⟨j, e, hj, ?_⟩
        rw [toks_drop (by omega), ← e, et, rowB_cons, eF, eL] at ha
        rw [mx_max]
        exact ha⟩
      clear HJ eF eL
      rw [et] at hx129
      clear et
      cases e129
      replace c1 := eq_true c1
      replace c2 := eq_true c2
      go_wp2_with fail
      refine HBd.out.mono ?_
      rintro e w5 ⟨rfl, hb⟩
      have HB2 := Aside0.mk (below_step HB.out hb)
      clear hb hx129
      by_cases k1 : 4611686018427387904 ≤ F
      · have d1 : decide (4611686018427387904 ≤ F) = true := decide_eq_true k1
        have HP : Aside0 (p4 = false) := ⟨by
          obtain ⟨j, _, _, ha⟩ := HC.out
          rw [d1, Bool.true_or, if_pos rfl] at ha
          exact ha.symm⟩
        clear k1
        by_cases q : y < F
        · go_wp2
          go_ret
          exact ⟨by rw [HE.out, HP.out]; rfl, by first | exact HB2.out | (rw [← HBo.out]; exact HB2.out)⟩
        · go_wp2
          go_ret
          exact ⟨by rw [HE.out, HP.out]; rfl, by first | exact HB2.out | (rw [← HBo.out]; exact HB2.out)⟩
      · have d1 : decide (4611686018427387904 ≤ F) = false := decide_eq_false k1
        by_cases q : y < F
        · have eM : mx y F = F := by unfold mx; rw [if_pos q]
          rw [eM] at HC
          clear eM
          by_cases k2 : L < F
          · have d2 : decide (L < F) = true := decide_eq_true k2
            have HP : Aside0 (p4 = false) := ⟨by
              obtain ⟨j, _, _, ha⟩ := HC.out
              rw [d2, Bool.or_true, if_pos rfl] at ha
              exact ha.symm⟩
            clear k1 k2
            go_wp2
            go_ret
            exact ⟨by rw [HE.out, HP.out]; rfl, by first | exact HB2.out | (rw [← HBo.out]; exact HB2.out)⟩
          · have d2 : decide (L < F) = false := decide_eq_false k2
            have HC2 : Aside0 (∃ j : Nat, x = (j : Int) ∧ j + (m + 1) = l1.length ∧ rowB (l0.map toSn) ((toks l1).drop (j + 1)) (x + 1 + 1) F = p4) := ⟨by
              obtain ⟨j, e, hj, ha⟩ := HC.out
              rw [d1, d2, Bool.false_or, if_neg (by simp)] at ha
              exact ⟨j, e, hj, ha⟩⟩
            clear k1 k2 HC
            go_wp2
            go_roundg m
            case measure => omega
            case rel => exact ⟨F, x + 1, rfl, rfl, ⟨by
              obtain ⟨j, e, hj, ha⟩ := HC2.out
              exact ⟨j + 1, by omega, by omega, ha⟩⟩, HB2⟩
        · have eM : mx y F = y := by unfold mx; rw [if_neg q]
          rw [eM] at HC
          clear eM
          by_cases k2 : L < y
          · have d2 : decide (L < y) = true := decide_eq_true k2
            have HP : Aside0 (p4 = false) := ⟨by
              obtain ⟨j, _, _, ha⟩ := HC.out
              rw [d2, Bool.or_true, if_pos rfl] at ha
              exact ha.symm⟩
            clear k1 k2
            go_wp2
            go_ret
            exact ⟨by rw [HE.out, HP.out]; rfl, by first | exact HB2.out | (rw [← HBo.out]; exact HB2.out)⟩
          · have d2 : decide (L < y) = false := decide_eq_false k2
            have HC2 : Aside0 (∃ j : Nat, x = (j : Int) ∧ j + (m + 1) = l1.length ∧ rowB (l0.map toSn) ((toks l1).drop (j + 1)) (x + 1 + 1) y = p4) := ⟨by
              obtain ⟨j, e, hj, ha⟩ := HC.out
              rw [d1, d2, Bool.false_or, if_neg (by simp)] at ha
              exact ⟨j, e, hj, ha⟩⟩
            clear k1 k2 HC
            go_wp2
            go_roundg m
            case measure => omega
            case rel => exact ⟨y, x + 1, rfl, rfl, ⟨by
              obtain ⟨j, e, hj, ha⟩ := HC2.out
              exact ⟨j + 1, by omega, by omega, ha⟩⟩, HB2⟩
end Go.Proofs.Ytmijalplheoekaa.P
