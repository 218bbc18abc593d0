/- The statement LeaseDoes: the law behind it. -/
import Derived.Test.YtfmcpceilkkhfaaRs
import Derived.Test.YtfmcpceilkkhfaaOp
namespace Go.Proofs.Ytfmcpceilkkhfaa.P
open Go.RowKit Go.Proofs.YtfmcpceilkkhfaaW.PrintWords Go.Proofs.YtfmcpceilkkhfaaW.PrintLast Go.Proofs.YtfmcpceilkkhfaaW.PrintMore
set_option linter.unusedVariables false
set_option linter.unusedSimpArgs false
def z65 : O5 := ⟨0, 0, 0, 0, 0⟩
def rd65 (xs : List O5) (i : Int) : O5 := xs.getD i.toNat z65
theorem at_T65 {w : World} {A : Option Addr} {n : Nat} {xs : List O5} (h : Kd.C k65 w A n xs) (i : Int) (h0 : 0 ≤ i) (h1 : i < n) : ∃ ad, A = some ad ∧ w.cell? (ad.add (i.toNat * 5)) = some (.int .i64 (rd65 xs i).kd) ∧ w.cell? ⟨(ad.add (i.toNat * 5)).block, (ad.add (i.toNat * 5)).off + 1, none⟩ = some (.int .i64 (rd65 xs i).nd) ∧ w.cell? ⟨(ad.add (i.toNat * 5)).block, (ad.add (i.toNat * 5)).off + 2, none⟩ = some (.int .i64 (rd65 xs i).n) ∧ w.cell? ⟨(ad.add (i.toNat * 5)).block, (ad.add (i.toNat * 5)).off + 3, none⟩ = some (.int .i64 (rd65 xs i).b0) ∧ w.cell? ⟨(ad.add (i.toNat * 5)).block, (ad.add (i.toNat * 5)).off + 4, none⟩ = some (.int .i64 (rd65 xs i).b1) := by
  obtain ⟨ad, c, e, _, hK, hc0⟩ := Kd.C_get h z65 i h0 h1
  have hc : ∀ j u, c[j]? = some u → w.cell? (ad.add (i.toNat * 5 + j)) = some u := hc0
  have e5 := k65_open hK
  subst e5
  exact ⟨ad, e, hc 0 _ rfl, by rw [← add_field _ _ 1 (by omega)]; exact hc 1 _ rfl, by rw [← add_field _ _ 2 (by omega)]; exact hc 2 _ rfl, by rw [← add_field _ _ 3 (by omega)]; exact hc 3 _ rfl, by rw [← add_field _ _ 4 (by omega)]; exact hc 4 _ rfl⟩
/-- Grants, as the lease and as the reference keep them. -/
structure LR (n : Int) (asked : List Int) (G : List (Bool × Int)) : Prop where
  len : (asked.length : Int) = n
  gl : G.length = 7
  le : n ≤ 7
  at_ : ∀ i : Nat, i < asked.length → rd asked i = if (gd G i).1 = true then (gd G i).2 else -1
  ok : ∀ i : Nat, (gd G i).1 = true → i < asked.length ∧ 0 ≤ (gd G i).2 ∧ (gd G i).2 ≤ MaxC
theorem gd_set (G : List (Bool × Int)) (i j : Nat) (p : Bool × Int) (h : i < G.length) : gd (G.set i p) j = if j = i then p else gd G j := by
  unfold gd
  rw [List.getD_eq_getElem?_getD, List.getElem?_set]
  by_cases q : i = j
  · subst q; simp [h]
  · rw [if_neg q, if_neg (fun e => q e.symm), List.getD_eq_getElem?_getD]
theorem gd_rep (m i : Nat) : gd (List.replicate m (false, 0)) i = (false, 0) := by
  unfold gd
  rw [List.getD_eq_getElem?_getD, List.getElem?_replicate]
  split <;> rfl
theorem rd_rep1 (m i : Nat) (h : i < m) : rd (List.replicate m (-1)) i = -1 := by
  unfold rd
  rw [Int.toNat_natCast, List.getD_eq_getElem?_getD, List.getElem?_replicate, if_pos h]
  rfl
theorem LR.new (n : Int) (h1 : 1 ≤ n) (h7 : n ≤ 7) : LR n (List.replicate n.toNat (-1)) (List.replicate 7 (false, 0)) :=
  ⟨by rw [List.length_replicate]; omega, by simp, h7, fun i hi => by rw [List.length_replicate] at hi; rw [rd_rep1 _ _ hi, gd_rep]; rfl, fun i h => by rw [gd_rep] at h; exact absurd h (by simp)⟩
theorem LR.clear {n : Int} {asked : List Int} {G : List (Bool × Int)} (h : LR n asked G) : LR n (clearL asked) (List.replicate 7 (false, 0)) := by
  unfold clearL
  exact ⟨by rw [List.length_replicate]; exact h.len, by simp, h.le, fun i hi => by rw [List.length_replicate] at hi; rw [rd_rep1 _ _ hi, gd_rep]; rfl, fun i h => by rw [gd_rep] at h; exact absurd h (by simp)⟩
theorem LR.askOk {n : Int} {asked : List Int} {G : List (Bool × Int)} (h : LR n asked G) : AskOk asked := fun i hi => by
  rw [h.at_ i hi]
  by_cases q : (gd G i).1 = true
  · rw [if_pos q]; exact .inr (h.ok i q).2
  · rw [if_neg q]; exact .inl rfl
theorem LR.grant {n : Int} {asked : List Int} {G : List (Bool × Int)} (h : LR n asked G) (node x : Int) : LR n (grantL asked node x) (rgrant n G node x) := by
  have hl := h.len
  unfold grantL rgrant
  by_cases q : (0 ≤ node ∧ node < n) ∧ nowB x = true
  · have q' : (0 ≤ node ∧ node < (asked.length : Int)) ∧ nowB x = true := by rw [hl]; exact q
    rw [if_pos q, if_pos q']
    obtain ⟨i, rfl⟩ := Int.eq_ofNat_of_zero_le q.1.1
    have hx := nowB_iff.mp q.2
    have hi : i < asked.length := by omega
    have h7 : i < G.length := by rw [h.gl]; have := h.le; omega
    rw [Int.toNat_natCast]
    have ha := h.at_ i hi
    by_cases k : (gd G i).1 = true ∧ x ≤ (gd G i).2
    · rw [if_pos k]
      rw [if_pos k.1] at ha
      have hs : asked.set i (if rd asked (i : Int) < x then x else rd asked (i : Int)) = asked := by
        rw [if_neg (by omega)]
        refine rd_ext (by simp) (fun j hj => ?_)
        rw [rd_set hi]
        split
        · rename_i e; rw [e]
        · rfl
      rw [hs]
      exact h
    · rw [if_neg k]
      have hv : (if rd asked (i : Int) < x then x else rd asked (i : Int)) = x := by
        by_cases k1 : (gd G i).1 = true
        · rw [if_pos k1] at ha
          have : ¬ x ≤ (gd G i).2 := fun k2 => k ⟨k1, k2⟩
          rw [if_pos (by omega)]
        · rw [if_neg k1] at ha
          rw [if_pos (by omega)]
      rw [hv]
      refine ⟨by rw [List.length_set]; exact hl, by rw [List.length_set]; exact h.gl, h.le, fun j hj => ?_, fun j hj => ?_⟩
      · rw [List.length_set] at hj
        rw [rd_set hi, gd_set G i j _ h7]
        by_cases e : j = i
        · rw [if_pos e, if_pos e]; rfl
        · rw [if_neg e, if_neg e]; exact h.at_ j hj
      · rw [List.length_set]
        rw [gd_set G i j _ h7] at hj ⊢
        by_cases e : j = i
        · rw [if_pos e]; exact ⟨by omega, hx⟩
        · rw [if_neg e] at hj ⊢; exact h.ok j hj
  · have q' : ¬ ((0 ≤ node ∧ node < (asked.length : Int)) ∧ nowB x = true) := by rw [hl]; exact q
    rw [if_neg q, if_neg q']
    exact h
theorem LR.cnt {n : Int} {asked : List Int} {G : List (Bool × Int)} (h : LR n asked G) (tr now : Int) : ∀ j : Nat, j ≤ asked.length → ((asked.take j).countP (cntOk tr now) : Int) = rcnt G tr now j
  | 0, _ => by simp [rcnt]
  | j + 1, hj => by
    rw [countP_take_succ _ _ _ (by omega), LR.cnt h tr now j (by omega)]
    show _ = rcnt G tr now j + if rOk tr now (gd G j) = true then 1 else 0
    have : cntOk tr now (rd asked j) = rOk tr now (gd G j) := by
      unfold cntOk rOk
      rw [h.at_ j (by omega)]
      by_cases q : (gd G j).1 = true
      · have := (h.ok j q).2.1
        rw [if_pos q, q, show ((gd G j).2 != -1) = true by rw [bne_iff_ne]; omega]
      · rw [if_neg q, show (gd G j).1 = false by simpa using q]
        rfl
    rw [this]
theorem LR.counts {n : Int} {asked : List Int} {G : List (Bool × Int)} (h : LR n asked G) (tr now : Int) : countsB asked tr now = decide (n / 2 + 1 ≤ rcnt G tr now n.toNat) := by
  unfold countsB
  have e := h.cnt tr now asked.length (Nat.le_refl _)
  rw [List.take_length] at e
  rw [e, h.len, show n.toNat = asked.length by have := h.len; omega]
/-! The reference's holds. -/
theorem give_f (ls r d u b0 b1 now : Int) (h1 : 1 ≤ ls) (h2 : ls ≤ 1048576) : pannierref21_Hold_Give.f 1 ls r d u b0 b1 now = some (giveB r d u b0 b1 now, ls, if giveB r d u b0 b1 now = true then b0 else r, if giveB r d u b0 b1 now = true then b1 else d, if giveB r d u b0 b1 now = true then mxI u (now + ls) else u) := by
  unfold pannierref21_Hold_Give.f
  by_cases k1 : now < 0
  · have : giveB r d u b0 b1 now = false := by unfold giveB nowB; rw [decide_eq_false (show ¬ 0 ≤ now by omega)]; rfl
    rw [if_pos k1, this]
    simp [pannierref21_Hold_Give.j0]
  · rw [if_neg k1]
    by_cases k2 : now > 1152921504606846976
    · have : giveB r d u b0 b1 now = false := by unfold giveB nowB; rw [decide_eq_false (show ¬ now ≤ 1152921504606846976 by omega), Bool.and_false]; rfl
      rw [if_pos k2, this]
      simp [pannierref21_Hold_Give.j0]
    · rw [if_neg k2]
      have hn : nowB now = true := nowB_iff.mpr (by unfold MaxC; omega)
      have hw : wrap64 (now + ls) = now + ls := by unfold wrap64; omega
      have hb : pannierref21_Hold_Blocks.f ls r d u b0 b1 now = some (blocksB r d u b0 b1 now, ls, r, d, u) := by
        unfold pannierref21_Hold_Blocks.f blocksB
        by_cases k3 : now < u
        · rw [if_pos k3, decide_eq_true k3, Bool.true_and, Bool.not_and]
        · rw [if_neg k3, decide_eq_false k3, Bool.false_and]
      rw [hb]
      simp only [Option.bind_some, pannierref21_Hold_Give.j0, hw]
      unfold giveB
      rw [hn, Bool.true_and]
      cases blocksB r d u b0 b1 now with
      | true => rfl
      | false =>
        simp only [Bool.not_false, if_true]
        unfold mxI
        by_cases k4 : now + ls > u
        · rw [if_neg (by simp), if_pos k4, if_pos (by omega)]
        · rw [if_neg (by simp), if_neg k4, if_neg (by omega)]
theorem blocks_f (ls r d u b0 b1 now : Int) : pannierref21_Hold_Blocks.f ls r d u b0 b1 now = some (blocksB r d u b0 b1 now, ls, r, d, u) := by
  unfold pannierref21_Hold_Blocks.f blocksB
  by_cases k3 : now < u
  · rw [if_pos k3, decide_eq_true k3, Bool.true_and, Bool.not_and]
  · rw [if_neg k3, decide_eq_false k3, Bool.false_and]
theorem restart_f (ls r d u now : Int) (h1 : 1 ≤ ls) (h2 : ls ≤ 1048576) : pannierref21_Hold_Restart.f 1 ls r d u now = some (ls, if nowB now = true then 0 else r, if nowB now = true then 0 else d, if nowB now = true then mxI u (now + ls) else u) := by
  unfold pannierref21_Hold_Restart.f
  by_cases k1 : now < 0
  · have : nowB now = false := by unfold nowB; rw [decide_eq_false (show ¬ 0 ≤ now by omega)]; rfl
    rw [if_pos k1, this]
    simp [pannierref21_Hold_Restart.j0]
  · rw [if_neg k1]
    by_cases k2 : now > 1152921504606846976
    · have : nowB now = false := by unfold nowB; rw [decide_eq_false (show ¬ now ≤ 1152921504606846976 by omega), Bool.and_false]
      rw [decide_eq_true k2, this]
      simp [pannierref21_Hold_Restart.j0]
    · have hn : nowB now = true := nowB_iff.mpr (by unfold MaxC; omega)
      have hw : wrap64 (now + ls) = now + ls := by unfold wrap64; omega
      rw [decide_eq_false k2, hn]
      simp only [pannierref21_Hold_Restart.j0, hw, if_true]
      unfold mxI
      by_cases k4 : now + ls > u
      · rw [if_neg (by simp), if_pos k4, if_pos (by omega)]
      · rw [if_neg (by simp), if_neg k4, if_neg (by omega)]
theorem fr_of_keep {w0 w w' : World} {g : Nat} (h0 : Below w0.heap.size w0 w) (h1 : Below w0.heap.size w0 w') (hk : KeepBut w w' g none) : Fr (fun k => k = g) w w' :=
  ⟨h1.os.trans h0.os.symm, h1.tape.trans h0.tape.symm, h1.output.trans h0.output.symm, Kept.of_keep (Kept.refl _ _) hk (.inl rfl)⟩
/-- Leases, holds and the reference's, apart from each other and from all that came in. -/
structure LP (w W : World) (ga ba gh gx gy : Nat) (n tr ls : Int) (asked : List Int) (G : List (Bool × Int)) (r d u yr yd yu : Int) : Prop where
  lse : Lse W w.heap.size ga ba asked tr
  hld : Hld W w.heap.size gh ls r d u
  rls : RLse W w.heap.size gx n tr G
  rhl : IsS75 w W gy ls yr yd yu
  apart : (gh ≠ ga ∧ gh ≠ ba) ∧ (gx ≠ ga ∧ gx ≠ ba ∧ gx ≠ gh) ∧ gy ≠ ga ∧ gy ≠ ba ∧ gy ≠ gh ∧ gy ≠ gx
  below : Below w.heap.size w W
section
variable {w W W' : World} {ga ba gh gx gy : Nat} {n tr ls : Int} {asked : List Int} {G : List (Bool × Int)} {r d u yr yd yu : Int}
theorem IsS75.kept2 {S : Nat → Prop} (h : IsS75 w W gy ls yr yd yu) (hk : Kept W W' S) (hg : ¬ S gy) : IsS75 w W' gy ls yr yd yu := ⟨blk_kept h.1 hk hg, h.2⟩
theorem LP.away (h : LP w W ga ba gh gx gy n tr ls asked G r d u yr yd yu) {S : Nat → Prop} (hf : Fr S W W') (hS : ∀ k, S k → k ≠ ga ∧ k ≠ ba ∧ k ≠ gh ∧ k ≠ gx ∧ k ≠ gy ∧ w.heap.size ≤ k) : LP w W' ga ba gh gx gy n tr ls asked G r d u yr yd yu :=
  ⟨h.lse.kept hf.kept (fun q => (hS _ q).1 rfl) (fun q => (hS _ q).2.1 rfl), h.hld.kept hf.kept (fun q => (hS _ q).2.2.1 rfl), h.rls.kept hf.kept (fun q => (hS _ q).2.2.2.1 rfl), h.rhl.kept2 hf.kept (fun q => (hS _ q).2.2.2.2.1 rfl), h.apart, hf.below (fun k q => (hS k q).2.2.2.2.2) h.below.size h.below⟩
theorem LP.step (h : LP w W ga ba gh gx gy n tr ls asked G r d u yr yd yu) (hb : Below W.heap.size W W') : LP w W' ga ba gh gx gy n tr ls asked G r d u yr yd yu :=
  h.away (S := fun _ => False) (Fr.of_below hb) (fun k q => q.elim)
theorem LP.setA {asked' : List Int} (h : LP w W ga ba gh gx gy n tr ls asked G r d u yr yd yu) (hl : Lse W' w.heap.size ga ba asked' tr) (hf : Fr (fun k => k = ga ∨ k = ba) W W') : LP w W' ga ba gh gx gy n tr ls asked' G r d u yr yd yu :=
  ⟨hl, h.hld.kept hf.kept (fun q => q.elim h.apart.1.1 h.apart.1.2), h.rls.kept hf.kept (fun q => q.elim h.apart.2.1.1 h.apart.2.1.2.1), h.rhl.kept2 hf.kept (fun q => q.elim h.apart.2.2.1 h.apart.2.2.2.1), h.apart, hf.below (fun k q => by have := h.lse.ge; rcases q with rfl | rfl <;> omega) h.below.size h.below⟩
theorem LP.setH {r' d' u' : Int} (h : LP w W ga ba gh gx gy n tr ls asked G r d u yr yd yu) (hl : Hld W' w.heap.size gh ls r' d' u') (hf : Fr (fun k => k = gh) W W') : LP w W' ga ba gh gx gy n tr ls asked G r' d' u' yr yd yu :=
  ⟨h.lse.kept hf.kept (fun q => h.apart.1.1 q.symm) (fun q => h.apart.1.2 q.symm), hl, h.rls.kept hf.kept h.apart.2.1.2.2, h.rhl.kept2 hf.kept h.apart.2.2.2.2.1, h.apart, hf.below (fun k q => by rw [q]; exact h.hld.2) h.below.size h.below⟩
theorem LP.setX {G' : List (Bool × Int)} (h : LP w W ga ba gh gx gy n tr ls asked G r d u yr yd yu) (hl : RLse W' w.heap.size gx n tr G') (hf : Fr (fun k => k = gx) W W') : LP w W' ga ba gh gx gy n tr ls asked G' r d u yr yd yu :=
  ⟨h.lse.kept hf.kept (fun q => h.apart.2.1.1 q.symm) (fun q => h.apart.2.1.2.1 q.symm), h.hld.kept hf.kept (fun q => h.apart.2.1.2.2 q.symm), hl, h.rhl.kept2 hf.kept h.apart.2.2.2.2.2, h.apart, hf.below (fun k q => by rw [q]; exact h.rls.2.1) h.below.size h.below⟩
theorem LP.setY {yr' yd' yu' : Int} (h : LP w W ga ba gh gx gy n tr ls asked G r d u yr yd yu) (hl : IsS75 w W' gy ls yr' yd' yu') (hf : Fr (fun k => k = gy) W W') : LP w W' ga ba gh gx gy n tr ls asked G r d u yr' yd' yu' :=
  ⟨h.lse.kept hf.kept (fun q => h.apart.2.2.1 q.symm) (fun q => h.apart.2.2.2.1 q.symm), h.hld.kept hf.kept (fun q => h.apart.2.2.2.2.1 q.symm), h.rls.kept hf.kept (fun q => h.apart.2.2.2.2.2 q.symm), hl, h.apart, hf.below (fun k q => by rw [q]; exact h.rhl.2) h.below.size h.below⟩
theorem LP.lt (h : LP w W ga ba gh gx gy n tr ls asked G r d u yr yd yu) : ga < W.heap.size ∧ ba < W.heap.size ∧ gh < W.heap.size ∧ gx < W.heap.size ∧ gy < W.heap.size := ⟨h.lse.lt.1, h.lse.lt.2, h.hld.lt, blk_lt h.rls.1, blk_lt h.rhl.1⟩
theorem Lse.lower {B B' g b : Nat} {tr : Int} {asked : List Int} (h : Lse W B' g b asked tr) (hb : B ≤ B') : Lse W B g b asked tr := by
  obtain ⟨c, q1, q2, q3, q4, q5, q6⟩ := h
  exact ⟨c, q1, Row.of_R q2 (by omega), by omega, by omega, q5, q6⟩
/-- The fork of the lease takes its place. -/
theorem LP.forkA {ga2 ba2 : Nat} (h : LP w W ga ba gh gx gy n tr ls asked G r d u yr yd yu) (hl : Lse W' W.heap.size ga2 ba2 asked tr) (hb : Below W.heap.size W W') : LP w W' ga2 ba2 gh gx gy n tr ls asked G r d u yr yd yu := by
  have h1 := h.step hb
  have hlt := h.lt
  have hge := hl.ge
  have ha := h.apart
  exact ⟨hl.lower h.below.size, h1.hld, h1.rls, h1.rhl, by omega, h1.below⟩
/-- The fork of the hold takes its place. -/
theorem LP.forkH {gh2 : Nat} (h : LP w W ga ba gh gx gy n tr ls asked G r d u yr yd yu) (hl : Hld W' W.heap.size gh2 ls r d u) (hb : Below W.heap.size W W') : LP w W' ga ba gh2 gx gy n tr ls asked G r d u yr yd yu := by
  have h1 := h.step hb
  have hlt := h.lt
  have hge := hl.2
  have ha := h.apart
  exact ⟨h1.lse, ⟨hl.1, Nat.le_trans h.below.size hge⟩, h1.rls, h1.rhl, by omega, h1.below⟩
end
end Go.Proofs.Ytfmcpceilkkhfaa.P
