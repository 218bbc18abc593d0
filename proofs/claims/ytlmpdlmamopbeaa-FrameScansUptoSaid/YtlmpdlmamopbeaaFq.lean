/- The reference's Scan in plain words; a range over a function that may be broken off. -/
import Derived.Test.YtlmpdlmamopbeaaFn
import Derived.Test.YtlmpdlmamopbeaaP15
namespace Go.Proofs.Ytlmpdlmamopbeaa.P
open Go.RowKit Go.Proofs.YtlmpdlmamopbeaaW.PrintWords Go.Proofs.YtlmpdlmamopbeaaW.PrintLast Go.Proofs.YtlmpdlmamopbeaaW.PrintMore
set_option linter.unusedVariables false
set_option linter.unusedSimpArgs false
theorem rangeX2 {α : Type} {P : Program} {g : Operand} {p q id : Nat} {assign body : Code} {K : Act → World → Prop} {Q : Exit → Act → World → Prop} {a : Act} {w : World} (gf : Nat) {lb : Array Value} (hg : a.eval g = .func (.func gf) #[] lb)
    (eg : ∀ args w, (callFunc gf args).run P w = .ok (.enter gf args) w) {e1 e2 : α → Value} {T : Nat → Prop} (hT : ∀ k, w.heap.size ≤ k → T k) {S Sp : List α → Prop} {N : Nat}
    (hseq : SeqStopsK Fence.wide 4 P gf lb (fun x => #[e1 x, e2 x]) (fun A B => Kept A B T) S Sp N w)
    (I : List α → World → Prop) (Ix : Code → List α → World → Prop) (hI : OwnFrom w.heap.size I) (hIx : ∀ c, OwnFrom w.heap.size (Ix c)) (h0 : I [] w) (a₁ : α → Act) (Fin : World → Prop)
    (hassign : ∀ (l : Nat) (x : α) (W : World) (K : Act → World → Prop), K (a₁ x) W → assign.wpIn (Fence.wide.inRound l) 3 P (Exit.then K (fun _ _ _ => False)) { tmps := (a.tmps.setIfInBounds p (e1 x)).setIfInBounds q (e2 x), defers := [] } W)
    (hbody : ∀ (l : Nat) (pre : List α) (x : α) (W : World), I pre W → pre.length < N → body.wpIn (Fence.wide.inRound l) 3 P (ownPostG w.heap.size (fun A B => Kept A B T) I Ix (pre ++ [x]) W) (a₁ x) W)
    (hdone : ∀ xs W, S xs → I xs W → Fin W) (hstop : ∀ c pre W, Sp pre → Ix c pre W → c = .exit id ∧ Fin W)
    (hend : ∀ (D : Nat) (W : World), w.heap.size ≤ D → Fin W → W.heap[D]? = some (.deferred (some [])) → K { a with defers := { target := .collected D, args := #[] } :: a.defers } W) :
    (Code.rangeFunc g #[p, q] assign body).wp P (Exit.inBlock id (Exit.then K Q)) a w :=
  (wpIn_wide (n := 5)).1 (wpIn_rangeFunc_ownG_of_H (F := Fence.wide) (n := 5) rfl (by omega) hg trivial eg hseq (fun h k => h.then_ k (fun _ h => .inl h)) (fun W l o o' hl h _ _ => kept_putObj (hT l hl) h o') (Below.refl _ _) (fun _ => rfl)
    I Ix hI hIx h0 a₁ (fun l x W K hK => by
      have e : ((#[p, q] : Array Tmp).zip (#[e1 x, e2 x] : Array Value)).foldl (fun t (p, v) => t.setIfInBounds p v) a.tmps = (a.tmps.setIfInBounds p (e1 x)).setIfInBounds q (e2 x) := by simp
      show Code.wpIn _ _ _ _ _ { tmps := ((#[p, q] : Array Tmp).zip (#[e1 x, e2 x] : Array Value)).foldl (fun t (p, v) => t.setIfInBounds p v) a.tmps, defers := [] } _
      rw [e]
      exact hassign l x W K hK) hbody
    (fun D xs W hD hS hi hK => by
      simp only [Exit.inBlock, Exit.then]
      exact hend D W hD (hdone xs W hS hi) hK)
    (fun D c pre W hD hS hx hK => by
      obtain ⟨rfl, hf⟩ := hstop c pre W hS hx
      refine wpIn_wide.2 (wp_exit ?_)
      simp only [Exit.inBlock, Exit.then, if_true]
      exact hend D W hD hf hK)
    (fun W => Kept.refl W _))
theorem leO_up {α : Type} {F : Nat → Option α} (h : ∀ k, LeO (F k) (F (k + 1))) {r : α} {k : Nat} (hk : F k = some r) : ∀ d, F (k + d) = some r
  | 0 => hk
  | d + 1 => h (k + d) r (leO_up h hk d)
theorem firstL_sum {B : List Int} (hB : Bts B) {n : Nat} (hn : numL B = n) (h1 : n ≤ 65536) (h2 : 8 + n ≤ B.length) : firstL B = if numL (B.drop 4) = crc (B.take 4 ++ (B.drop 8).take n) then some ((B.drop 8).take n) else none := by
  have hp : ((B.drop 8).take n).length = n := by rw [List.length_take, List.length_drop]; omega
  have h4 : wordL n = B.take 4 := by rw [← hn]; exact word_numL hB (by omega)
  have h48 : wordL (numL (B.drop 4)) = (B.drop 4).take 4 := word_numL (hB.drop 4) (by rw [List.length_drop]; omega)
  have h8 : B.take 8 = B.take 4 ++ (B.drop 4).take 4 := by rw [show (8 : Nat) = 4 + 4 from rfl, List.take_add]
  have hiff : headL ((B.drop 8).take n) = B.take 8 ↔ numL (B.drop 4) = crc (B.take 4 ++ (B.drop 8).take n) := by
    unfold headL
    rw [hp, h8, h4, ← h48]
    constructor
    · intro h
      exact (wordL_inj (crc_lt ((hB.take 4).append ((hB.drop 8).take n))) (numL_lt (hB.drop 4)) (List.append_cancel_left h)).symm
    · intro h; rw [h]
  unfold firstL
  rw [if_neg (by omega), hn, if_neg (by omega)]
  by_cases q : numL (B.drop 4) = crc (B.take 4 ++ (B.drop 8).take n)
  · rw [if_pos q, if_pos (hiff.2 q)]
  · rw [if_neg q, if_neg (fun h => q (hiff.1 h))]
theorem ar1 {l a n : Nat} (h : l - a < 8 + n) (h2 : a ≤ l) : (n : Int) > (l : Int) - (a : Int) - 8 := by omega
theorem ar2 {l a n : Nat} (h8 : ¬ l - a < 8) (h : ¬ (65536 < n ∨ l - a < 8 + n)) : n ≤ 65536 ∧ a + 8 + n ≤ l ∧ ¬ (n : Int) > 65536 ∧ ¬ (n : Int) > (l : Int) - (a : Int) - 8 ∧ 8 + n ≤ l - a := by omega
theorem ar3 {a n : Nat} (h : a + 8 + n ≤ 1099511627776) : wrap64 ((a : Int) + 8 + (n : Int)) = (a : Int) + 8 + (n : Int) := by unfold wrap64; omega
theorem ar4 (b : List Int) (a n : Nat) : (b.take ((a : Int) + 8 + (n : Int)).toNat).drop ((a : Int) + 8).toNat = ((b.drop a).drop 8).take n := by
  rw [show ((a : Int) + 8 + (n : Int)).toNat = a + 8 + n by omega, show ((a : Int) + 8).toNat = a + 8 by omega, List.drop_take, List.drop_drop, show a + 8 + n - (a + 8) = n by omega]
theorem ar5 {b : List Int} {a n : Nat} (h : a + 8 + n ≤ b.length) : (((b.drop a).drop 8).take n).length = n := by rw [List.length_take, List.length_drop, List.length_drop]; omega
theorem ar6 {B : List Int} (hB : Bts B) (h : 8 ≤ B.length) : pannierref02_number.f ((B.drop 4).take 4) = some ((numL (B.drop 4) : Nat) : Int) := by
  rw [refnumber_f ((hB.drop 4).take 4) (by rw [List.length_take, List.length_drop]; omega), numL_take (Nat.le_refl 4)]
theorem ar7 {B : List Int} (h : 8 ≤ B.length) : (B.take 4).length = 4 := by rw [List.length_take]; omega
theorem ar8 {l a f n : Nat} (h : l < a + (f + 1)) : l < a + 8 + n + f := by omega
theorem ar9 {x a n : Nat} (h : x ≤ a) : x + 1 ≤ a + 8 + n := by omega
theorem ar10 (a n t : Nat) : a + 8 + n + t = a + (8 + n + t) := by omega
/-- What j1 does where the frame's bytes are there. -/
theorem scan_j1_eq (b : List Int) (acc : List ByteArray) (a n k : Nat) (hle : a + 8 + n ≤ b.length) (hl : b.length ≤ 1099511627776) (P4 P48 P : List Int) (c s : Nat) (hac : acc.length ≤ a) (hP4 : P4.length = 4) (hP : P.length ≤ 65536)
    (e4 : (b.take ((a : Int) + 4).toNat).drop (a : Int).toNat = P4) (e48 : (b.take ((a : Int) + 8).toNat).drop ((a : Int) + 4).toNat = P48) (ep : (b.take ((a : Int) + 8 + (n : Int)).toNat).drop ((a : Int) + 8).toNat = P)
    (hn2 : pannierref02_number.f P48 = some (c : Int)) (hs : pannierref02_Sum.f k (P4 ++ P) = some (s : Int)) :
    pannierref02_Scan.j1 (k + 1) b acc (a : Int) (n : Int) false = if (c : Int) = (s : Int) then pannierref02_Scan.l0 k b (acc ++ [strOfNums P]) ((a + 8 + n : Nat) : Int) else some (acc, (a : Int)) := by
  have w2 : wrap64 ((a : Int) + 4) = (a : Int) + 4 := by unfold wrap64; omega
  have w3 : wrap64 ((a : Int) + 8) = (a : Int) + 8 := by unfold wrap64; omega
  have w4 : wrap64 (n : Int) = n := by unfold wrap64; omega
  have w6 := ar3 (a := a) (n := n) (by omega)
  have c1 : 0 ≤ (a : Int) + 8 := by omega
  have c2 : (a : Int) + 8 ≤ (a : Int) + 8 + (n : Int) := by omega
  have c3 : (a : Int) + 8 + (n : Int) ≤ (b.length : Int) := by omega
  have c4 : 0 ≤ (a : Int) + 4 := by omega
  have c5 : (a : Int) + 4 ≤ (a : Int) + 8 := by omega
  have c6 : (a : Int) + 8 ≤ (b.length : Int) := by omega
  have c7 : 0 ≤ (a : Int) := by omega
  have c8 : (a : Int) ≤ (a : Int) + 4 := by omega
  have c9 : (a : Int) + 4 ≤ (b.length : Int) := by omega
  have c10 : ([] : List Int).length + P4.length < 140737488355328 := by rw [hP4]; decide
  have c11 : P4.length + P.length < 140737488355328 := by rw [hP4]; omega
  have c12 : acc.length < 8796093022208 := by omega
  have e9 : (a : Int) + 8 + (n : Int) = ((a + 8 + n : Nat) : Int) := by omega
  rw [pannierref02_Scan.j1, if_neg (by simp), w3, w4, w6, w2, if_pos c1, if_pos c2, if_pos c3, if_pos c4, if_pos c5, if_pos c6, e48, hn2, Option.bind_some, Option.bind_some, if_pos c7, if_pos c8, if_pos c9, e4, if_pos c10, Option.bind_some, List.nil_append, ep, if_pos c11, hs, Option.bind_some, if_pos c12, e9]
theorem firstL_bad {B : List Int} (h8 : ¬ B.length < 8) (h : 65536 < numL B ∨ B.length < 8 + numL B) : firstL B = none := by unfold firstL; rw [if_neg h8, if_pos h]
theorem scan_l0_eq (b : List Int) (acc : List ByteArray) (a n k : Nat) (ha : a + 8 ≤ b.length) (w1 : wrap64 ((b.length : Int) - (a : Int)) = (b.length : Int) - (a : Int)) (w2 : wrap64 ((a : Int) + 4) = (a : Int) + 4) (w4 : wrap64 (n : Int) = n) (w5 : wrap64 ((b.length : Int) - (a : Int) - 8) = (b.length : Int) - (a : Int) - 8)
    (hnum : pannierref02_number.f ((b.take ((a : Int) + 4).toNat).drop (a : Int).toNat) = some (n : Int)) :
    pannierref02_Scan.l0 (k + 1) b acc (a : Int) = if (n : Int) > 65536 then pannierref02_Scan.j1 k b acc (a : Int) (n : Int) true else pannierref02_Scan.j1 k b acc (a : Int) (n : Int) (decide ((n : Int) > (b.length : Int) - (a : Int) - 8)) := by
  rw [pannierref02_Scan.l0, if_pos (by rw [w1]; omega), if_pos (by omega), w2, if_pos (by omega), if_pos (by omega), hnum, Option.bind_some, w4, w1, w5]
/-- The reference's Scan finds the same frames. -/
theorem refscan_l0 (b : List Int) (hb : Bts b) (hl : b.length ≤ 1099511627776) : ∀ (f a : Nat) (acc : List ByteArray), a ≤ b.length → b.length < a + f → acc.length ≤ a →
    ∃ k, pannierref02_Scan.l0 k b acc (a : Int) = some (acc ++ scanS (b.drop a), ((a + totS (scanS (b.drop a)) : Nat) : Int))
  | 0, a, acc, ha, hf, _ => absurd hf (by omega)
  | f + 1, a, acc, ha, hf, hac => by
    have w1 : wrap64 ((b.length : Int) - (a : Int)) = (b.length : Int) - (a : Int) := by unfold wrap64; omega
    have w2 : wrap64 ((a : Int) + 4) = (a : Int) + 4 := by unfold wrap64; omega
    have w3 : wrap64 ((a : Int) + 8) = (a : Int) + 8 := by unfold wrap64; omega
    have hdl : (b.drop a).length = b.length - a := List.length_drop
    have hstop : firstL (b.drop a) = none → some (acc, (a : Int)) = some (acc ++ scanS (b.drop a), ((a + totS (scanS (b.drop a)) : Nat) : Int)) := fun h => by
      rw [scanS_none h, List.append_nil, totS_nil]; rfl
    by_cases h8 : b.length - a < 8
    · refine ⟨1, ?_⟩
      rw [pannierref02_Scan.l0, w1, if_neg (by omega)]
      exact hstop (by unfold firstL; rw [if_pos (by omega)])
    · have e4 : (b.take ((a : Int) + 4).toNat).drop ((a : Int)).toNat = (b.drop a).take 4 := by
        rw [show ((a : Int) + 4).toNat = a + 4 by omega, Int.toNat_natCast, List.drop_take, Nat.add_sub_cancel_left]
      have e48 : (b.take ((a : Int) + 8).toNat).drop ((a : Int) + 4).toNat = ((b.drop a).drop 4).take 4 := by
        rw [show ((a : Int) + 8).toNat = a + 8 by omega, show ((a : Int) + 4).toNat = a + 4 by omega, List.drop_take, List.drop_drop, show a + 8 - (a + 4) = 4 by omega]
      have hB := hb.drop a
      have hnum : pannierref02_number.f ((b.drop a).take 4) = some ((numL (b.drop a) : Nat) : Int) := by rw [refnumber_f (hB.take 4) (by rw [List.length_take]; omega), numL_take (by omega)]
      obtain ⟨n, en⟩ : ∃ n, numL (b.drop a) = n := ⟨_, rfl⟩
      have hn32 : n < 4294967296 := by rw [← en]; exact numL_lt hB
      rw [en] at hnum
      have HEn := Aside0.mk en
      clear en
      have w4 : wrap64 (n : Int) = n := by unfold wrap64; omega
      have w5 : wrap64 ((b.length : Int) - (a : Int) - 8) = (b.length : Int) - (a : Int) - 8 := by unfold wrap64; omega
      have step := fun k => scan_l0_eq b acc a n k (by omega) w1 w2 w4 w5 (by rw [e4]; exact hnum)
      by_cases hbad : 65536 < n ∨ b.length - a < 8 + n
      · refine ⟨1 + 1, ?_⟩
        rw [step 1]
        have hf : firstL (b.drop a) = none := firstL_bad (by omega) (by rw [HEn.out, hdl]; exact hbad)
        by_cases q : (n : Int) > 65536
        · rw [if_pos q, pannierref02_Scan.j1, if_pos rfl]
          exact hstop hf
        · have h9 : b.length - a < 8 + n := by
            rcases hbad with h | h
            · exact absurd (show (n : Int) > 65536 from Int.ofNat_lt.2 h) q
            · exact h
          clear hbad
          rw [if_neg q, pannierref02_Scan.j1, if_pos (decide_eq_true (ar1 h9 ha))]
          exact hstop hf
      · obtain ⟨a1, a2, a3, a4, a5⟩ := ar2 h8 hbad
        have step2 : ∀ k, pannierref02_Scan.l0 (k + 1) b acc (a : Int) = pannierref02_Scan.j1 k b acc (a : Int) (n : Int) false := fun k => by rw [step k, if_neg a3, decide_eq_false a4]
        clear step
        have ep : (b.take ((a : Int) + 8 + (n : Int)).toNat).drop ((a : Int) + 8).toNat = ((b.drop a).drop 8).take n := ar4 b a n
        obtain ⟨P, eP⟩ : ∃ P, ((b.drop a).drop 8).take n = P := ⟨_, rfl⟩
        have hP : P.length = n ∧ Bts P := by rw [← eP]; exact ⟨ar5 a2, (hB.drop 8).take n⟩
        rw [eP] at ep
        have hfirst := firstL_sum hB HEn.out a1 (by rw [hdl]; exact a5)
        rw [eP] at hfirst
        have hnum2 : pannierref02_number.f (((b.drop a).drop 4).take 4) = some ((numL ((b.drop a).drop 4) : Nat) : Int) := ar6 hB (by rw [hdl]; exact Nat.le_trans (Nat.le_add_right _ _) a5)
        have hS4 : ((b.drop a).take 4).length = 4 := ar7 (by rw [hdl]; exact Nat.le_trans (Nat.le_add_right _ _) a5)
        have hPl : P.length ≤ 65536 := by rw [hP.1]; exact a1
        obtain ⟨k2, hk2⟩ := refsum_f ((b.drop a).take 4 ++ P) ((hB.take 4).append hP.2) (by rw [List.length_append, hS4]; exact Nat.lt_of_le_of_lt (Nat.add_le_add_left hPl 4) (by decide))
        have hle8 : a + 8 + n ≤ 1099511627776 := Nat.le_trans a2 hl
        by_cases hsum : numL ((b.drop a).drop 4) = crc ((b.drop a).take 4 ++ P)
        · rw [if_pos hsum] at hfirst
          obtain ⟨k1, hk1⟩ := refscan_l0 b hb hl f (a + 8 + n) (acc ++ [strOfNums P]) a2 (ar8 hf) (by rw [List.length_append, List.length_singleton]; exact ar9 hac)
          refine ⟨k1 + k2 + 1 + 1, ?_⟩
          have hl0 := leO_up (F := fun k => pannierref02_Scan.l0 k b (acc ++ [strOfNums P]) ((a + 8 + n : Nat) : Int)) (fun k => (pannierref02_Scan.mono_l k).1 _ _ _) hk1 k2
          have hsm := leO_up (F := fun k => pannierref02_Sum.f k ((b.drop a).take 4 ++ P)) (fun k => pannierref02_Sum.mono _ k) hk2 k1
          rw [Nat.add_comm k2 k1] at hsm
          rw [step2, scan_j1_eq b acc a n (k1 + k2) a2 hl _ _ P _ _ hac hS4 hPl e4 e48 ep hnum2 hsm, if_pos (by rw [hsum])]
          refine hl0.trans ?_
          rw [scanS_some hfirst, hP.1, List.drop_drop, ← Nat.add_assoc, totS_cons, strOfNums_size, hP.1, List.append_assoc, List.singleton_append, ar10]
        · rw [if_neg hsum] at hfirst
          refine ⟨k2 + 1 + 1, ?_⟩
          rw [step2, scan_j1_eq b acc a n k2 a2 hl _ _ P _ _ hac hS4 hPl e4 e48 ep hnum2 hk2, if_neg (show ¬ ((numL ((b.drop a).drop 4) : Nat) : Int) = ((crc ((b.drop a).take 4 ++ P) : Nat) : Int) from fun e => hsum (Int.ofNat.inj e))]
          exact hstop hfirst
theorem refScan_at (A0 : Option Addr) (c0 : Nat) (b : List Int) (w : World) (hr : Kd.C (Kd.int .u8) w A0 b.length b) (hc : b.length ≤ c0) (hb : Bts b) (hl : b.length ≤ 1099511627776) :
    Calls Try.prog 15 #[.slice A0 b.length c0] w fun e w' => ∃ (A : Option Addr) (c : Nat), e = .returned (.tuple #[.slice A (scanS b).length c, .int .i64 ((totS (scanS b) : Nat) : Int)]) ∧ Kd.string.R 9 w' w.heap.size (fun _ => True) (.slice A (scanS b).length c) (scanS b) ∧ Below w.heap.size w w' := by
  obtain ⟨k, hk⟩ := refscan_l0 b hb hl (b.length + 1) 0 [] (Nat.zero_le _) (by omega) (Nat.zero_le _)
  rw [List.drop_zero, Nat.zero_add, List.nil_append] at hk
  refine (pannierref02_Scan.calls k A0 c0 b _ _ w hr hc hk).mono ?_
  rintro e w' ⟨v, rfl, ho, hbb⟩
  obtain ⟨A, c, rfl⟩ := Kd.R_slice ho
  exact ⟨A, c, rfl, ho, hbb⟩
end Go.Proofs.Ytlmpdlmamopbeaa.P
