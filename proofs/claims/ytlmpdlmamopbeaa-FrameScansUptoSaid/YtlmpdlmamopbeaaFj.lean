/- The frames of bytes in plain words: what is put is found again, and what is found is what was put. -/
import Derived.Test.YtlmpdlmamopbeaaFi
namespace Go.Proofs.Ytlmpdlmamopbeaa.P
open Go.RowKit Go.Proofs.YtlmpdlmamopbeaaW.PrintWords
set_option linter.unusedVariables false
set_option linter.unusedSimpArgs false
/-- A frame's bytes. -/
def frB (s : ByteArray) : List Int := headL (bytesOf s) ++ bytesOf s
theorem frB_length (s : ByteArray) : (frB s).length = 8 + s.size := by unfold frB; rw [List.length_append, headL_length, bytesOf_length]
theorem frB_bts (s : ByteArray) : Bts (frB s) := (headL_bts _).append (bytesOf_bts s)
def catF (l : List ByteArray) : List Int := l.flatMap frB
def totS (l : List ByteArray) : Nat := (l.map fun s => 8 + s.size).sum
theorem totS_nil : totS [] = 0 := rfl
theorem totS_cons (s : ByteArray) (l : List ByteArray) : totS (s :: l) = 8 + s.size + totS l := by simp [totS]
theorem totS_append (a b : List ByteArray) : totS (a ++ b) = totS a + totS b := by simp [totS]
theorem catF_cons (s : ByteArray) (l : List ByteArray) : catF (s :: l) = frB s ++ catF l := by simp [catF]
theorem catF_append (a b : List ByteArray) : catF (a ++ b) = catF a ++ catF b := by simp [catF]
theorem catF_snoc (l : List ByteArray) (s : ByteArray) : catF (l ++ [s]) = PutL (catF l) s := by rw [catF_append, catF_cons]; simp [catF, PutL, frB]
theorem catF_length : ∀ l : List ByteArray, (catF l).length = totS l
  | [] => rfl
  | s :: r => by rw [catF_cons, List.length_append, frB_length, catF_length r, totS_cons]
theorem catF_bts : ∀ l : List ByteArray, Bts (catF l)
  | [] => fun x h => absurd h (by simp [catF])
  | s :: r => by rw [catF_cons]; exact (frB_bts s).append (catF_bts r)
/-- The payloads. -/
def payL : Nat → List Int → List ByteArray
  | 0, _ => []
  | f + 1, b => match firstL b with
    | none => []
    | some p => strOfNums p :: payL f (b.drop (8 + p.length))
def scanS (b : List Int) : List ByteArray := payL (b.length + 1) b
theorem pays_frL : ∀ (f : Nat) (b : List Int) (a : Nat), paysOf (frL f b a) = payL f (b.drop a)
  | 0, _, _ => rfl
  | f + 1, b, a => by
    unfold frL payL
    cases firstL (b.drop a) with
    | none => rfl
    | some p =>
      show strOfNums p :: paysOf (frL f b (a + 8 + p.length)) = strOfNums p :: payL f ((b.drop a).drop (8 + p.length))
      rw [pays_frL f b (a + 8 + p.length), List.drop_drop, show a + 8 + p.length = a + (8 + p.length) by omega]
theorem pays_frames (b : List Int) : paysOf (frames b) = scanS b := by
  have := pays_frL (b.length + 1) b 0
  rwa [List.drop_zero] at this
theorem payL_fuel : ∀ (f g : Nat) (b : List Int), b.length < f → b.length < g → payL f b = payL g b
  | 0, _, _, h, _ => absurd h (by omega)
  | _, 0, _, _, h => absurd h (by omega)
  | f + 1, g + 1, b, hf, hg => by
    unfold payL
    cases h : firstL b with
    | none => rfl
    | some p =>
      have := (firstL_some h).1
      show _ :: payL f _ = _ :: payL g _
      rw [payL_fuel f g _ (by rw [List.length_drop]; omega) (by rw [List.length_drop]; omega)]
theorem scanS_some {b p : List Int} (h : firstL b = some p) : scanS b = strOfNums p :: scanS (b.drop (8 + p.length)) := by
  have h1 := (firstL_some h).1
  have e : scanS b = strOfNums p :: payL b.length (b.drop (8 + p.length)) := by unfold scanS; rw [payL]; rw [h]
  rw [e]
  unfold scanS
  rw [payL_fuel b.length _ _ (by rw [List.length_drop]; omega) (Nat.lt_succ_self _)]
theorem scanS_none {b : List Int} (h : firstL b = none) : scanS b = [] := by unfold scanS; rw [payL]; rw [h]
theorem firstL_frB (s : ByteArray) (hs : s.size ≤ 65536) (r : List Int) : firstL (frB s ++ r) = some (bytesOf s) := by
  have hl : (frB s ++ r).length = 8 + s.size + r.length := by rw [List.length_append, frB_length]
  have hn : numL (frB s ++ r) = s.size := by
    unfold frB headL
    rw [bytesOf_length]
    simp only [List.append_assoc]
    exact numL_word (by omega) _
  have hd : ((frB s ++ r).drop 8).take s.size = bytesOf s := by
    unfold frB
    rw [List.append_assoc, List.drop_append_of_le_length (by rw [headL_length]; omega), List.drop_eq_nil_of_le (by rw [headL_length]; omega), List.nil_append, List.take_append_of_le_length (by rw [bytesOf_length]; omega), List.take_of_length_le (by rw [bytesOf_length]; omega)]
  have ht : (frB s ++ r).take 8 = headL (bytesOf s) := by
    unfold frB
    rw [List.append_assoc, List.take_append_of_le_length (by rw [headL_length]; omega), List.take_of_length_le (by rw [headL_length]; omega)]
  unfold firstL
  rw [if_neg (by omega), hn, if_neg (by omega), hd, if_pos ht.symm]
theorem scan_cat : ∀ (l : List ByteArray), (∀ s ∈ l, s.size ≤ 65536) → ∀ r : List Int, scanS (catF l ++ r) = l ++ scanS r
  | [], _, r => rfl
  | s :: l, h, r => by
    have h1 := firstL_frB s (h s (by simp)) (catF l ++ r)
    rw [catF_cons, List.append_assoc, scanS_some h1, bytesOf_length, show strOfNums (bytesOf s) = s from bytesOf_inj (bytesOf_strOf (bytesOf_bts s))]
    rw [List.drop_append_of_le_length (by rw [frB_length]; omega), List.drop_eq_nil_of_le (by rw [frB_length]; omega), List.nil_append, scan_cat l (fun x hx => h x (List.mem_cons_of_mem _ hx)) r]
    rfl
theorem take_frame {b p : List Int} (h : firstL b = some p) : b.take (8 + p.length) = headL p ++ p := by
  obtain ⟨h1, h2, _, _, h5⟩ := firstL_some h
  have e : b.take (8 + p.length) = b.take 8 ++ (b.drop 8).take p.length := by rw [List.take_add]
  rw [e, ← h5, ← h2]
theorem payL_spec : ∀ (f : Nat) (b : List Int), Bts b → (∀ s ∈ payL f b, s.size ≤ 65536) ∧ totS (payL f b) ≤ b.length ∧ catF (payL f b) = b.take (totS (payL f b))
  | 0, b, _ => ⟨fun s h => absurd h (by simp [payL]), by simp [payL, totS], by simp [payL, totS, catF]⟩
  | f + 1, b, hb => by
    unfold payL
    cases h : firstL b with
    | none => exact ⟨fun s h => absurd h (by simp), by simp [totS], by simp [totS, catF]⟩
    | some p =>
      obtain ⟨h1, h2, h3, h4, h5⟩ := firstL_some h
      have hp := firstL_bts hb h
      obtain ⟨i1, i2, i3⟩ := payL_spec f (b.drop (8 + p.length)) (hb.drop _)
      have hsz : (strOfNums p).size = p.length := strOfNums_size p
      show (∀ s ∈ strOfNums p :: payL f (b.drop (8 + p.length)), s.size ≤ 65536) ∧ totS (strOfNums p :: payL f (b.drop (8 + p.length))) ≤ b.length ∧ catF (strOfNums p :: payL f (b.drop (8 + p.length))) = _
      rw [List.length_drop] at i2
      rw [totS_cons, hsz]
      refine ⟨fun s hs => ?_, by omega, ?_⟩
      · rcases List.mem_cons.1 hs with rfl | hs
        · omega
        · exact i1 s hs
      · rw [catF_cons, i3, show frB (strOfNums p) = headL p ++ p by unfold frB; rw [bytesOf_strOf hp], ← take_frame h, ← List.take_add]
theorem scan_spec {b : List Int} (hb : Bts b) : (∀ s ∈ scanS b, s.size ≤ 65536) ∧ totS (scanS b) ≤ b.length ∧ catF (scanS b) = b.take (totS (scanS b)) := payL_spec _ b hb
theorem endOf_frL : ∀ (f : Nat) (b : List Int) (a : Nat), b.length ≤ 1099511627776 → a ≤ b.length → frL f b a ≠ [] → endOf (frL f b a) = ((a + totS (paysOf (frL f b a)) : Nat) : Int)
  | 0, _, _, _, _, h => absurd rfl h
  | f + 1, b, a, hl, ha, hne => by
    unfold frL at hne ⊢
    cases h : firstL (b.drop a) with
    | none => rw [h] at hne; exact absurd rfl hne
    | some p =>
      have h1 := (firstL_some h).1
      rw [List.length_drop] at h1
      have hsz : (strOfNums p).size = p.length := strOfNums_size p
      show endOf (⟨(a : Int), strOfNums p⟩ :: frL f b (a + 8 + p.length)) = ((a + totS (strOfNums p :: paysOf (frL f b (a + 8 + p.length))) : Nat) : Int)
      rw [totS_cons, hsz]
      by_cases q : frL f b (a + 8 + p.length) = []
      · rw [q]
        have e := endOf_snoc [] ⟨(a : Int), strOfNums p⟩
        rw [List.nil_append] at e
        rw [e, show paysOf [] = [] from rfl, totS_nil]
        show wrap64 (wrap64 ((a : Int) + 8) + ((strOfNums p).size : Int)) = _
        rw [hsz]
        unfold wrap64
        omega
      · have ih := endOf_frL f b (a + 8 + p.length) hl (by omega) q
        have e : endOf (⟨(a : Int), strOfNums p⟩ :: frL f b (a + 8 + p.length)) = endOf (frL f b (a + 8 + p.length)) := by
          unfold endOf
          rw [List.getLast?_cons]
          cases hg : (frL f b (a + 8 + p.length)).getLast? with
          | none => exact absurd (List.getLast?_eq_none_iff.1 hg) q
          | some d => rfl
        rw [e, ih]
        omega
theorem endOf_frames {b : List Int} (hl : b.length ≤ 1099511627776) : endOf (frames b) = ((totS (scanS b) : Nat) : Int) := by
  by_cases q : frames b = []
  · rw [← pays_frames, q]; rfl
  · have := endOf_frL (b.length + 1) b 0 hl (Nat.zero_le _) q
    rw [Nat.zero_add] at this
    rw [← pays_frames]
    exact this
/-- Scan, in plain words. -/
theorem Scan.plain (A0 : Option Addr) (c0 : Nat) (b : List Int) (w : World) (hr : Kd.C (Kd.int .u8) w A0 b.length b) (hb : Bts b) (hl : b.length ≤ 1099511627776) :
    Calls Try.prog 14 #[.slice A0 b.length c0] w fun e w' => ∃ (A : Option Addr) (c : Nat), e = .returned (.tuple #[.slice A (scanS b).length c, .int .i64 ((totS (scanS b) : Nat) : Int)]) ∧ Kd.string.R 9 w' w.heap.size (fun _ => True) (.slice A (scanS b).length c) (scanS b) ∧ Below w.heap.size w w' := by
  refine (Scan.at A0 c0 b w hr hb hl).mono ?_
  rintro e w' ⟨v, rfl, ho, hbb⟩
  rw [pays_frames] at ho
  obtain ⟨A, c, rfl⟩ := Kd.R_slice ho
  rw [endOf_frames hl]
  exact ⟨A, c, rfl, ho, hbb⟩
end Go.Proofs.Ytlmpdlmamopbeaa.P
