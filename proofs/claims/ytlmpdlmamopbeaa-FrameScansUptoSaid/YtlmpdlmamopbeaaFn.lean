/- A frame of which one bit is turned, in plain words: it is no frame. -/
import Derived.Test.YtlmpdlmamopbeaaFm
namespace Go.Proofs.Ytlmpdlmamopbeaa.P
open Go.RowKit Go.Proofs.YtlmpdlmamopbeaaW.PrintWords
set_option linter.unusedVariables false
set_option linter.unusedSimpArgs false
theorem wordL_inj {a b : Nat} (ha : a < 2 ^ 32) (hb : b < 2 ^ 32) (h : wordL a = wordL b) : a = b := by
  have h1 := numL_word ha []
  have h2 := numL_word hb []
  rw [h] at h1
  exact h1.symm.trans h2
theorem set_ne {l : List Int} {i : Nat} {v : Int} (h : i < l.length) (hv : v ≠ l[i]) : l.set i v ≠ l := fun e => by
  have : (l.set i v)[i]'(by simpa using h) = v := List.getElem_set_self _
  have h2 : (l.set i v)[i]'(by simpa using h) = l[i] := by simp only [e]
  exact hv (this.symm.trans h2)
theorem frB_parts (s : ByteArray) : frB s = wordL s.size ++ (wordL (crc (wordL s.size ++ bytesOf s)) ++ bytesOf s) := by unfold frB headL; rw [bytesOf_length, List.append_assoc]
theorem bts_set {l : List Int} {i : Nat} {v : Int} (h : Bts l) (hv : 0 ≤ v ∧ v < 256) : Bts (l.set i v) := fun x hx => by
  rcases List.mem_or_eq_of_mem_set hx with q | q
  · exact h x q
  · rw [q]; exact hv
theorem firstL_turned (s : ByteArray) (hs : s.size ≤ 65536) (r : List Int) {q : Nat} (hq : q < 4 + s.size) {v : Int} (hv : 0 ≤ v ∧ v < 256) (hne : v ≠ (frB s)[4 + q]'(by rw [frB_length]; omega)) : firstL ((frB s).set (4 + q) v ++ r) = none := by
  have hn4 : (wordL s.size).length = 4 := rfl
  have hset : (frB s).set (4 + q) v = wordL s.size ++ (wordL (crc (wordL s.size ++ bytesOf s)) ++ bytesOf s).set q v := by
    rw [frB_parts, List.set_append, if_neg (by rw [hn4]; omega), hn4, Nat.add_sub_cancel_left]
  have hlen : ((frB s).set (4 + q) v ++ r).length = 8 + s.size + r.length := by rw [List.length_append, List.length_set, frB_length]
  have hnum : numL ((frB s).set (4 + q) v ++ r) = s.size := by rw [hset, List.append_assoc]; exact numL_word (by omega) _
  have hcl : (wordL (crc (wordL s.size ++ bytesOf s))).length = 4 := rfl
  have hbl := bytesOf_length s
  unfold firstL
  rw [if_neg (by omega), hnum, if_neg (by omega), if_neg]
  by_cases h4 : q < 4
  · -- the check sum's own bytes
    have e2 : (wordL (crc (wordL s.size ++ bytesOf s)) ++ bytesOf s).set q v = (wordL (crc (wordL s.size ++ bytesOf s))).set q v ++ bytesOf s := by rw [List.set_append, if_pos (by rw [hcl]; exact h4)]
    have e3 : ((frB s).set (4 + q) v ++ r) = (wordL s.size ++ (wordL (crc (wordL s.size ++ bytesOf s))).set q v) ++ (bytesOf s ++ r) := by rw [hset, e2]; simp only [List.append_assoc]
    have hl8 : (wordL s.size ++ (wordL (crc (wordL s.size ++ bytesOf s))).set q v).length = 8 := by rw [List.length_append, List.length_set]; rfl
    have e4 : (((frB s).set (4 + q) v ++ r).drop 8).take s.size = bytesOf s := by
      rw [e3, List.drop_append_of_le_length (by omega), List.drop_eq_nil_of_le (by omega), List.nil_append, List.take_append_of_le_length (by omega), List.take_of_length_le (by omega)]
    have e5 : ((frB s).set (4 + q) v ++ r).take 8 = wordL s.size ++ (wordL (crc (wordL s.size ++ bytesOf s))).set q v := by
      rw [e3, List.take_append_of_le_length (by omega), List.take_of_length_le (by omega)]
    rw [e4, e5]
    intro h
    unfold headL at h
    rw [hbl] at h
    have h2 := (List.append_cancel_left h).symm
    refine set_ne (by rw [hcl]; exact h4) ?_ h2
    intro e
    refine hne (e.trans ?_)
    simp only [frB_parts]
    rw [List.getElem_append_right (by rw [hn4]; omega)]
    simp only [hn4, Nat.add_sub_cancel_left]
    rw [List.getElem_append_left (by rw [hcl]; exact h4)]
  · -- the payload's bytes
    obtain ⟨i, rfl⟩ : ∃ i, q = 4 + i := ⟨q - 4, by omega⟩
    have hi : i < (bytesOf s).length := by omega
    have e2 : (wordL (crc (wordL s.size ++ bytesOf s)) ++ bytesOf s).set (4 + i) v = wordL (crc (wordL s.size ++ bytesOf s)) ++ (bytesOf s).set i v := by rw [List.set_append, if_neg (by rw [hcl]; omega), hcl, Nat.add_sub_cancel_left]
    have e3 : ((frB s).set (4 + (4 + i)) v ++ r) = (wordL s.size ++ wordL (crc (wordL s.size ++ bytesOf s))) ++ ((bytesOf s).set i v ++ r) := by rw [hset, e2]; simp only [List.append_assoc]
    have hl8 : (wordL s.size ++ wordL (crc (wordL s.size ++ bytesOf s))).length = 8 := rfl
    have hsl : ((bytesOf s).set i v).length = s.size := by rw [List.length_set, hbl]
    have e4 : (((frB s).set (4 + (4 + i)) v ++ r).drop 8).take s.size = (bytesOf s).set i v := by
      rw [e3, List.drop_append_of_le_length (by omega), List.drop_eq_nil_of_le (by omega), List.nil_append, List.take_append_of_le_length (by omega), List.take_of_length_le (by omega)]
    have e5 : ((frB s).set (4 + (4 + i)) v ++ r).take 8 = wordL s.size ++ wordL (crc (wordL s.size ++ bytesOf s)) := by
      rw [e3, List.take_append_of_le_length (by omega), List.take_of_length_le (by omega)]
    rw [e4, e5]
    intro h
    unfold headL at h
    rw [hsl] at h
    have hb := bytesOf_bts s
    have h2 := wordL_inj (crc_lt ((wordL_bts _).append (bts_set hb hv))) (crc_lt ((wordL_bts _).append hb)) (List.append_cancel_left h)
    have hx : (bytesOf s)[i] = (frB s)[4 + (4 + i)]'(by rw [frB_length]; omega) := by
      simp only [frB_parts]
      rw [List.getElem_append_right (by rw [hn4]; omega)]
      simp only [hn4, Nat.add_sub_cancel_left]
      rw [List.getElem_append_right (by rw [hcl]; omega)]
      simp only [hcl, Nat.add_sub_cancel_left]
    have e6 : bytesOf s = (bytesOf s).take i ++ (bytesOf s)[i] :: (bytesOf s).drop (i + 1) := by rw [List.getElem_cons_drop, List.take_append_drop]
    have e7 : (bytesOf s).set i v = (bytesOf s).take i ++ v :: (bytesOf s).drop (i + 1) := by rw [List.set_eq_take_append_cons_drop, if_pos hi]
    rw [e7] at h2
    have h3 : crc ((wordL s.size ++ (bytesOf s).take i) ++ v :: (bytesOf s).drop (i + 1)) = crc ((wordL s.size ++ (bytesOf s).take i) ++ (bytesOf s)[i] :: (bytesOf s).drop (i + 1)) := by
      rw [List.append_assoc, List.append_assoc, h2, ← e6]
    exact crc_differs ((wordL_bts _).append (hb.take i)) (hb.drop _) hv (hb _ (List.getElem_mem hi)) (by rw [hx]; exact hne) h3
/-- FrameTurned, in plain words. -/
theorem turned_scan {l : List ByteArray} (hs : ∀ s ∈ l, s.size ≤ 65536) {k q : Nat} (hk : k < l.length) (hq : q < 4 + l[k].size) {v : Int} (hv : 0 ≤ v ∧ v < 256) (hp : totS (l.take k) + 4 + q < (catF l).length) (hne : v ≠ (catF l)[totS (l.take k) + 4 + q]) :
    scanS ((catF l).set (totS (l.take k) + 4 + q) v) = l.take k := by
  have e : catF l = catF (l.take k) ++ (frB l[k] ++ catF (l.drop (k + 1))) := by rw [← catF_cons, ← catF_append, List.getElem_cons_drop, List.take_append_drop]
  have hl : (catF (l.take k)).length = totS (l.take k) := catF_length _
  have hF : 4 + q < (frB l[k]).length := by rw [frB_length]; omega
  have e2 : (catF l).set (totS (l.take k) + 4 + q) v = catF (l.take k) ++ ((frB l[k]).set (4 + q) v ++ catF (l.drop (k + 1))) := by
    rw [e, List.set_append, if_neg (by omega), hl, show totS (l.take k) + 4 + q - totS (l.take k) = 4 + q by omega, List.set_append, if_pos hF]
  rw [e2, scan_cat _ (fun s h => hs s (List.mem_of_mem_take h))]
  rw [scanS_none (firstL_turned _ (hs _ (List.getElem_mem hk)) _ hq hv ?_), List.append_nil]
  intro h
  refine hne (h.trans ?_)
  simp only [e]
  rw [List.getElem_append_right (by omega)]
  simp only [hl, show totS (l.take k) + 4 + q - totS (l.take k) = 4 + q by omega]
  rw [List.getElem_append_left hF]
theorem bits_xor8 {a b : Nat} (ha : a < 256) (hb : b < 256) : Go.bits .xor .u8 (a : Int) (b : Int) = ((a ^^^ b : Nat) : Int) := by
  have h := Nat.xor_lt_two_pow (n := 8) ha hb
  unfold Go.bits
  show IntKind.wrap .u8 _ = _
  simp only [BitVec.toNat_xor, BitVec.ofInt_natCast, BitVec.toNat_ofNat]
  show IntKind.wrap .u8 (((a % 2 ^ 8) ^^^ (b % 2 ^ 8) : Nat) : Int) = _
  rw [Nat.mod_eq_of_lt ha, Nat.mod_eq_of_lt hb]
  simp only [IntKind.wrap, IntKind.signed, IntKind.bits]
  first | omega | (simp; omega)
theorem wrap8 {p : Nat} (h : p < 256) : IntKind.u8.wrap (p : Int) = (p : Int) := by
  simp only [IntKind.wrap, IntKind.signed, IntKind.bits]
  first | omega | (simp; omega)
/-- A bit of a byte turned. -/
theorem turn_byte {x e : Int} (hx : 0 ≤ x ∧ x < 256) (he : 0 ≤ e ∧ e < 8) : ∃ p : Int, IntKind.u8.wrap (2 ^ e.toNat) = p ∧ (0 ≤ Go.bits .xor .u8 x p ∧ Go.bits .xor .u8 x p < 256) ∧ Go.bits .xor .u8 x p ≠ x := by
  obtain ⟨a, rfl⟩ := Int.eq_ofNat_of_zero_le hx.1
  obtain ⟨n, rfl⟩ := Int.eq_ofNat_of_zero_le he.1
  have hn : n < 8 := by omega
  have hp : (2 : Nat) ^ n < 256 := by
    have := Nat.pow_lt_pow_right (a := 2) (by decide) hn
    omega
  have hp0 : 0 < (2 : Nat) ^ n := Nat.pos_of_ne_zero (by simp)
  refine ⟨((2 ^ n : Nat) : Int), ?_, ?_, ?_⟩
  · rw [Int.toNat_natCast, show (2 : Int) ^ n = ((2 ^ n : Nat) : Int) by simp]
    exact wrap8 hp
  · rw [bits_xor8 (by omega) hp]
    have := Nat.xor_lt_two_pow (n := 8) (show a < 2 ^ 8 by omega) hp
    omega
  · rw [bits_xor8 (by omega) hp]
    intro h
    have h2 : a ^^^ 2 ^ n = a := by omega
    have h3 : (2 ^ n) ^^^ a = 0 ^^^ a := by rw [Nat.xor_comm, h2, Nat.zero_xor]
    have := xor_left_inj h3
    omega
end Go.Proofs.Ytlmpdlmamopbeaa.P
