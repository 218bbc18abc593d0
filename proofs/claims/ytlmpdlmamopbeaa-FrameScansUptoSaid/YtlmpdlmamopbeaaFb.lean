/- What step, ref.Sum and the words answer, in plain words. -/
import Derived.Test.YtlmpdlmamopbeaaFa
import Derived.Test.YtlmpdlmamopbeaaP13
import Derived.Test.YtlmpdlmamopbeaaP19
import Derived.Test.YtlmpdlmamopbeaaP20
import Derived.Test.YtlmpdlmamopbeaaP21
import Derived.Test.YtlmpdlmamopbeaaP25
namespace Go.Proofs.Ytlmpdlmamopbeaa.P
open Go.RowKit Go.Proofs.YtlmpdlmamopbeaaW.PrintWords Go.Proofs.YtlmpdlmamopbeaaW.PrintLast Go.Proofs.YtlmpdlmamopbeaaW.PrintMore
set_option linter.unusedVariables false
set_option linter.unusedSimpArgs false
theorem w64n {j : Nat} (h : j < 4611686018427387904) : wrap64 ((j : Int) + 1) = ((j + 1 : Nat) : Int) := by unfold wrap64; omega
theorem step_l0 : ∀ (d j x : Nat), j + d = 8 → x < 2 ^ 32 → frame_step.l0 (d + 1) (x : Int) (j : Int) = some ((stN d x : Nat) : Int)
  | 0, j, x, h, hx => by
    rw [frame_step.l0, if_neg (by omega)]; rfl
  | d + 1, j, x, h, hx => by
    have ih := step_l0 d (j + 1) (st x) (by omega) (st_lt hx)
    rw [frame_step.l0, if_pos (by omega), w64n (by omega), bits_and1 hx]
    by_cases c : x % 2 = 1
    · rw [if_pos (by omega), (st_int hx).1 c, ih]; rfl
    · rw [if_neg (by omega), (st_int hx).2 c, ih]; rfl
theorem step_f {x : Nat} (hx : x < 2 ^ 32) : frame_step.f 9 (x : Int) = some ((stN 8 x : Nat) : Int) := step_l0 8 0 x rfl hx
theorem refsum_l1 (b : List Int) (i : Nat) (K : Nat) (hi : i < 4611686018427387904) : ∀ (d j x : Nat), j + d = 8 → x < 2 ^ 32 → pannierref02_Sum.l1 (K + d + 1) b (x : Int) (i : Int) (j : Int) = pannierref02_Sum.l0 K b ((stN d x : Nat) : Int) ((i + 1 : Nat) : Int)
  | 0, j, x, h, hx => by
    rw [show K + 0 + 1 = K + 1 from rfl, pannierref02_Sum.l1, if_neg (by omega), w64n hi]; rfl
  | d + 1, j, x, h, hx => by
    have ih := refsum_l1 b i K hi d (j + 1) (st x) (by omega) (st_lt hx)
    have h1 : Int.tmod (x : Int) 2 = ((x % 2 : Nat) : Int) := by rw [Int.tmod_eq_emod_of_nonneg (by omega)]; omega
    have h2 : Int.tdiv (x : Int) 2 % 4294967296 = (x : Int) / 2 := by rw [Int.tdiv_eq_ediv_of_nonneg (by omega)]; omega
    rw [show K + (d + 1) + 1 = (K + d + 1) + 1 from rfl, pannierref02_Sum.l1, if_pos (by omega), w64n (by omega), h1, h2]
    by_cases c : x % 2 = 1
    · rw [if_pos (by omega), (st_int hx).1 c, ih]; rfl
    · rw [if_neg (by omega), (st_int hx).2 c, ih]; rfl
theorem rd_get {b : List Int} {i : Nat} (h : i < b.length) : rd b (i : Int) = b[i] := by
  unfold rd
  rw [Int.toNat_natCast, List.getD_eq_getElem?_getD, List.getElem?_eq_getElem h]; rfl
theorem refsum_l0 (b : List Int) (hb : Bts b) (hl : b.length < 4611686018427387904) : ∀ (d i x : Nat), i + d = b.length → x < 2 ^ 32 → ∃ K, pannierref02_Sum.l0 K b (x : Int) (i : Int) = some ((crcF (b.drop i) x ^^^ 4294967295 : Nat) : Int)
  | 0, i, x, h, hx => ⟨1, by
    rw [pannierref02_Sum.l0, if_neg (by omega), List.drop_eq_nil_of_le (by omega), show (4294967295 : Int) = ((4294967295 : Nat) : Int) from rfl, bits_xor hx (by decide)]; rfl⟩
  | d + 1, i, x, h, hx => by
    have hil : i < b.length := by omega
    have hc := hb _ (List.getElem_mem hil)
    obtain ⟨c, ec⟩ := Int.eq_ofNat_of_zero_le hc.1
    have hc2 : c < 256 := by omega
    obtain ⟨K, hK⟩ := refsum_l0 b hb hl d (i + 1) (crcU x c) (by omega) (crcU_lt hx hc2)
    refine ⟨K + 8 + 1 + 1, ?_⟩
    rw [pannierref02_Sum.l0, if_pos (by omega), if_pos (by omega), rd_get hil, ec, show ((c : Nat) : Int) % 4294967296 = (c : Nat) by omega, bits_xor hx (by omega)]
    have := refsum_l1 b i K (by omega) 8 0 (x ^^^ c) rfl (Nat.xor_lt_two_pow hx (by omega))
    rw [show ((0 : Nat) : Int) = 0 from rfl] at this
    rw [this]
    show pannierref02_Sum.l0 K b ((crcU x c : Nat) : Int) _ = _
    rw [hK, List.drop_eq_getElem_cons hil]
    show _ = some (((crcF (b.drop (i + 1)) (crcU x (b[i]).toNat)) ^^^ 4294967295 : Nat) : Int)
    rw [ec]; rfl
theorem refsum_f (b : List Int) (hb : Bts b) (hl : b.length < 4611686018427387904) : ∃ K, pannierref02_Sum.f K b = some ((crc b : Nat) : Int) := refsum_l0 b hb hl b.length 0 4294967295 (by omega) (by decide)
/-- A number's four bytes. -/
def wordL (x : Nat) : List Int := [((x / 16777216 % 256 : Nat) : Int), ((x / 65536 % 256 : Nat) : Int), ((x / 256 % 256 : Nat) : Int), ((x % 256 : Nat) : Int)]
theorem wordL_bts (x : Nat) : Bts (wordL x) := fun y hy => by
  unfold wordL at hy
  simp only [List.mem_cons, List.not_mem_nil, or_false] at hy
  omega
theorem wordL_length (x : Nat) : (wordL x).length = 4 := rfl
theorem word_f {x : Nat} (hx : x < 2 ^ 32) : frame_word.f (x : Int) = some (wordL x) := by
  unfold frame_word.f wordL
  congr 2
theorem four_f {x : Nat} (hx : x < 2 ^ 32) : pannierref02_four.f (x : Int) = some (wordL x) := by
  unfold pannierref02_four.f wordL
  rw [Int.tdiv_eq_ediv_of_nonneg (by omega), Int.tdiv_eq_ediv_of_nonneg (by omega), Int.tdiv_eq_ediv_of_nonneg (by omega)]
  congr 1
  rw [show ((x : Int) / 16777216 % 4294967296 % 256) = ((x / 16777216 % 256 : Nat) : Int) by omega, show ((x : Int) / 65536 % 4294967296 % 256) = ((x / 65536 % 256 : Nat) : Int) by omega, show ((x : Int) / 256 % 4294967296 % 256) = ((x / 256 % 256 : Nat) : Int) by omega, show ((x : Int) % 256) = ((x % 256 : Nat) : Int) by omega]
/-- The number of four bytes. -/
def numL (b : List Int) : Nat := (rd b 0).toNat * 16777216 + (rd b 1).toNat * 65536 + (rd b 2).toNat * 256 + (rd b 3).toNat
theorem rd_bts {b : List Int} (hb : Bts b) (i : Int) : 0 ≤ rd b i ∧ rd b i < 256 := by
  unfold rd
  rw [List.getD_eq_getElem?_getD]
  cases h : b[i.toNat]? with
  | none => exact ⟨Int.le_refl _, by decide⟩
  | some v => exact hb v (List.mem_of_getElem? h)
theorem numL_lt {b : List Int} (hb : Bts b) : numL b < 2 ^ 32 := by
  have h0 := rd_bts hb 0
  have h1 := rd_bts hb 1
  have h2 := rd_bts hb 2
  have h3 := rd_bts hb 3
  unfold numL
  omega
theorem refnumber_f {b : List Int} (hb : Bts b) (h4 : 4 ≤ b.length) : pannierref02_number.f b = some ((numL b : Nat) : Int) := by
  have h0 := rd_bts hb 0
  have h1 := rd_bts hb 1
  have h2 := rd_bts hb 2
  have h3 := rd_bts hb 3
  unfold pannierref02_number.f numL
  rw [if_pos (by omega), if_pos (by omega), if_pos (by omega), if_pos (by omega)]
  congr 1
  omega
theorem numL_word {x : Nat} (hx : x < 2 ^ 32) (r : List Int) : numL (wordL x ++ r) = x := by
  show ((x / 16777216 % 256 : Nat) : Int).toNat * 16777216 + ((x / 65536 % 256 : Nat) : Int).toNat * 65536 + ((x / 256 % 256 : Nat) : Int).toNat * 256 + ((x % 256 : Nat) : Int).toNat = x
  omega
theorem word_numL : ∀ {b : List Int}, Bts b → 4 ≤ b.length → wordL (numL b) = b.take 4
  | x0 :: x1 :: x2 :: x3 :: r, hb, h => by
    have h0 := hb x0 (by simp)
    have h1 := hb x1 (by simp)
    have h2 := hb x2 (by simp)
    have h3 := hb x3 (by simp)
    have e : numL (x0 :: x1 :: x2 :: x3 :: r) = x0.toNat * 16777216 + x1.toNat * 65536 + x2.toNat * 256 + x3.toNat := rfl
    rw [e]
    unfold wordL
    show _ = [x0, x1, x2, x3]
    rw [List.cons.injEq, List.cons.injEq, List.cons.injEq, List.cons.injEq]
    refine ⟨by omega, by omega, by omega, by omega, rfl⟩
  | [], _, h => absurd h (by simp)
  | [_], _, h => absurd h (by simp)
  | [_, _], _, h => absurd h (by simp)
  | [_, _, _], _, h => absurd h (by simp)
end Go.Proofs.Ytlmpdlmamopbeaa.P
