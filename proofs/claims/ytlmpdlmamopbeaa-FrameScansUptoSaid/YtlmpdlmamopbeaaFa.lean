/- Check sums in plain words: a sum is made byte by byte, and two sums of bytes that differ in one place differ. -/
import Derived.Test.YtlmpdlmamopbeaaP0
namespace Go.Proofs.Ytlmpdlmamopbeaa.P
set_option linter.unusedVariables false
set_option linter.unusedSimpArgs false
def P0 : Nat := 2197175160
def st (x : Nat) : Nat := x / 2 ^^^ (if x % 2 = 1 then P0 else 0)
def stN : Nat → Nat → Nat
  | 0, x => x
  | k + 1, x => stN k (st x)
def crcU (x c : Nat) : Nat := stN 8 (x ^^^ c)
def crcF (b : List Int) (x : Nat) : Nat := b.foldl (fun x c => crcU x c.toNat) x
def crc (b : List Int) : Nat := crcF b 4294967295 ^^^ 4294967295
theorem st_lt {x : Nat} (h : x < 2 ^ 32) : st x < 2 ^ 32 := by
  unfold st
  refine Nat.xor_lt_two_pow (by omega) ?_
  split
  · decide
  · decide
theorem stN_lt : ∀ (k : Nat) {x : Nat}, x < 2 ^ 32 → stN k x < 2 ^ 32
  | 0, _, h => h
  | k + 1, _, h => stN_lt k (st_lt h)
theorem xor_mod2 (a b : Nat) : (a ^^^ b) % 2 = (a % 2 + b % 2) % 2 := by
  rw [show (2 : Nat) = 2 ^ 1 from rfl, Nat.xor_mod_two_pow]
  have h1 : a % 2 ^ 1 = 0 ∨ a % 2 ^ 1 = 1 := by omega
  have h2 : b % 2 ^ 1 = 0 ∨ b % 2 ^ 1 = 1 := by omega
  rcases h1 with h1 | h1 <;> rcases h2 with h2 | h2 <;> rw [h1, h2] <;> rfl
theorem xor_div2 (a b : Nat) : (a ^^^ b) / 2 = a / 2 ^^^ b / 2 := by
  have := Nat.shiftRight_xor_distrib (a := a) (b := b) (i := 1)
  rwa [Nat.shiftRight_eq_div_pow, Nat.shiftRight_eq_div_pow, Nat.shiftRight_eq_div_pow, Nat.pow_one] at this
theorem xor4 (a b p q : Nat) : (a ^^^ b) ^^^ (p ^^^ q) = (a ^^^ p) ^^^ (b ^^^ q) := by
  rw [Nat.xor_assoc, Nat.xor_assoc, ← Nat.xor_assoc b p q, Nat.xor_comm b p, Nat.xor_assoc p b q]
theorem st_xor (a b : Nat) : st (a ^^^ b) = st a ^^^ st b := by
  have hp : (if (a ^^^ b) % 2 = 1 then P0 else 0) = (if a % 2 = 1 then P0 else 0) ^^^ (if b % 2 = 1 then P0 else 0) := by
    rw [xor_mod2]
    have h1 : a % 2 = 0 ∨ a % 2 = 1 := by omega
    have h2 : b % 2 = 0 ∨ b % 2 = 1 := by omega
    rcases h1 with h1 | h1 <;> rcases h2 with h2 | h2 <;> rw [h1, h2] <;> rfl
  unfold st
  rw [xor_div2, hp, xor4]
theorem stN_xor : ∀ (k a b : Nat), stN k (a ^^^ b) = stN k a ^^^ stN k b
  | 0, _, _ => rfl
  | k + 1, a, b => by
    show stN k (st (a ^^^ b)) = stN k (st a) ^^^ stN k (st b)
    rw [st_xor, stN_xor]
theorem stN_high : ∀ (k x : Nat), stN k (2 ^ k * x) = x
  | 0, x => by show 2 ^ 0 * x = x; rw [Nat.pow_zero, Nat.one_mul]
  | k + 1, x => by
    show stN k (st (2 ^ (k + 1) * x)) = x
    have h : 2 ^ (k + 1) * x = 2 * (2 ^ k * x) := by rw [Nat.pow_succ, Nat.mul_comm (2 ^ k) 2, Nat.mul_assoc]
    have e : st (2 ^ (k + 1) * x) = 2 ^ k * x := by
      rw [h]
      unfold st
      rw [if_neg (by omega), Nat.xor_zero]
      omega
    rw [e, stN_high]
theorem split256 (z : Nat) : z = (256 * (z / 256)) ^^^ (z % 256) := by
  have h := Nat.two_pow_add_eq_or_of_lt (i := 8) (b := z % 256) (by omega) (z / 256)
  have h2 : 256 * (z / 256) ^^^ z % 256 = 256 * (z / 256) ||| z % 256 := by
    apply Nat.eq_of_testBit_eq
    intro i
    rw [Nat.testBit_xor, Nat.testBit_or, show (256 : Nat) = 2 ^ 8 from rfl, Nat.testBit_two_pow_mul, Nat.testBit_mod_two_pow]
    by_cases q : 8 ≤ i
    · rw [decide_eq_true q, decide_eq_false (show ¬ i < 8 by omega)]; simp
    · rw [decide_eq_false q, decide_eq_true (show i < 8 by omega)]; simp
  rw [h2, show (256 : Nat) = 2 ^ 8 from rfl, ← h]
  omega
/-- The table's way: the low byte alone goes through the steps. -/
theorem crcU_low (x c : Nat) (hc : c < 256) : x / 256 ^^^ stN 8 ((x ^^^ c) % 256) = crcU x c := by
  unfold crcU
  have h := split256 (x ^^^ c)
  have h2 : (x ^^^ c) / 256 = x / 256 := by
    have := Nat.shiftRight_xor_distrib (a := x) (b := c) (i := 8)
    rw [Nat.shiftRight_eq_div_pow, Nat.shiftRight_eq_div_pow, Nat.shiftRight_eq_div_pow] at this
    rw [show (256 : Nat) = 2 ^ 8 from rfl, this, Nat.div_eq_of_lt (show c < 2 ^ 8 from hc), Nat.xor_zero]
  conv => rhs; rw [h, stN_xor]
  rw [show (256 : Nat) = 2 ^ 8 from rfl, stN_high, ← show (256 : Nat) = 2 ^ 8 from rfl, h2]
theorem xor_left_inj {a b c : Nat} (h : a ^^^ c = b ^^^ c) : a = b := by
  have := congrArg (· ^^^ c) h
  simpa [Nat.xor_assoc] using this
theorem st_inj {x y : Nat} (hx : x < 2 ^ 32) (hy : y < 2 ^ 32) (h : st x = st y) : x = y := by
  have hb : ∀ z, z < 2 ^ 32 → (st z).testBit 31 = decide (z % 2 = 1) := fun z hz => by
    unfold st
    rw [Nat.testBit_xor, Nat.testBit_lt_two_pow (show z / 2 < 2 ^ 31 by omega), Bool.false_xor]
    by_cases q : z % 2 = 1
    · rw [if_pos q, decide_eq_true q]; decide
    · rw [if_neg q, decide_eq_false q]; decide
  have h1 := hb x hx
  rw [h, hb y hy] at h1
  have h2 : x % 2 = y % 2 := by
    have : y % 2 = 1 ↔ x % 2 = 1 := by simpa using h1
    omega
  unfold st at h
  rw [h2] at h
  have := xor_left_inj h
  omega
theorem stN_inj : ∀ (k : Nat) {x y : Nat}, x < 2 ^ 32 → y < 2 ^ 32 → stN k x = stN k y → x = y
  | 0, _, _, _, _, h => h
  | k + 1, _, _, hx, hy, h => st_inj hx hy (stN_inj k (st_lt hx) (st_lt hy) h)
theorem crcU_lt {x c : Nat} (hx : x < 2 ^ 32) (hc : c < 256) : crcU x c < 2 ^ 32 := stN_lt 8 (Nat.xor_lt_two_pow hx (Nat.lt_trans hc (by decide)))
/-- Bytes. -/
def Bts (b : List Int) : Prop := ∀ x ∈ b, 0 ≤ x ∧ x < 256
theorem crcF_lt : ∀ {b : List Int} {x : Nat}, Bts b → x < 2 ^ 32 → crcF b x < 2 ^ 32
  | [], _, _, hx => hx
  | c :: r, x, hb, hx => by
    have := hb c (List.mem_cons_self ..)
    exact crcF_lt (b := r) (x := crcU x c.toNat) (fun y hy => hb y (List.mem_cons_of_mem _ hy)) (crcU_lt hx (by omega))
theorem crc_lt {b : List Int} (hb : Bts b) : crc b < 2 ^ 32 := Nat.xor_lt_two_pow (crcF_lt hb (by decide)) (by decide)
theorem crcF_inj : ∀ {b : List Int} {x y : Nat}, Bts b → x < 2 ^ 32 → y < 2 ^ 32 → crcF b x = crcF b y → x = y
  | [], _, _, _, _, _, h => h
  | c :: r, x, y, hb, hx, hy, h => by
    have hc := hb c (List.mem_cons_self ..)
    have h1 := crcF_inj (fun z hz => hb z (List.mem_cons_of_mem _ hz)) (crcU_lt hx (by omega)) (crcU_lt hy (by omega)) h
    have h2 := stN_inj 8 (Nat.xor_lt_two_pow hx (show c.toNat < 2 ^ 32 by omega)) (Nat.xor_lt_two_pow hy (show c.toNat < 2 ^ 32 by omega)) h1
    exact xor_left_inj h2
theorem crcF_append (a b : List Int) (x : Nat) : crcF (a ++ b) x = crcF b (crcF a x) := by unfold crcF; rw [List.foldl_append]
/-- One byte that differs makes another sum. -/
theorem crc_differs {a r : List Int} {c d : Int} (ha : Bts a) (hr : Bts r) (hc : 0 ≤ c ∧ c < 256) (hd : 0 ≤ d ∧ d < 256) (hne : c ≠ d) : crc (a ++ c :: r) ≠ crc (a ++ d :: r) := fun h => by
  unfold crc at h
  have h1 := xor_left_inj h
  rw [crcF_append, crcF_append] at h1
  have hx := crcF_lt ha (show 4294967295 < 2 ^ 32 by decide)
  have h2 := crcF_inj hr (crcU_lt hx (show c.toNat < 256 by omega)) (crcU_lt hx (show d.toNat < 256 by omega)) h1
  have h3 := stN_inj 8 (Nat.xor_lt_two_pow hx (show c.toNat < 2 ^ 32 by omega)) (Nat.xor_lt_two_pow hx (show d.toNat < 2 ^ 32 by omega)) h2
  rw [Nat.xor_comm _ c.toNat, Nat.xor_comm _ d.toNat] at h3
  have := xor_left_inj h3
  omega
theorem bits_xor {a b : Nat} (ha : a < 2 ^ 32) (hb : b < 2 ^ 32) : Go.bits .xor .u32 (a : Int) (b : Int) = ((a ^^^ b : Nat) : Int) := by
  have h := Nat.xor_lt_two_pow ha hb
  unfold Go.bits
  show IntKind.wrap .u32 _ = _
  simp only [BitVec.toNat_xor, BitVec.ofInt_natCast, BitVec.toNat_ofNat]
  show IntKind.wrap .u32 (((a % 2 ^ 32) ^^^ (b % 2 ^ 32) : Nat) : Int) = _
  rw [Nat.mod_eq_of_lt ha, Nat.mod_eq_of_lt hb]
  simp only [IntKind.wrap, IntKind.signed, IntKind.bits]
  first | omega | (simp; omega)
theorem bits_and255 {a : Nat} (ha : a < 2 ^ 32) : Go.bits .and .u32 (a : Int) 255 = ((a % 256 : Nat) : Int) := by
  unfold Go.bits
  show IntKind.wrap .u32 _ = _
  rw [show (255 : Int) = ((255 : Nat) : Int) from rfl]
  simp only [BitVec.toNat_and, BitVec.ofInt_natCast, BitVec.toNat_ofNat]
  show IntKind.wrap .u32 (((a % 2 ^ 32) &&& (255 % 2 ^ 32) : Nat) : Int) = _
  rw [Nat.mod_eq_of_lt ha, Nat.mod_eq_of_lt (show 255 < 2 ^ 32 by decide), show (255 : Nat) = 2 ^ 8 - 1 from rfl, Nat.and_two_pow_sub_one_eq_mod]
  simp only [IntKind.wrap, IntKind.signed, IntKind.bits]
  first | omega | (simp; omega)
theorem bits_and1 {a : Nat} (ha : a < 2 ^ 32) : Go.bits .and .u32 (a : Int) 1 = ((a % 2 : Nat) : Int) := by
  unfold Go.bits
  show IntKind.wrap .u32 _ = _
  rw [show (1 : Int) = ((1 : Nat) : Int) from rfl]
  simp only [BitVec.toNat_and, BitVec.ofInt_natCast, BitVec.toNat_ofNat]
  show IntKind.wrap .u32 (((a % 2 ^ 32) &&& (1 % 2 ^ 32) : Nat) : Int) = _
  rw [Nat.mod_eq_of_lt ha, Nat.mod_eq_of_lt (show 1 < 2 ^ 32 by decide), show (1 : Nat) = 2 ^ 1 - 1 from rfl, Nat.and_two_pow_sub_one_eq_mod]
  simp only [IntKind.wrap, IntKind.signed, IntKind.bits]
  first | omega | (simp; omega)
theorem st_int {x : Nat} (hx : x < 2 ^ 32) : (x % 2 = 1 → Go.bits .xor .u32 ((x : Int) / 2) 2197175160 = (st x : Nat)) ∧ (¬ x % 2 = 1 → (x : Int) / 2 = (st x : Nat)) := by
  unfold st
  constructor
  · intro h
    rw [if_pos h, show (2197175160 : Int) = ((P0 : Nat) : Int) from rfl, show (x : Int) / 2 = ((x / 2 : Nat) : Int) by omega, bits_xor (by omega) (by decide)]
  · intro h
    rw [if_neg h, Nat.xor_zero]; omega
end Go.Proofs.Ytlmpdlmamopbeaa.P
