/- A walk by the kernel: operations on values, conversions. A walk by the kernel: operations on numbers that are not known. A walk by the kernel: operations on numbers that are not known: their laws. A walk by the kernel: conversions. A walk by the kernel: blocks that are made. A walk by the kernel: structs, rows. -/
import Derived.Test.YtnnalcfdeldocaaGreatDoorL05
import Derived.Laws.IdiomStrings
import Derived.Laws.BytesArg
import Derived.Laws.Append
import Derived.Laws.Runes
namespace Go.Proofs.YtnnalcfdeldocaaGreatDoor.X
open Go
set_option linter.unusedVariables false
set_option linter.unusedSimpArgs false
/-- A step that answers a value. -/
def Out (M : Nat → Prop) (B : Nat) (ν : Nu) (s : St) (W : World) (r : Result Value) (v : AV) (s1 : St) : Prop := ∃ V W1 ν1, r = .ok V W1 ∧ conc ν1 v = some V ∧ Eff M B ν ν1 s s1 W W1
section
variable {P : Program} {M : Nat → Prop} {B : Nat} {ν : Nu} {s s1 : St} {W : World}
theorem Out.pure {v : AV} {V : Value} {r : Result Value} (h : Sat M B ν s W) (hr : r = .ok V W) (hv : conc ν v = some V) : Out M B ν s W r v s := ⟨V, W, ν, hr, hv, Eff.refl h⟩
theorem scal_ok {x : AV} {V : Value} (h : scal x = some V) : conc ν x = some V := by
  cases x <;> simp only [scal, Option.some.injEq] at h <;> first | (subst h; simp [conc]; done) | cases h
theorem eqGuard_run {op : BinOp} {t : TypeId} {x y : Operand} {X Y : Value} (h1 : X ≠ .nilIface) (h2 : (∃ a, X = .agg a) → P.eqGuardType P.depth t = false) : (eqGuard op t x y X Y).run P W = .ok () W := by
  cases X with
  | nilIface => exact absurd rfl h1
  | agg a =>
    cases Y with
    | agg b => exact run_eqGuard_agg W op t x y a b (h2 ⟨a, rfl⟩)
    | _ => cases op <;> rfl
  | _ => cases op <;> rfl
theorem conc_sym {k : IntKind} {c j : Nat} {X : Value} (h : conc ν (.sym k c j) = some X) : ∃ inf z, ν j = some inf ∧ symVal c inf.cap = some z ∧ X = .int k z := by
  simp only [conc, Option.bind_eq_some_iff, Option.map_eq_some_iff] at h
  obtain ⟨a, h1, z, h2, h3⟩ := h
  exact ⟨a, z, h1, h2, h3.symm⟩
theorem conc_sstr {l : List Nat} {X : Value} (h : conc ν (.sstr l) = some X) : ∃ b, bytesS ν l = some b ∧ X = .string ⟨b.toArray⟩ := by
  simp only [conc, Option.map_eq_some_iff] at h
  obtain ⟨a, h1, h2⟩ := h
  exact ⟨a, h1, h2.symm⟩
theorem conc_not_nilIface {x : AV} {X : Value} (hX : conc ν x = some X) (h : x ≠ .iface0) : X ≠ .nilIface := by
  intro e
  subst e
  cases x with
  | iface0 => exact h rfl
  | str b => obtain ⟨_, e⟩ := conc_str hX; cases e
  | ptr k i => obtain ⟨_, _, e⟩ := conc_ptr hX; cases e
  | slice k i l c => obtain ⟨_, _, _, e, _⟩ := conc_slice hX; cases e
  | map k => obtain ⟨_, _, e⟩ := conc_map hX; cases e
  | fn f a b => obtain ⟨_, _, _, _, e⟩ := conc_fn hX; cases e
  | agg cs => obtain ⟨_, _, e⟩ := conc_agg hX; cases e
  | yld k => simp only [conc, Option.map_eq_some_iff] at hX; obtain ⟨_, _, e⟩ := hX; cases e
  | iface t v => simp only [conc, Option.map_eq_some_iff] at hX; obtain ⟨_, _, e⟩ := hX; cases e
  | tup v => simp only [conc, Option.map_eq_some_iff] at hX; obtain ⟨_, _, e⟩ := hX; cases e
  | sym k c j => obtain ⟨_, _, _, _, e⟩ := conc_sym hX; cases e
  | sstr s => obtain ⟨_, _, e⟩ := conc_sstr hX; cases e
  | _ => simp [conc] at hX
theorem eqE_guard {t : TypeId} {x y : AV} {r : Bool} (hev : eqE P t x y = some r) {X : Value} (hX : conc ν x = some X) : X ≠ .nilIface ∧ ((∃ a, X = .agg a) → P.eqGuardType P.depth t = false) := by
  refine ⟨conc_not_nilIface hX (fun e => by subst e; cases y <;> simp [eqE] at hev), fun ⟨a, e⟩ => ?_⟩
  subst e
  cases x with
  | agg xs =>
    cases y with
    | agg ys =>
      simp only [eqE] at hev
      split at hev
      · split at hev
        · cases hev
        · split at hev
          · cases hev
          · next q => exact q
      · split at hev
        · split at hev
          · split at hev
            · cases hev
            · next q => exact q
          · cases hev
        · cases hev
      · cases hev
    | _ => cases hev
  | str b => obtain ⟨_, e⟩ := conc_str hX; cases e
  | ptr k i => obtain ⟨_, _, e⟩ := conc_ptr hX; cases e
  | slice k i l c => obtain ⟨_, _, _, e, _⟩ := conc_slice hX; cases e
  | map k => obtain ⟨_, _, e⟩ := conc_map hX; cases e
  | fn f a b => obtain ⟨_, _, _, _, e⟩ := conc_fn hX; cases e
  | yld k => simp only [conc, Option.map_eq_some_iff] at hX; obtain ⟨_, _, e⟩ := hX; cases e
  | iface t v => simp only [conc, Option.map_eq_some_iff] at hX; obtain ⟨_, _, e⟩ := hX; cases e
  | tup v => simp only [conc, Option.map_eq_some_iff] at hX; obtain ⟨_, _, e⟩ := hX; cases e
  | sym k c j => obtain ⟨_, _, _, _, e⟩ := conc_sym hX; cases e
  | sstr s => obtain ⟨_, _, e⟩ := conc_sstr hX; cases e
  | _ => simp [conc] at hX
/-- '==' and '!=' on what is neither a number nor a text. -/
theorem binE_eq {op : BinOp} {t : TypeId} {x y : AV} {v : AV} (hev : eqB P op t x y = some v) (hn : ∀ k a, x ≠ .int k a) (hs : ∀ a, x ≠ .str a) (hfl : True) {X Y : Value} (hX : conc ν x = some X) (hY : conc ν y = some Y) {ox oy : Operand} :
    ∃ V, (do eqGuard op t ox oy X Y; Go.binOp op t X Y : Sem Value).run P W = .ok V W ∧ conc ν v = some V := by
  have hb : ∀ op : BinOp, (op = .eql ∨ op = .neq) → ∀ r, eqE P t x y = some r → (Go.binOp op t X Y).run P W = ((Op.equal t X Y).run P W).andThen fun b w => .ok (.bool (if op = .eql then b else !b)) w := by
    intro op ho r hr
    cases x with
    | int k a => exact absurd rfl (hn k a)
    | str a => exact absurd rfl (hs a)
    | bool a => simp only [conc, Option.some.injEq] at hX; subst hX; rcases ho with rfl | rfl <;> simp [Go.binOp]
    | ptr0 =>
      rw [conc_ptr0 hX]
      cases y with
      | ptr0 => rw [conc_ptr0 hY]; rcases ho with rfl | rfl <;> simp [Go.binOp]
      | ptr k i => obtain ⟨_, _, rfl⟩ := conc_ptr hY; rcases ho with rfl | rfl <;> simp [Go.binOp]
      | _ => cases hr
    | ptr k i =>
      obtain ⟨_, _, rfl⟩ := conc_ptr hX
      cases y with
      | ptr0 => rw [conc_ptr0 hY]; rcases ho with rfl | rfl <;> simp [Go.binOp]
      | ptr k i => obtain ⟨_, _, rfl⟩ := conc_ptr hY; rcases ho with rfl | rfl <;> simp [Go.binOp]
      | _ => cases hr
    | slice0 => rw [conc_slice0 hX]; rcases ho with rfl | rfl <;> simp [Go.binOp]
    | slice k i l c => obtain ⟨_, _, _, rfl, _⟩ := conc_slice hX; rcases ho with rfl | rfl <;> simp [Go.binOp]
    | map0 => rw [conc_map0 hX]; rcases ho with rfl | rfl <;> simp [Go.binOp]
    | map k => obtain ⟨_, _, rfl⟩ := conc_map hX; rcases ho with rfl | rfl <;> simp [Go.binOp]
    | fn f a b => obtain ⟨_, _, _, _, rfl⟩ := conc_fn hX; rcases ho with rfl | rfl <;> simp [Go.binOp]
    | fn0 => rw [conc_fn0 hX]; rcases ho with rfl | rfl <;> simp [Go.binOp]
    | agg cs => obtain ⟨_, _, rfl⟩ := conc_agg hX; rcases ho with rfl | rfl <;> simp [Go.binOp]
    | _ => cases hr
  cases op with
  | eql =>
    simp only [eqB] at hev
    cases q : eqE P t x y with
    | none => rw [q] at hev; cases hev
    | some r =>
      rw [q] at hev; cases hev
      obtain ⟨g1, g2⟩ := eqE_guard q hX
      refine ⟨.bool r, ?_, by simp [conc]⟩
      have he : (Op.equal t X Y).run P W = .ok r W := eqE_ok (d := 9998) q hX hY
      simp only [Sem.run_bind, eqGuard_run g1 g2, Result.andThen_ok, hb .eql (.inl rfl) r q, he]
      rfl
  | neq =>
    simp only [eqB] at hev
    cases q : eqE P t x y with
    | none => rw [q] at hev; cases hev
    | some r =>
      rw [q] at hev; cases hev
      obtain ⟨g1, g2⟩ := eqE_guard q hX
      refine ⟨.bool (!r), ?_, by simp [conc]⟩
      have he : (Op.equal t X Y).run P W = .ok r W := eqE_ok (d := 9998) q hX hY
      simp only [Sem.run_bind, eqGuard_run g1 g2, Result.andThen_ok, hb .neq (.inr rfl) r q, he]
      rfl
  | _ => cases hev
theorem binE0_ok {op : BinOp} {t : TypeId} {x y : AV} {v : AV} (hev : binE0 P op t x y = some v) {X Y : Value} (hX : conc ν x = some X) (hY : conc ν y = some Y) {ox oy : Operand} :
    ∃ V, (do eqGuard op t ox oy X Y; Go.binOp op t X Y : Sem Value).run P W = .ok V W ∧ conc ν v = some V := by
  by_cases hi : ∃ k a, x = .int k a
  · obtain ⟨k, a, rfl⟩ := hi
    by_cases hj : ∃ k a, y = .int k a
    · obtain ⟨k', b, rfl⟩ := hj
      simp only [binE0] at hev
      cases q : semPure P (Go.binOp op t (.int k a) (.int k' b)) with
      | none => rw [q] at hev; cases hev
      | some V =>
        rw [q] at hev
        simp only [conc, Option.some.injEq] at hX hY
        subst hX; subst hY
        refine ⟨V, ?_, absV_ok ν V v hev⟩
        simp only [Sem.run_bind, eqGuard_at_int, Sem.run_pure, Result.andThen_ok]
        exact semPure_ok q W
    · exfalso
      have : binE0 P op t (.int k a) y = none := by
        cases y with
        | int k b => exact absurd ⟨k, b, rfl⟩ hj
        | _ => cases op <;> simp [binE0, eqB, eqE]
      rw [this] at hev; cases hev
  · by_cases hs : ∃ a, x = .str a
    · obtain ⟨a, rfl⟩ := hs
      by_cases hj : ∃ b, y = .str b
      · obtain ⟨b, rfl⟩ := hj
        simp only [binE0] at hev
        obtain ⟨h1, rfl⟩ := conc_str hX
        obtain ⟨h2, rfl⟩ := conc_str hY
        obtain ⟨V, r1, r2⟩ := strOp_ok (P := P) (ν := ν) (W := W) (t := t) hev h1 h2
        exact ⟨V, by simp only [Sem.run_bind, eqGuard_at_string, Sem.run_pure, Result.andThen_ok]; exact r1, r2⟩
      · exfalso
        have : binE0 P op t (.str a) y = none := by
          cases y with
          | str b => exact absurd ⟨b, rfl⟩ hj
          | _ => cases op <;> simp [binE0, eqB, eqE]
        rw [this] at hev; cases hev
    · refine binE_eq (W := W) ?_ (fun k a e => hi ⟨k, a, e⟩) (fun a e => hs ⟨a, e⟩) trivial hX hY
      rw [← hev]
      cases x with
      | int k a => exact absurd ⟨k, a, rfl⟩ hi
      | str a => exact absurd ⟨a, rfl⟩ hs
      | _ => simp only [binE0]
-- numbers that are not known
theorem symVal_lt {c v : Nat} {z : Int} (h : symVal c v = some z) : symLo c ≤ z ∧ z ≤ symHi c := by
  unfold symVal at h
  split at h <;> first
    | cases h
    | (split at h
       · cases h
         simp only [symLo, symHi, Int.ofNat_eq_natCast, Int.negSucc_eq]
         omega
       · cases h)
theorem iLt_iff {a b : Int} : iLt a b = true ↔ a < b := by
  unfold iLt
  split <;> split <;> simp only [blt_iff, Int.ofNat_eq_natCast, Int.negSucc_eq] <;> first | omega | (simp; omega)
theorem iLt_false {a b : Int} : iLt a b = false ↔ b ≤ a := by
  rw [← Bool.not_eq_true, iLt_iff]
  omega
theorem unE_ok {op : UnOp} {x : AV} {v : AV} (hev : unE P op x = some v) {X : Value} (hX : conc ν x = some X) : ∃ V, (Op.unary op X).run P W = .ok V W ∧ conc ν v = some V := by
  unfold unE at hev
  cases q : scal x with
  | none => rw [q] at hev; cases hev
  | some U =>
    rw [q] at hev
    simp only at hev
    have := scal_ok (ν := ν) q
    rw [hX] at this; cases this
    cases q2 : semPure P (Op.unary op X) with
    | none => rw [q2] at hev; cases hev
    | some V =>
      rw [q2] at hev
      exact ⟨V, semPure_ok q2 W, absV_ok ν V v hev⟩
end
end Go.Proofs.YtnnalcfdeldocaaGreatDoor.X
namespace Go.Proofs.YtnnalcfdeldocaaGreatDoor.X
open Go
set_option linter.unusedVariables false
set_option linter.unusedSimpArgs false
theorem symCmp_ok {op : BinOp} {lo hi n z : Int} {b : Bool} (h : symCmp op lo hi n = some b) (h1 : lo ≤ z) (h2 : z ≤ hi) : Op.intCmp op z n = pure (.bool b) := by
  cases op <;> simp only [symCmp] at h <;> (try cases h)
  · split at h
    · next q =>
      cases h
      rw [Bool.or_eq_true, iLt_iff, iLt_iff] at q
      have : (z == n) = false := by rw [beq_eq_false_iff_ne]; omega
      simp only [Op.intCmp, this]
    · cases h
  · split at h
    · next q =>
      cases h
      rw [Bool.or_eq_true, iLt_iff, iLt_iff] at q
      have : (z != n) = true := by rw [bne_iff_ne]; omega
      simp only [Op.intCmp, this]
    · cases h
  · split at h
    · next q =>
      cases h
      rw [iLt_iff] at q
      have : decide (z < n) = true := by rw [decide_eq_true_eq]; omega
      simp only [Op.intCmp, this]
    · split at h
      · next q =>
        cases h
        rw [iLt_false] at q
        have : decide (z < n) = false := by rw [decide_eq_false_iff_not]; omega
        simp only [Op.intCmp, this]
      · cases h
  · split at h
    · next q =>
      cases h
      rw [iLt_false] at q
      have : decide (z ≤ n) = true := by rw [decide_eq_true_eq]; omega
      simp only [Op.intCmp, this]
    · split at h
      · next q =>
        cases h
        rw [iLt_iff] at q
        have : decide (z ≤ n) = false := by rw [decide_eq_false_iff_not]; omega
        simp only [Op.intCmp, this]
      · cases h
  · split at h
    · next q =>
      cases h
      rw [iLt_iff] at q
      have : decide (z > n) = true := by rw [decide_eq_true_eq]; omega
      simp only [Op.intCmp, this]
    · split at h
      · next q =>
        cases h
        rw [iLt_false] at q
        have : decide (z > n) = false := by rw [decide_eq_false_iff_not]; omega
        simp only [Op.intCmp, this]
      · cases h
  · split at h
    · next q =>
      cases h
      rw [iLt_false] at q
      have : decide (z ≥ n) = true := by rw [decide_eq_true_eq]; omega
      simp only [Op.intCmp, this]
    · split at h
      · next q =>
        cases h
        rw [iLt_iff] at q
        have : decide (z ≥ n) = false := by rw [decide_eq_false_iff_not]; omega
        simp only [Op.intCmp, this]
      · cases h
-- the rules, number by number
theorem and1 : ∀ v, v < 1001 → 1 ≤ v → v ≤ 127 → bits .and .u8 (.ofNat v) 127 = .ofNat v := by decide +kernel
theorem and4 : ∀ v, v < 1001 → 128 ≤ v → bits .and .u8 (.ofNat (v % 128 + 128)) 127 = .ofNat (v % 128) := by decide +kernel
theorem and5 : ∀ v, v < 1001 → 128 ≤ v → bits .and .u8 (.ofNat (v / 128)) 127 = .ofNat (v / 128) := by decide +kernel
theorem or3 : ∀ v, v < 1001 → 128 ≤ v → bits .or .u8 (.ofNat (v % 256)) 128 = .ofNat (v % 128 + 128) := by decide +kernel
theorem or67 : ∀ v, v < 1001 → 128 ≤ v → bits .or .u64 (.ofNat (v % 128)) (.ofNat (v / 128 * 128)) = .ofNat v := by decide +kernel
theorem or01 : ∀ v, v < 1001 → 1 ≤ v → v ≤ 127 → bits .or .u64 0 (.ofNat v) = .ofNat v := by decide +kernel
theorem or06 : ∀ v, v < 1001 → bits .or .u64 0 (.ofNat (v % 128)) = .ofNat (v % 128) := by decide +kernel
theorem wrap_few {k : IntKind} {z : Int} (h : k = .i64 ∨ k = .u64) (h0 : 0 ≤ z) (h1 : z ≤ 1000) : k.wrap z = z := by
  rcases h with rfl | rfl
  · have e : z % 18446744073709551616 = z := by omega
    simp [IntKind.wrap, IntKind.bits, IntKind.signed, e]
    omega
  · have e : z % 18446744073709551616 = z := by omega
    simp [IntKind.wrap, IntKind.bits, IntKind.signed, e]
theorem fdiv_nat (a b : Nat) : Int.fdiv (.ofNat a) (.ofNat b) = .ofNat (a / b) := by
  show Int.fdiv (a : Int) (b : Int) = ((a / b : Nat) : Int)
  rw [Int.fdiv_eq_ediv_of_nonneg _ (Int.natCast_nonneg b)]
  rfl
section
variable {P : Program} {ν : Nu} {W : World}
/-- An operation on what is not known and a number. -/
theorem symArith_ok {op : BinOp} {k k' : IntKind} {c c' n v : Nat} {z : Int} {t : TypeId} (h : symArith op k c n = some c') (hz : symVal c v = some z) (hk : k = k' ∨ op = .shl ∨ op = .shr) :
    ∃ z', symVal c' v = some z' ∧ Go.binOp op t (.int k z) (.int k' (.ofNat n)) = pure (.int k z') := by
  unfold symArith at h
  split at h
  · obtain rfl : k' = .u8 := (hk.resolve_right (by simp)).symm
    split at h
    · next q =>
      have q := beq_iff.1 q
      subst q
      split at h <;> cases h <;> simp only [symVal, Option.ite_none_right_eq_some, Option.some.injEq] at hz ⊢ <;> obtain ⟨q, rfl⟩ := hz <;> refine ⟨_, ⟨q, rfl⟩, ?_⟩ <;> rw [binOp_and, intBits_and]
      · exact congrArg (fun z => pure (Value.int .u8 z)) (and1 v (by omega) q.1 q.2)
      · exact congrArg (fun z => pure (Value.int .u8 z)) (and4 v (by omega) q.1)
      · exact congrArg (fun z => pure (Value.int .u8 z)) (and5 v (by omega) q.1)
    · cases h
  · obtain rfl : k' = .u8 := (hk.resolve_right (by simp)).symm
    split at h
    · next q =>
      have q := beq_iff.1 q
      subst q
      cases h
      simp only [symVal, Option.ite_none_right_eq_some, Option.some.injEq] at hz ⊢
      obtain ⟨q, rfl⟩ := hz
      refine ⟨_, ⟨q, rfl⟩, ?_⟩
      rw [binOp_or, intBits_or]
      exact congrArg (fun z => pure (Value.int .u8 z)) (or3 v (by omega) q.1)
    · cases h
  · split at h <;> cases h <;> simp only [symVal, Option.ite_none_right_eq_some, Option.some.injEq] at hz ⊢ <;> obtain ⟨q, rfl⟩ := hz <;> refine ⟨_, ⟨q, rfl⟩, ?_⟩ <;> rw [binOp_shl] <;> refine congrArg (fun z => pure (Value.int .u64 z)) ?_
    · show IntKind.u64.wrap (.ofNat v * 2 ^ 0) = _
      rw [wrap_few (.inr rfl)] <;> simp only [Int.ofNat_eq_natCast] <;> omega
    · show IntKind.u64.wrap (.ofNat (v % 128) * 2 ^ 0) = _
      rw [wrap_few (.inr rfl)] <;> simp only [Int.ofNat_eq_natCast] <;> omega
    · show IntKind.u64.wrap (.ofNat (v / 128) * 2 ^ 7) = _
      rw [wrap_few (.inr rfl)] <;> simp only [Int.ofNat_eq_natCast] <;> omega
  · split at h <;> cases h
    simp only [symVal, Option.ite_none_right_eq_some, Option.some.injEq] at hz ⊢
    obtain ⟨q, rfl⟩ := hz
    refine ⟨_, ⟨q, rfl⟩, ?_⟩
    rw [binOp_shr]
    exact congrArg (fun z => pure (Value.int .u64 z)) (fdiv_nat v 128)
  · split at h
    · split at h
      · next q1 =>
        have q1 := beq_iff.1 q1
        subst q1
        cases h
        simp only [symVal, Option.ite_none_right_eq_some, Option.some.injEq] at hz ⊢
        obtain ⟨q, rfl⟩ := hz
        refine ⟨_, ⟨q, rfl⟩, ?_⟩
        rw [binOp_shr]
        exact congrArg (fun z => pure (Value.int .u32 z)) (fdiv_nat v 16777216)
      · split at h
        · next q1 =>
          have q1 := beq_iff.1 q1
          subst q1
          cases h
          simp only [symVal, Option.ite_none_right_eq_some, Option.some.injEq] at hz ⊢
          obtain ⟨q, rfl⟩ := hz
          refine ⟨_, ⟨q, rfl⟩, ?_⟩
          rw [binOp_shr]
          exact congrArg (fun z => pure (Value.int .u32 z)) (fdiv_nat v 65536)
        · split at h
          · next q1 =>
            have q1 := beq_iff.1 q1
            subst q1
            cases h
            simp only [symVal, Option.ite_none_right_eq_some, Option.some.injEq] at hz ⊢
            obtain ⟨q, rfl⟩ := hz
            refine ⟨_, ⟨q, rfl⟩, ?_⟩
            rw [binOp_shr]
            exact congrArg (fun z => pure (Value.int .u32 z)) (fdiv_nat v 256)
          · cases h
    · cases h
  · cases h
end
end Go.Proofs.YtnnalcfdeldocaaGreatDoor.X
namespace Go.Proofs.YtnnalcfdeldocaaGreatDoor.X
open Go
set_option linter.unusedVariables false
set_option linter.unusedSimpArgs false
section
variable {P : Program} {ν : Nu} {W : World}
theorem sym_mk {k : IntKind} {c j : Nat} {inf : Inf} {z : Int} (h : ν j = some inf) (hz : symVal c inf.cap = some z) : conc ν (.sym k c j) = some (.int k z) := by
  simp only [conc, h, hz, Option.bind_some, Option.map_some]
theorem binOp_cmp {op : BinOp} {lo hi n z : Int} {b : Bool} {k : IntKind} {t : TypeId} (h : symCmp op lo hi n = some b) : Go.binOp op t (.int k z) (.int k n) = Op.intCmp op z n := by
  cases op <;> simp only [symCmp] at h <;> first | (cases h; done) | simp [Go.binOp]
theorem symL_ok {op : BinOp} {k : IntKind} {c j : Nat} {y v : AV} {X Y : Value} {t : TypeId} (hev : symL op k c j y = some v) (hX : conc ν (.sym k c j) = some X) (hY : conc ν y = some Y) :
    ∃ V, (Go.binOp op t X Y).run P W = .ok V W ∧ conc ν v = some V := by
  obtain ⟨inf, z, hj, hz, rfl⟩ := conc_sym hX
  obtain ⟨b1, b2⟩ := symVal_lt hz
  unfold symL at hev
  split at hev
  · next k' n =>
    simp only [conc, Option.some.injEq] at hY
    subst hY
    split at hev
    · next q =>
      have q := of_decide_eq_true q
      subst q
      split at hev
      · next b q2 =>
        split at hev
        · cases hev
          refine ⟨.bool b, ?_, by simp [conc]⟩
          rw [binOp_cmp q2, symCmp_ok q2 b1 b2]
          rfl
        · cases hev
      · split at hev
        · split at hev
          · next q3 =>
            cases hev
            obtain ⟨z', h1, h2⟩ := symArith_ok (t := t) q3 hz (.inl rfl)
            exact ⟨_, by rw [h2]; rfl, sym_mk hj h1⟩
          · cases hev
        · cases hev
    · split at hev
      · split at hev
        · split at hev
          · next q3 =>
            cases hev
            obtain ⟨z', h1, h2⟩ := symArith_ok (t := t) (k' := k') q3 hz (.inr (.inl rfl))
            exact ⟨_, by rw [h2]; rfl, sym_mk hj h1⟩
          · cases hev
        · cases hev
      · split at hev
        · split at hev
          · next q3 =>
            cases hev
            obtain ⟨z', h1, h2⟩ := symArith_ok (t := t) (k' := k') q3 hz (.inr (.inr rfl))
            exact ⟨_, by rw [h2]; rfl, sym_mk hj h1⟩
          · cases hev
        · cases hev
      · cases hev
  · next k' c' j' =>
    obtain ⟨inf', z', hj', hz', rfl⟩ := conc_sym hY
    split at hev
    · split at hev
      · next q =>
        cases hev
        rw [Bool.and_eq_true, Bool.and_eq_true, decide_eq_true_eq, beq_iff, beq_iff] at q
        obtain ⟨rfl, rfl, rfl⟩ := q
        rw [hj] at hj'; cases hj'
        rw [hz] at hz'; cases hz'
        refine ⟨.bool true, ?_, by simp [conc]⟩
        simp [Go.binOp, Op.intCmp]
      · cases hev
    · split at hev
      · next q =>
        cases hev
        have q := beq_iff.1 q
        subst q
        rw [hj] at hj'; cases hj'
        simp only [symVal, Option.ite_none_right_eq_some, Option.some.injEq] at hz hz'
        obtain ⟨q1, rfl⟩ := hz
        obtain ⟨q2, rfl⟩ := hz'
        refine ⟨.int .u64 (.ofNat inf.cap), ?_, sym_mk hj (by simp only [symVal]; rw [if_pos q1])⟩
        rw [binOp_or, intBits_or, or67 inf.cap (by omega) q1.1]
        rfl
      · cases hev
    · cases hev
  · cases hev
theorem symR_ok {op : BinOp} {k : IntKind} {c j : Nat} {x v : AV} {X Y : Value} {t : TypeId} (hev : symR op x k c j = some v) (hX : conc ν x = some X) (hY : conc ν (.sym k c j) = some Y) :
    ∃ V, (Go.binOp op t X Y).run P W = .ok V W ∧ conc ν v = some V := by
  obtain ⟨inf, z, hj, hz, rfl⟩ := conc_sym hY
  unfold symR at hev
  split at hev
  · simp only [conc, Option.some.injEq] at hX
    subst hX
    split at hev <;> cases hev <;> refine ⟨_, ?_, hY⟩ <;> simp only [symVal, Option.ite_none_right_eq_some, Option.some.injEq] at hz <;> obtain ⟨q, rfl⟩ := hz
    · rw [binOp_or, intBits_or]
      exact congrArg (fun z => (pure (Value.int .u64 z) : Sem Value).run P W) (or01 inf.cap (by omega) q.1 q.2)
    · rw [binOp_or, intBits_or]
      exact congrArg (fun z => (pure (Value.int .u64 z) : Sem Value).run P W) (or06 inf.cap (by omega))
    · have e : IntKind.i64.wrap (inf.cap : Int) = inf.cap := by rw [wrap_few (.inl rfl)] <;> omega
      simp [Go.binOp, Op.intArith]
      exact e
    · have e : IntKind.i64.wrap (inf.cap : Int) = inf.cap := by rw [wrap_few (.inl rfl)] <;> omega
      simp [Go.binOp, Op.intArith]
      exact e
  · cases hev
theorem symConv_ok {k k' : IntKind} {c c' v : Nat} {z : Int} (h : symConv k k' c = some c') (hz : symVal c v = some z) : symVal c' v = some (k.wrap z) := by
  unfold symConv at h
  split at h <;> cases h <;> simp only [symVal, Option.ite_none_right_eq_some, Option.some.injEq] at hz ⊢ <;> obtain ⟨q, rfl⟩ := hz <;> refine ⟨q, ?_⟩
  all_goals simp [IntKind.wrap, IntKind.bits, IntKind.signed]
  all_goals omega
theorem bytesS_append : ∀ {a b : List Nat} {A B : List UInt8}, bytesS ν a = some A → bytesS ν b = some B → bytesS ν (a ++ b) = some (A ++ B)
  | [], b, A, B, ha, hb => by
    simp only [bytesS, Option.some.injEq] at ha
    subst ha
    exact hb
  | n :: ns, b, A, B, ha, hb => by
    simp only [bytesS, Option.bind_eq_some_iff, Option.map_eq_some_iff] at ha
    obtain ⟨x, h1, y, h2, rfl⟩ := ha
    simp only [List.cons_append, bytesS, h1, bytesS_append h2 hb, Option.bind_some, Option.map_some]
theorem bytesS_length : ∀ {a : List Nat} {A : List UInt8}, bytesS ν a = some A → A.length = a.length
  | [], A, ha => by simp only [bytesS, Option.some.injEq] at ha; subst ha; rfl
  | n :: ns, A, ha => by
    simp only [bytesS, Option.bind_eq_some_iff, Option.map_eq_some_iff] at ha
    obtain ⟨x, h1, y, h2, rfl⟩ := ha
    simp [bytesS_length h2]
theorem bytesS_str : ∀ {a : List Nat}, strOk a = true → bytesS ν a = some (a.map UInt8.ofNat)
  | [], _ => rfl
  | n :: ns, h => by
    simp only [strOk, List.all_cons, Bool.and_eq_true] at h
    simp only [bytesS, byteS, h.1, bytesS_str (show strOk ns = true from h.2), Option.bind_some, Option.map_some, List.map_cons]
theorem bytes_append (A B : List UInt8) : (⟨A.toArray⟩ : ByteArray) ++ ⟨B.toArray⟩ = ⟨(A ++ B).toArray⟩ := by
  apply ByteArray.ext
  simp
theorem sstrAdd_ok {op : BinOp} {t : TypeId} {a b : List Nat} {v : AV} {A B : List UInt8} (hev : sstrAdd op a b = some v) (ha : bytesS ν a = some A) (hb : bytesS ν b = some B) :
    ∃ V, (Go.binOp op t (.string ⟨A.toArray⟩) (.string ⟨B.toArray⟩)).run P W = .ok V W ∧ conc ν v = some V := by
  unfold sstrAdd at hev
  split at hev
  · split at hev
    · next q =>
      cases hev
      have q := blt_iff.1 q
      refine ⟨.string (⟨A.toArray⟩ ++ ⟨B.toArray⟩), ?_, ?_⟩
      · refine run_string_add_sum (P := P) (w := W) _ _ ?_
        have e1 := bytesS_length ha
        have e2 := bytesS_length hb
        show A.toArray.size + B.toArray.size ≤ _
        simp only [List.size_toArray, e1, e2]
        omega
      · simp only [conc, bytesS_append ha hb, Option.map_some, bytes_append]
    · cases hev
  · cases hev
theorem conc_str_bytes {a : List Nat} {X : Value} (h : conc ν (.str a) = some X) : ∃ A, bytesS ν a = some A ∧ X = .string ⟨A.toArray⟩ := by
  obtain ⟨h1, rfl⟩ := conc_str h
  exact ⟨_, bytesS_str h1, rfl⟩
theorem binE_ok {op : BinOp} {t : TypeId} {x y : AV} {v : AV} (hev : binE P op t x y = some v) {X Y : Value} (hX : conc ν x = some X) (hY : conc ν y = some Y) {ox oy : Operand} :
    ∃ V, (do eqGuard op t ox oy X Y; Go.binOp op t X Y : Sem Value).run P W = .ok V W ∧ conc ν v = some V := by
  have gi : ∀ {k : IntKind} {z : Int} {Y : Value}, (∃ V, (Go.binOp op t (.int k z) Y).run P W = .ok V W ∧ conc ν v = some V) → ∃ V, (do eqGuard op t ox oy (.int k z) Y; Go.binOp op t (.int k z) Y : Sem Value).run P W = .ok V W ∧ conc ν v = some V := by
    rintro k z Y ⟨V, h1, h2⟩
    exact ⟨V, by simp only [Sem.run_bind, eqGuard_at_int, Sem.run_pure, Result.andThen_ok]; exact h1, h2⟩
  have gs : ∀ {A : ByteArray} {Y : Value}, (∃ V, (Go.binOp op t (.string A) Y).run P W = .ok V W ∧ conc ν v = some V) → ∃ V, (do eqGuard op t ox oy (.string A) Y; Go.binOp op t (.string A) Y : Sem Value).run P W = .ok V W ∧ conc ν v = some V := by
    rintro A Y ⟨V, h1, h2⟩
    exact ⟨V, by simp only [Sem.run_bind, eqGuard_at_string, Sem.run_pure, Result.andThen_ok]; exact h1, h2⟩
  unfold binE at hev
  split at hev
  · obtain ⟨inf, z, _, _, rfl⟩ := conc_sym hX
    exact gi (symL_ok hev hX hY)
  · obtain ⟨A, hA, rfl⟩ := conc_sstr hX
    split at hev
    · obtain ⟨B, hB, rfl⟩ := conc_str_bytes hY
      exact gs (sstrAdd_ok hev hA hB)
    · obtain ⟨B, hB, rfl⟩ := conc_sstr hY
      exact gs (sstrAdd_ok hev hA hB)
    · cases hev
  · unfold binR at hev
    split at hev
    · have h0 := hev
      unfold symR at h0
      split at h0
      · simp only [conc, Option.some.injEq] at hX
        subst hX
        exact gi (symR_ok hev (by simp only [conc]) hY)
      · cases h0
    · obtain ⟨B, hB, rfl⟩ := conc_sstr hY
      split at hev
      · obtain ⟨A, hA, rfl⟩ := conc_str_bytes hX
        exact gs (sstrAdd_ok hev hA hB)
      · cases hev
    · exact binE0_ok hev hX hY
end
end Go.Proofs.YtnnalcfdeldocaaGreatDoor.X
namespace Go.Proofs.YtnnalcfdeldocaaGreatDoor.X
open Go
set_option linter.unusedVariables false
set_option linter.unusedSimpArgs false
section
variable {P : Program} {M : Nat → Prop} {B : Nat} {ν : Nu} {s s1 : St} {W : World}
theorem bytesAV_conc (ν : Nu) : ∀ {b : List Nat}, strOk b = true → concs ν (bytesAV b) = some ((b.map UInt8.ofNat).map fun x => Value.int .u8 x.toNat)
  | [], _ => concs_nil
  | a :: b, h => by
    obtain ⟨h1, h2⟩ := strOk_cons.1 h
    refine concs_cons.2 ⟨.int .u8 a, _, by simp [conc], bytesAV_conc ν h2, ?_⟩
    simp only [List.map_cons]
    congr 2
    simp
    omega
theorem bytesAV_length : ∀ b : List Nat, (bytesAV b).length = b.length
  | [] => rfl
  | _ :: b => by simp [bytesAV, bytesAV_length b]
theorem unbytes_conc : ∀ {l : List AV} {b : List Nat}, unbytes l = some b → strOk b = true ∧ concs ν l = some ((b.map Int.ofNat).map (Value.int .u8))
  | [], b, h => by simp only [unbytes, Option.some.injEq] at h; subst h; exact ⟨rfl, concs_nil⟩
  | v :: vs, b, h => by
    cases v with
    | int k n =>
      cases k with
      | u8 =>
        cases n with
        | ofNat n =>
          simp only [unbytes] at h
          cases q : Nat.blt n 256 with
          | false => rw [q] at h; cases h
          | true =>
            rw [q] at h
            simp only at h
            cases q2 : unbytes vs with
            | none => rw [q2] at h; cases h
            | some r =>
              rw [q2] at h; cases h
              obtain ⟨h1, h2⟩ := unbytes_conc q2
              exact ⟨strOk_cons.2 ⟨blt_iff.1 q, h1⟩, concs_cons.2 ⟨_, _, by simp [conc], h2, rfl⟩⟩
        | negSucc n => simp [unbytes] at h
      | _ => simp [unbytes] at h
    | _ => simp [unbytes] at h
theorem foldl_bytes : ∀ (b : List Nat) (r : ByteArray), (b.map Int.ofNat).foldl (fun r n => r.push (UInt8.ofNat n.toNat)) r = ⟨r.data ++ (b.map UInt8.ofNat).toArray⟩
  | [], r => by simp
  | a :: b, r => by
    simp only [List.map_cons, List.foldl_cons]
    rw [foldl_bytes b]
    simp [ByteArray.push]
theorem bytesS_length' {b : List Nat} {A : List UInt8} (h : bytesS ν b = some A) : (⟨A.toArray⟩ : ByteArray).size = b.length := by
  show A.toArray.size = _
  simp [bytesS_length h]
theorem byteAV_conc {n : Nat} {b : UInt8} (h : byteS ν n = some b) : conc ν (byteAV n) = some (.int .u8 b.toNat) := by
  unfold byteS at h
  unfold byteAV
  cases q : Nat.blt n 256 with
  | true =>
    rw [q] at h
    have q := blt_iff.1 q
    simp only [Option.some.injEq] at h
    subst h
    simp only [conc, Option.some.injEq, Value.int.injEq, true_and]
    have : (UInt8.ofNat n).toNat = n := by simp; omega
    rw [this]
    rfl
  | false =>
    rw [q] at h
    simp only [Option.bind_eq_some_iff] at h
    obtain ⟨inf, h1, z, h2, h3⟩ := h
    split at h3
    · next q2 =>
      cases h3
      have e : conc ν (.sym .u8 ((n - 256) % 32) ((n - 256) / 32)) = some (.int .u8 z) := sym_mk h1 h2
      have e2 : ((UInt8.ofNat z.toNat).toNat : Int) = z := by simp; omega
      rw [e2]
      exact e
    · cases h3
theorem bytesAVS_conc : ∀ {b : List Nat} {A : List UInt8}, bytesS ν b = some A → concs ν (bytesAVS b) = some (A.map fun x => Value.int .u8 x.toNat)
  | [], A, h => by simp only [bytesS, Option.some.injEq] at h; subst h; exact concs_nil
  | n :: ns, A, h => by
    simp only [bytesS, Option.bind_eq_some_iff, Option.map_eq_some_iff] at h
    obtain ⟨x, h1, y, h2, rfl⟩ := h
    exact concs_cons.2 ⟨_, _, byteAV_conc h1, bytesAVS_conc h2, rfl⟩
theorem bytesAVS_length : ∀ b : List Nat, (bytesAVS b).length = b.length
  | [] => rfl
  | _ :: b => by simp [bytesAVS, bytesAVS_length b]
theorem unbyteS_conc {v : AV} {n : Nat} {V : Value} (h : unbyteS v = some n) (hv : conc ν v = some V) : ∃ z : Int, V = .int .u8 z ∧ byteS ν n = some (UInt8.ofNat z.toNat) := by
  unfold unbyteS at h
  split at h
  · split at h
    · next q =>
      cases h
      simp only [conc, Option.some.injEq] at hv
      exact ⟨_, hv.symm, by unfold byteS; rw [q]; rfl⟩
    · cases h
  · next c j =>
    split at h
    · next q =>
      cases h
      obtain ⟨inf, z, h1, h2, rfl⟩ := conc_sym hv
      obtain ⟨b1, b2⟩ := symVal_lt h2
      rw [Bool.and_eq_true, Bool.and_eq_true, blt_iff, iLt_iff, iLt_iff] at q
      obtain ⟨q1, q2, q3⟩ := q
      refine ⟨z, rfl, ?_⟩
      have e0 : Nat.add 256 (Nat.add (Nat.mul 32 j) c) = 256 + (32 * j + c) := rfl
      rw [e0]
      unfold byteS
      have e1 : Nat.blt (256 + (32 * j + c)) 256 = false := by rw [← Bool.not_eq_true, blt_iff]; omega
      have e2 : (256 + (32 * j + c) - 256) / 32 = j := by omega
      have e3 : (256 + (32 * j + c) - 256) % 32 = c := by omega
      have hz : 0 ≤ z ∧ z < 256 := by
        simp only [Int.ofNat_eq_natCast, Int.negSucc_eq] at q2 q3
        omega
      simp only [e1, e2, e3, h1, h2, Option.bind_some, if_pos hz]
    · cases h
  · cases h
theorem unbytesS_conc : ∀ {l : List AV} {b : List Nat} {R : List Value}, unbytesS l = some b → concs ν l = some R → ∃ zs : List Int, R = zs.map (Value.int .u8) ∧ bytesS ν b = some (zs.map fun z => UInt8.ofNat z.toNat)
  | [], b, R, h, hR => by
    simp only [unbytesS, Option.some.injEq] at h
    subst h
    rw [concs_nil] at hR; cases hR
    exact ⟨[], rfl, rfl⟩
  | v :: vs, b, R, h, hR => by
    obtain ⟨x, y, h1, h2, rfl⟩ := concs_cons.1 hR
    simp only [unbytesS] at h
    cases q : unbyteS v with
    | none => rw [q] at h; cases h
    | some n =>
      rw [q] at h
      simp only at h
      cases q2 : unbytesS vs with
      | none => rw [q2] at h; cases h
      | some r =>
        rw [q2] at h; cases h
        obtain ⟨z, rfl, hz⟩ := unbyteS_conc q h1
        obtain ⟨zs, rfl, hzs⟩ := unbytesS_conc q2 h2
        exact ⟨z :: zs, rfl, by simp only [bytesS, hz, hzs, Option.bind_some, Option.map_some, List.map_cons]⟩
theorem foldl_ints : ∀ (b : List Int) (r : ByteArray), b.foldl (fun r n => r.push (UInt8.ofNat n.toNat)) r = ⟨r.data ++ (b.map fun z => UInt8.ofNat z.toNat).toArray⟩
  | [], r => by simp
  | a :: b, r => by
    simp only [List.foldl_cons]
    rw [foldl_ints b]
    simp [ByteArray.push]
set_option maxRecDepth 100000 in
theorem encode_small {n : Nat} (hn : n < 128) : Utf8.encode (Int.ofNat n) = bytesOf [n] := by
  have hv : Utf8.valid (Int.ofNat n) = true := by
    unfold Utf8.valid
    have h1 : (0 : Int) ≤ Int.ofNat n := Int.natCast_nonneg n
    have h2 : Int.ofNat n < 0xD800 := by show (n : Int) < 0xD800; omega
    rw [decide_eq_true h1, decide_eq_true h2]
    rfl
  have hc : (if Utf8.valid (Int.ofNat n) = true then (Int.ofNat n).toNat else Utf8.runeError) = n := if_pos hv
  unfold Utf8.encode
  rw [hc]
  exact if_pos hn
theorem grown_ge (w : World) (need : Nat) (e : TypeId) (old : Nat) : need ≤ grownCap w need old e := by
  unfold grownCap Question.cut
  simp
theorem convE_ok {src dst : TypeId} {x : AV} {v : AV} (hev : convE P src dst x s = some (v, s1)) (h : Sat M B ν s W) (hB : B ≤ W.heap.size) (hp : Pre M s s1) {X : Value} (hX : conc ν x = some X) : Out M B ν s W ((Go.convert src dst X).run P W) v s1 := by
  unfold convE at hev
  cases qa : P.underlying src with
  | none => rw [qa] at hev; cases hev
  | some a =>
    rw [qa] at hev
    simp only at hev
    cases qd : P.underlying dst with
    | none => rw [qd] at hev; cases hev
    | some d =>
      rw [qd] at hev
      simp only at hev
      have hsrc : (P.underlying src).isSome = true := by rw [qa]; rfl
      cases x with
      | int k n =>
        simp only [conc, Option.some.injEq] at hX; subst hX
        cases d with
        | int k' =>
          simp only [Option.some.injEq, Prod.mk.injEq] at hev
          obtain ⟨rfl, rfl⟩ := hev
          exact Out.pure h (show _ = Result.ok (Value.int k' (k'.wrap n)) W by simp [Go.convert, run_underlying qa, run_underlying qd, Conv.intToInt]) (by simp [conc])
        | string =>
          cases n with
          | ofNat n =>
            simp only at hev
            cases q : Nat.blt n 128 with
            | false => rw [q] at hev; cases hev
            | true =>
              rw [q] at hev
              simp only [Option.some.injEq, Prod.mk.injEq] at hev
              obtain ⟨rfl, rfl⟩ := hev
              have hn := blt_iff.1 q
              refine Out.pure h (run_convert_int_string W src dst k _ hsrc qd) ?_
              rw [conc_str_of (by rw [strOk_cons]; exact ⟨by omega, rfl⟩)]
              have e : Utf8.encode (Int.ofNat n) = bytesOf [n] := encode_small hn
              rw [e]
          | negSucc n => cases hev
        | _ => cases hev
      | str b =>
        obtain ⟨hb, rfl⟩ := conc_str hX
        cases d with
        | string =>
          simp only [Option.some.injEq, Prod.mk.injEq] at hev
          obtain ⟨rfl, rfl⟩ := hev
          refine Out.pure h ?_ hX
          simp [Go.convert, run_underlying qa, run_underlying qd]
        | slice e =>
          simp only at hev
          split at hev
          · next qe =>
            cases qn : newB (.cells (bytesAV b) e 1 true) s with
            | none => rw [qn] at hev; cases hev
            | some r =>
              obtain ⟨k, s2⟩ := r
              rw [qn] at hev
              simp only [Option.some.injEq, Prod.mk.injEq] at hev
              obtain ⟨rfl, rfl⟩ := hev
              have hsz : (bytesOf b).size = b.length := bytesOf_size b
              have hge := grown_ge W (bytesOf b).size e 0
              obtain ⟨hE, rfl⟩ := newB_unk qn (W1 := W.drew.alloc (.cells (bytesRow (bytesOf b) (grownCap W (bytesOf b).size 0 e)) e ((bytesRow (bytesOf b) (grownCap W (bytesOf b).size 0 e)).size, (bytesRow (bytesOf b) (grownCap W (bytesOf b).size 0 e)).size + 1))) h hB (bytesAV_conc ν hb) (Rs := List.replicate (grownCap W (bytesOf b).size 0 e - (bytesOf b).size) (.int .u8 0)) (grownCap W (bytesOf b).size 0 e) (by omega) (by simp; omega) (fz := ((bytesRow (bytesOf b) (grownCap W (bytesOf b).size 0 e)).size, (bytesRow (bytesOf b) (grownCap W (bytesOf b).size 0 e)).size + 1)) (by right; simp [bytesRow]; omega) (by
                show W.heap.push _ = _
                congr 2
                apply Array.ext'
                simp [bytesRow, bytesOf]) rfl rfl rfl
              refine ⟨.slice (some ⟨W.heap.size, 0, none⟩) (bytesOf b).size (grownCap W (bytesOf b).size 0 e), _, _, ?_, ?_, hE⟩
              · exact run_bytes_of_string (P := P) W src dst e (bytesOf b) qa qd qe
              · simp only [conc, Nu.add_eq, Option.bind_some, Nat.zero_add, Nat.sub_zero]
                rw [if_pos (by omega), hsz]
          · cases hev
        | _ => cases hev
      | sym k' c j =>
        obtain ⟨inf, z, hj, hz, rfl⟩ := conc_sym hX
        cases d with
        | int k =>
          simp only at hev
          cases q : symConv k k' c with
          | none => rw [q] at hev; cases hev
          | some c' =>
            rw [q] at hev
            simp only [Option.some.injEq, Prod.mk.injEq] at hev
            obtain ⟨rfl, rfl⟩ := hev
            exact Out.pure h (show _ = Result.ok (Value.int k (k.wrap z)) W by simp [Go.convert, run_underlying qa, run_underlying qd, Conv.intToInt]) (sym_mk hj (symConv_ok q hz))
        | _ => cases hev
      | sstr b =>
        obtain ⟨A, hb, rfl⟩ := conc_sstr hX
        cases d with
        | slice e =>
          simp only at hev
          split at hev
          · next qe =>
            cases qn : newB (.cells (bytesAVS b) e 1 true) s with
            | none => rw [qn] at hev; cases hev
            | some r =>
              obtain ⟨k, s2⟩ := r
              rw [qn] at hev
              simp only [Option.some.injEq, Prod.mk.injEq] at hev
              obtain ⟨rfl, rfl⟩ := hev
              have hsz : ((⟨A.toArray⟩ : ByteArray)).size = b.length := bytesS_length' hb
              have hge := grown_ge W ((⟨A.toArray⟩ : ByteArray)).size e 0
              obtain ⟨hE, rfl⟩ := newB_unk qn (W1 := W.drew.alloc (.cells (bytesRow ((⟨A.toArray⟩ : ByteArray)) (grownCap W ((⟨A.toArray⟩ : ByteArray)).size 0 e)) e ((bytesRow ((⟨A.toArray⟩ : ByteArray)) (grownCap W ((⟨A.toArray⟩ : ByteArray)).size 0 e)).size, (bytesRow ((⟨A.toArray⟩ : ByteArray)) (grownCap W ((⟨A.toArray⟩ : ByteArray)).size 0 e)).size + 1))) h hB (bytesAVS_conc hb) (Rs := List.replicate (grownCap W ((⟨A.toArray⟩ : ByteArray)).size 0 e - ((⟨A.toArray⟩ : ByteArray)).size) (.int .u8 0)) (grownCap W ((⟨A.toArray⟩ : ByteArray)).size 0 e) (by omega) (by simp [bytesS_length hb]; omega) (fz := ((bytesRow ((⟨A.toArray⟩ : ByteArray)) (grownCap W ((⟨A.toArray⟩ : ByteArray)).size 0 e)).size, (bytesRow ((⟨A.toArray⟩ : ByteArray)) (grownCap W ((⟨A.toArray⟩ : ByteArray)).size 0 e)).size + 1)) (by right; simp [bytesRow]) (by
                show W.heap.push _ = _
                congr 2
                apply Array.ext'
                simp [bytesRow]) rfl rfl rfl
              refine ⟨.slice (some ⟨W.heap.size, 0, none⟩) ((⟨A.toArray⟩ : ByteArray)).size (grownCap W ((⟨A.toArray⟩ : ByteArray)).size 0 e), _, _, ?_, ?_, hE⟩
              · exact run_bytes_of_string (P := P) W src dst e ((⟨A.toArray⟩ : ByteArray)) qa qd qe
              · simp only [conc, Nu.add_eq, Option.bind_some, Nat.zero_add, Nat.sub_zero]
                rw [if_pos (by omega), hsz]
          · cases hev
        | _ => cases hev
      | slice0 =>
        rw [conc_slice0 hX]
        cases d with
        | string =>
          cases a with
          | slice e =>
            simp only at hev
            split at hev
            · next qe =>
              simp only [Option.some.injEq, Prod.mk.injEq] at hev
              obtain ⟨rfl, rfl⟩ := hev
              refine Out.pure h ?_ (conc_str_of rfl)
              rw [run_convert_bytes_string W src dst e none 0 0 qa qe qd]
              rfl
            · cases hev
          | _ => cases hev
        | _ => cases hev
      | slice k i len cap =>
        obtain ⟨inf, c, hk, rfl, _⟩ := conc_slice hX
        cases d with
        | string =>
          cases a with
          | slice e =>
            simp only at hev
            split at hev
            · next qe =>
              cases len with
              | zero =>
                simp only [Option.some.injEq, Prod.mk.injEq] at hev
                obtain ⟨rfl, rfl⟩ := hev
                refine Out.pure h ?_ (conc_str_of rfl)
                rw [run_convert_bytes_string W src dst e _ 0 c qa qe qd]
                rw [run_bytesToString W _ 0 c [] (by simp [loadCells, loadCellsFrom])]
                rfl
              | succ len =>
                simp only at hev
                split at hev
                · next cs e' z u qc =>
                  cases qs : seg cs i (len + 1) with
                  | none => rw [qs] at hev; cases hev
                  | some r =>
                    rw [qs] at hev
                    simp only at hev
                    cases qu : unbytes r with
                    | none =>
                      rw [qu] at hev
                      simp only at hev
                      cases qv : unbytesS r with
                      | none => rw [qv] at hev; cases hev
                      | some b =>
                        rw [qv] at hev
                        simp only [Option.some.injEq, Prod.mk.injEq] at hev
                        obtain ⟨rfl, rfl⟩ := hev
                        have hM : M k := hp.rd (h.dom k ⟨_, qc⟩)
                        obtain ⟨inf', C, fz, g1, g2, g3, g4, g5⟩ := h.cells hM qc
                        rw [hk] at g1; cases g1
                        obtain ⟨R, r1, r2, r3⟩ := run_seg (P := P) g2 g4 qs
                        obtain ⟨zs, rfl, u2⟩ := unbytesS_conc qv r2
                        refine ⟨.string ⟨(zs.map fun z => UInt8.ofNat z.toNat).toArray⟩, W, ν, ?_, by simp only [conc, u2, Option.map_some], Eff.same h rfl rfl⟩
                        rw [run_convert_bytes_string W src dst e _ _ c qa qe qd, run_bytesToString W _ _ c _ r1, foldl_ints]
                        congr 2
                        apply ByteArray.ext
                        show #[] ++ _ = _
                        simp
                    | some b =>
                      rw [qu] at hev
                      simp only [Option.some.injEq, Prod.mk.injEq] at hev
                      obtain ⟨rfl, rfl⟩ := hev
                      have hM : M k := hp.rd (h.dom k ⟨_, qc⟩)
                      obtain ⟨inf', C, fz, g1, g2, g3, g4, g5⟩ := h.cells hM qc
                      rw [hk] at g1; cases g1
                      obtain ⟨R, r1, r2, r3⟩ := run_seg (P := P) g2 g4 qs
                      obtain ⟨u1, u2⟩ := unbytes_conc (ν := ν) qu
                      rw [r2] at u2; cases u2
                      refine ⟨.string (bytesOf b), W, ν, ?_, conc_str_of u1, Eff.same h rfl rfl⟩
                      rw [run_convert_bytes_string W src dst e _ _ c qa qe qd, run_bytesToString W _ _ c _ r1, foldl_bytes]
                      congr 2
                      apply ByteArray.ext
                      show #[] ++ _ = _
                      simp [bytesOf]
                · cases hev
            · cases hev
          | _ => cases hev
        | _ => cases hev
      | _ => cases d <;> cases hev
end
end Go.Proofs.YtnnalcfdeldocaaGreatDoor.X
namespace Go.Proofs.YtnnalcfdeldocaaGreatDoor.X
open Go
set_option linter.unusedVariables false
set_option linter.unusedSimpArgs false
section
variable {P : Program} {M : Nat → Prop} {B : Nat} {ν : Nu} {s s1 : St} {W : World}
theorem allocE_ok {e : TypeId} {v x : AV} (hev : allocE e v s = some (x, s1)) (h : Sat M B ν s W) (hB : B ≤ W.heap.size) {V : Value} (hV : conc ν v = some V) :
    Out M B ν s W ((do pure (.pointer (some (← newVar e V))) : Sem Value).run P W) x s1 := by
  unfold allocE at hev
  cases qn : newB (.cells v.cells e 1 false) s with
  | none => rw [qn] at hev; cases hev
  | some r =>
    obtain ⟨k, s2⟩ := r
    rw [qn] at hev
    simp only [Option.some.injEq, Prod.mk.injEq] at hev
    obtain ⟨rfl, rfl⟩ := hev
    have hc := conc_cells hV
    obtain ⟨hE, rfl⟩ := newB_known qn (W1 := { W with heap := W.heap.push (.cells V.cells e (0, 0)) }) h hB hc 0 (by simp) rfl rfl rfl
    refine ⟨.pointer (some ⟨W.heap.size, 0, none⟩), _, _, ?_, ?_, hE⟩
    · simp [newVar, newRow]
    · simp [conc, Nu.add_eq]
/-- Cells set one by one. -/
theorem fold_set : ∀ (xs : List Value) (off k : Nat) (A : Array Value), off + k + xs.length ≤ A.size →
    ((xs.zipIdx k).foldl (fun cs (c, j) => cs.setIfInBounds (off + j) c) A).size = A.size ∧ (∀ j, j < xs.length → ((xs.zipIdx k).foldl (fun cs (c, j) => cs.setIfInBounds (off + j) c) A)[off + k + j]? = xs[j]?) ∧ (∀ j, (j < off + k ∨ off + k + xs.length ≤ j) → ((xs.zipIdx k).foldl (fun cs (c, j) => cs.setIfInBounds (off + j) c) A)[j]? = A[j]?)
  | [], off, k, A, h => ⟨rfl, fun j hj => absurd hj (Nat.not_lt_zero j), fun _ _ => rfl⟩
  | x :: xs, off, k, A, h => by
    simp only [List.length_cons] at h
    obtain ⟨h1, h2, h3⟩ := fold_set xs off (k + 1) (A.setIfInBounds (off + k) x) (by simp; omega)
    simp only [List.zipIdx_cons, List.foldl_cons]
    refine ⟨by rw [h1]; simp, fun j hj => ?_, fun j hj => ?_⟩
    · cases j with
      | zero =>
        rw [h3 _ (.inl (by omega))]
        simp [Array.getElem?_setIfInBounds]
        omega
      | succ j =>
        rw [show off + k + (j + 1) = off + (k + 1) + j by omega, h2 j (by simp at hj; omega)]
        simp
    · rw [h3 j (by simp at hj; omega), Array.getElem?_setIfInBounds_ne (by simp at hj; omega)]
/-- The parts of a build, as values. -/
def PartsOk (ν : Nu) : List (Nat × AV) → List (Nat × Value) → Prop
  | [], [] => True
  | (i, v) :: ps, (j, V) :: qs => i = j ∧ conc ν v = some V ∧ PartsOk ν ps qs
  | _, _ => False
theorem partsE_ok {T : Tr AV} {a : Act} (ht : TRel ν T a.tmps) : ∀ {ps : List (Nat × Operand)} {r : List (Nat × AV)}, partsE T ps = some r → PartsOk ν r (ps.map fun (i, x) => (i, a.eval x))
  | [], r, h => by simp only [partsE, Option.some.injEq] at h; subst h; trivial
  | (i, o) :: ps, r, h => by
    simp only [partsE] at h
    cases q : opv T o with
    | none => rw [q] at h; cases h
    | some v =>
      rw [q] at h
      simp only at h
      cases q2 : partsE T ps with
      | none => rw [q2] at h; cases h
      | some r' =>
        rw [q2] at h; cases h
        exact ⟨rfl, opv_ok ht q, partsE_ok ht q2⟩
theorem fillE_ok {place place' : Nat → Option (Nat × Nat)} (hp : ∀ i x, place i = some x → place' i = some x) : ∀ {ps : List (Nat × AV)} {Ps : List (Nat × Value)} {c c' : List AV} {C : Array Value}, fillE place c ps = some c' → PartsOk ν ps Ps → concs ν c = some C.toList → ∃ C' : Array Value, Instr.fill place' C Ps = some C' ∧ concs ν c' = some C'.toList
  | [], [], c, c', C, h, _, hc => by
    simp only [fillE, Option.some.injEq] at h; subst h
    exact ⟨C, rfl, hc⟩
  | [], _ :: _, _, _, _, _, h, _ => h.elim
  | _ :: _, [], _, _, _, _, h, _ => by simp [PartsOk] at h
  | (i, v) :: ps, (j, V) :: Ps, c, c', C, h, ⟨hi, hv, hr⟩, hc => by
    subst hi
    simp only [fillE] at h
    cases q : place i with
    | none => rw [q] at h; cases h
    | some x =>
      obtain ⟨off, size⟩ := x
      rw [q] at h
      simp only at h
      cases q2 : (Nat.beq (lenL v.cells) size && Nat.blt 0 size) with
      | false => rw [q2] at h; cases h
      | true =>
        rw [q2] at h
        simp only at h
        cases q3 : setSeg c off v.cells with
        | none => rw [q3] at h; cases h
        | some c1 =>
          rw [q3] at h
          simp only at h
          have hcells := conc_cells hv
          have hl := concs_length hcells
          rw [Bool.and_eq_true] at q2
          have hpos := blt_iff.1 q2.2
          have hsz : V.cells.size = size := by rw [← beq_iff.1 q2.1, lenL_eq, ← hl]; simp
          obtain ⟨g1, g2, g3, g4⟩ := setSeg_spec q3
          have hcl := concs_length hc
          have hfit : ¬ (V.cells.size ≠ size ∨ off + V.cells.size > C.size) ∨ V.cells.size = 0 := by
            by_cases z : V.cells.size = 0
            · exact .inr z
            · left
              have : v.cells ≠ [] := fun e => by rw [e] at hl; simp at hl; exact z (by simp [hl])
              have := g4 this
              simp at hcl hl
              omega
          simp only [Instr.fill, hp _ _ q]
          by_cases z : V.cells.size = 0
          · omega
          · have hf := hfit.resolve_right z
            simp only [not_or, Nat.not_lt, ne_eq, Decidable.not_not] at hf
            have e0 : (decide (V.cells.size ≠ size) || decide (off + V.cells.size > C.size)) = false := by
              rw [Bool.or_eq_false_iff, decide_eq_false_iff_not, decide_eq_false_iff_not]
              exact ⟨by simp [hf.1], by omega⟩
            rw [if_neg (by rw [e0]; simp)]
            obtain ⟨f1, f2, f3⟩ := fold_set V.cells.toList off 0 C (by simp; omega)
            refine fillE_ok hp h hr ?_
            refine concs_of ?_ (fun j w hw => ?_)
            · rw [g1, ← hcl]
              simp only [← Array.foldl_toList, Array.toList_zipIdx]
              simp [f1]
            · simp only [← Array.foldl_toList, Array.toList_zipIdx, Array.getElem?_toList]
              by_cases hj : j < off ∨ off + v.cells.length ≤ j
              · rw [g3 j hj] at hw
                obtain ⟨U, a, b⟩ := concs_get hc hw
                refine ⟨U, ?_, b⟩
                rw [f3 j (by simp at hl ⊢; omega)]
                simpa using a
              · have e1 : j = off + (j - off) := by omega
                rw [e1, g2 (j - off) (by omega)] at hw
                obtain ⟨U, a, b⟩ := concs_get hcells hw
                refine ⟨U, ?_, b⟩
                have := f2 (j - off) (by simp at hl ⊢; omega)
                rw [show off + 0 + (j - off) = j by omega] at this
                rw [this, a]
end
end Go.Proofs.YtnnalcfdeldocaaGreatDoor.X
namespace Go.Proofs.YtnnalcfdeldocaaGreatDoor.X
open Go
set_option linter.unusedVariables false
set_option linter.unusedSimpArgs false
section
variable {P : Program} {M : Nat → Prop} {B : Nat} {ν : Nu} {s s1 : St} {W : World}
def repV : Nat → List Value → List Value
  | 0, _ => []
  | n + 1, z => z ++ repV n z
theorem repV_length (z : List Value) : ∀ n, (repV n z).length = n * z.length
  | 0 => by simp [repV]
  | n + 1 => by simp [repV, repV_length z n, Nat.succ_mul, Nat.add_comm]
theorem rep_conc {z : List AV} {Z : List Value} (hz : concs ν z = some Z) : ∀ (n : Nat) {acc : List AV} {A : List Value}, concs ν acc = some A → concs ν (rep n z acc) = some (repV n Z ++ A)
  | 0, acc, A, h => h
  | n + 1, acc, A, h => by
    show concs ν (z ++ rep n z acc) = some ((Z ++ repV n Z) ++ A)
    rw [List.append_assoc]
    exact concs_append hz (rep_conc hz n h)
theorem repV_get (z : List Value) : ∀ (n j : Nat), j < n * z.length → (repV n z)[j]? = z[j % z.length]?
  | 0, j, h => by simp at h
  | n + 1, j, h => by
    have hp : 0 < z.length := by
      rcases Nat.eq_zero_or_pos z.length with e | e
      · rw [e] at h; simp at h
      · exact e
    simp only [repV]
    by_cases q : j < z.length
    · rw [List.getElem?_append_left q, Nat.mod_eq_of_lt q]
    · rw [List.getElem?_append_right (by omega), repV_get z n (j - z.length) (by rw [Nat.succ_mul] at h; omega)]
      congr 1
      rw [Nat.mod_eq_sub_mod (by omega : j ≥ z.length)]
/-- The model's row of zeros. -/
theorem zeros_row (Z : Array Value) (n m : Nat) (hm : Z.size = m) : ((Array.range (n * m)).map (fun i => Z[i % Z.size]!)) = (repV n Z.toList).toArray := by
  apply Array.ext'
  refine List.ext_getElem? (fun j => ?_)
  by_cases q : j < n * m
  · have hm0 : 0 < m := by
      rcases Nat.eq_zero_or_pos m with e | e
      · rw [e] at q; simp at q
      · exact e
    have h1 := repV_get Z.toList n j (by simpa [hm] using q)
    have h2 : j % Z.size < Z.size := Nat.mod_lt _ (by omega)
    simp only [Array.toList_map, Array.toList_range, List.getElem?_map, List.getElem?_range q, Option.map_some, List.toList_toArray] at h1 ⊢
    rw [h1]
    simp only [Array.length_toList, Array.getElem?_toList]
    rw [Array.getElem?_eq_getElem h2, getElem!_pos Z _ h2]
  · rw [List.getElem?_eq_none (by simpa using Nat.le_of_not_lt q), List.getElem?_eq_none (by simp [repV_length, hm]; omega)]
theorem mapM_places {fs : List Field} {W : World} : (∀ f ∈ fs, ∃ n, sizeT P f.type = some n) → ∃ pl : List (Nat × Nat), (fs.mapM (fun f => do pure (f.offset, ← sizeOf f.type) : Field → Sem (Nat × Nat))).run P W = .ok pl W ∧ pl.length = fs.length ∧ ∀ (i : Nat) (f : Field) (n : Nat), fs[i]? = some f → sizeT P f.type = some n → pl[i]? = some (f.offset, n) := by
  induction fs with
  | nil => exact fun _ => ⟨[], by simp, rfl, fun i f n h => by simp at h⟩
  | cons f fs ih =>
    intro h
    obtain ⟨n, hn⟩ := h f (by simp)
    obtain ⟨pl, h1, h2, h3⟩ := ih (fun g hg => h g (by simp [hg]))
    refine ⟨(f.offset, n) :: pl, ?_, by simp [h2], fun i g m hg hm => ?_⟩
    · simp only [List.mapM_cons, Sem.run_bind, run_sizeT hn, Result.andThen_ok, Sem.run_pure, h1]
    · cases i with
      | zero => simp at hg; subst hg; rw [hn] at hm; cases hm; rfl
      | succ i => simp at hg ⊢; exact h3 i g m hg hm
theorem sizedF_ok : ∀ {fs : List Field}, sizedF P fs = true → ∀ f ∈ fs, ∃ n, sizeT P f.type = some n
  | [], _, f, hf => by cases hf
  | g :: fs, h, f, hf => by
    simp only [sizedF] at h
    cases q : sizeT P g.type with
    | none => rw [q] at h; cases h
    | some n =>
      rw [q] at h
      rcases List.mem_cons.1 hf with rfl | hf
      · exact ⟨n, q⟩
      · exact sizedF_ok h f hf
theorem buildE_ok {t : TypeId} {ps : List (Nat × AV)} {Ps : List (Nat × Value)} {v : AV} (hev : buildE P t ps = some v) (hp : PartsOk ν ps Ps) : ∃ V, (Instr.build t Ps.toArray).run P W = .ok V W ∧ conc ν v = some V := by
  unfold buildE at hev
  cases qz : zeroT P t with
  | none => rw [qz] at hev; cases hev
  | some z =>
    rw [qz] at hev
    simp only at hev
    obtain ⟨Z, r1, r2⟩ := run_zeroT qz W
    have hz := conc_cells (r2 ν)
    split at hev
    · next fs q =>
      split at hev
      · cases hev
      · next qs =>
        split at hev
        · cases hev
        · next c qf =>
          cases hev
          obtain ⟨pl, m1, m2, m3⟩ := mapM_places (P := P) (W := W) (sizedF_ok qs)
          obtain ⟨C', f1, f2⟩ := fillE_ok (place' := (pl.toArray[·]?)) (fun i x hx => by
            unfold placeS at hx
            cases qi : fs[i]? with
            | none => rw [qi] at hx; cases hx
            | some f =>
              rw [qi] at hx
              simp only at hx
              cases qn : sizeT P f.type with
              | none => rw [qn] at hx; cases hx
              | some n =>
                rw [qn] at hx; cases hx
                have := m3 i f n (by rw [Array.getElem?_toList]; exact qi) qn
                simpa using this) qf hp hz
          refine ⟨.agg C', ?_, by simp only [conc, f2, Option.map_some]⟩
          have m1' : (fs.mapM (fun f => do pure (f.offset, ← sizeOf f.type) : Field → Sem (Nat × Nat))).run P W = .ok pl.toArray W := by
            rw [Array.mapM_eq_mapM_toList]
            simp only [Sem.run_map, m1, Result.andThen_ok]
          simp only [Instr.build, Sem.run_bind, r1, Result.andThen_ok, run_underlying q, m1', f1]
          rfl
    · next n e q =>
      split at hev
      · cases hev
      · next k qs =>
        split at hev
        · cases hev
        · next c qf =>
          cases hev
          obtain ⟨C', f1, f2⟩ := fillE_ok (place' := fun i => some (i * k, k)) (fun i x hx => hx) qf hp hz
          refine ⟨.agg C', ?_, by simp only [conc, f2, Option.map_some]⟩
          simp only [Instr.build, Sem.run_bind, r1, Result.andThen_ok, run_underlying q, run_sizeT qs, f1]
          rfl
    · cases hev
end
end Go.Proofs.YtnnalcfdeldocaaGreatDoor.X
