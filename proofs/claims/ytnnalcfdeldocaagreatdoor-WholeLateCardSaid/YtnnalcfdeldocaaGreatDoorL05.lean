/- A walk by the kernel: equality is as the model has it. A walk by the kernel: equality, comparisons. -/
import Derived.Test.YtnnalcfdeldocaaGreatDoorL04
import Derived.Laws.StructEq
import Derived.Laws.Pointers
import Derived.Laws.Cover3
namespace Go.Proofs.YtnnalcfdeldocaaGreatDoor.X
open Go
set_option linter.unusedVariables false
set_option linter.unusedSimpArgs false
section
variable {P : Program} {ν : Nu} {W : World}
/-- A plain type. -/
def Plain (P : Program) (t : TypeId) : Prop := P.underlying t = some .bool ∨ (∃ k, P.underlying t = some (.int k)) ∨ P.underlying t = some .string
theorem eqPlain_ok {t d : Nat} {x y : AV} {r : Bool} (hev : eqPlain x y = some r) (ht : ∀ X Y, conc ν x = some X → conc ν y = some Y → (∃ a b, X = .int a b) → ∃ k, P.underlying t = some (.int k)) (hb : (∃ a, x = .bool a) → P.underlying t = some .bool) (hs : (∃ a, x = .str a) → P.underlying t = some .string)
    {X Y : Value} (hX : conc ν x = some X) (hY : conc ν y = some Y) : (Op.equalIn (d + 1) t X Y).run P W = .ok r W := by
  cases x with
  | int k a =>
    cases y with
    | int k' b =>
      simp only [eqPlain] at hev
      cases q : decide (k = k') with
      | false => rw [q] at hev; cases hev
      | true =>
        rw [q] at hev; cases hev
        have := of_decide_eq_true q; subst this
        have h1 := hX
        have h2 := hY
        simp only [conc, Option.some.injEq] at hX hY
        subst hX; subst hY
        obtain ⟨k', hk⟩ := ht _ _ h1 h2 ⟨_, _, rfl⟩
        exact run_equalIn_int W d t k k' a b hk
    | _ => cases hev
  | bool a =>
    cases y with
    | bool b =>
      simp only [eqPlain, Option.some.injEq] at hev; subst hev
      simp only [conc, Option.some.injEq] at hX hY
      subst hX; subst hY
      exact run_equalIn_bool W d t a b (hb ⟨a, rfl⟩)
    | _ => cases hev
  | str a =>
    cases y with
    | str b =>
      simp only [eqPlain, Option.some.injEq] at hev; subst hev
      obtain ⟨h1, rfl⟩ := conc_str hX
      obtain ⟨h2, rfl⟩ := conc_str hY
      rw [run_equalIn_string W d t _ _ (hs ⟨a, rfl⟩), bytesOf_toList, bytesOf_toList, strEq_ok h1 h2]
    | _ => cases hev
  | _ => cases hev
/-- A part of a plain type. -/
theorem run_part {t off : Nat} {xs : List AV} {x : AV} {Xs : List Value} (hp : isAggT P t = some false) (h : nth xs off = some x) (hx : concs ν xs = some Xs) : ∃ X, (part t Xs.toArray off).run P W = .ok X W ∧ conc ν x = some X := by
  rw [nth_eq] at h
  obtain ⟨V, a, b⟩ := concs_get hx h
  exact ⟨V, by simp [part, run_isAggT hp, a], b⟩
/-- What a plain type's values are like. -/
def basicOk (P : Program) (t : TypeId) (x : AV) : Prop := (∃ k a b, P.underlying t = some (.int k) ∧ x = .int a b) ∨ (∃ a, P.underlying t = some .bool ∧ x = .bool a) ∨ (∃ a, P.underlying t = some .string ∧ x = .str a)
theorem eqPlain_fit {t d : Nat} {x y : AV} {r : Bool} (hev : eqPlain x y = some r) (hf : basicOk P t x) {X Y : Value} (hX : conc ν x = some X) (hY : conc ν y = some Y) : (Op.equalIn (d + 1) t X Y).run P W = .ok r W := by
  rcases hf with ⟨k, a, b, h1, rfl⟩ | ⟨a, h1, rfl⟩ | ⟨a, h1, rfl⟩
  · exact eqPlain_ok hev (fun _ _ _ _ _ => ⟨k, h1⟩) (fun ⟨_, e⟩ => by cases e) (fun ⟨_, e⟩ => by cases e) hX hY
  · refine eqPlain_ok hev (fun X' Y' h2 _ ⟨p, q, e⟩ => ?_) (fun _ => h1) (fun ⟨_, e⟩ => by cases e) hX hY
    simp only [conc, Option.some.injEq] at h2; subst h2; cases e
  · refine eqPlain_ok hev (fun X' Y' h2 _ ⟨p, q, e⟩ => ?_) (fun ⟨_, e⟩ => by cases e) (fun _ => h1) hX hY
    obtain ⟨_, rfl⟩ := conc_str h2; cases e
theorem fitB_ok {t : TypeId} {x : AV} (h : fitB P t x = true) : basicOk P t x := by
  unfold fitB at h
  cases q : P.underlying t with
  | none => rw [q] at h; cases h
  | some d =>
    rw [q] at h
    cases d <;> cases x <;> first | cases h | skip
    · exact .inr (.inl ⟨_, q, rfl⟩)
    · exact .inl ⟨_, _, _, q, rfl⟩
    · exact .inr (.inr ⟨_, q, rfl⟩)
theorem fitB_plain {t : TypeId} {x : AV} (h : fitB P t x = true) : isAggT P t = some false := by
  unfold isAggT
  rcases fitB_ok h with ⟨k, a, b, h1, _⟩ | ⟨a, h1, _⟩ | ⟨a, h1, _⟩ <;> rw [h1]
theorem eqFields_ok {d : Nat} {xs ys : List AV} {Xs Ys : List Value} (hx : concs ν xs = some Xs) (hy : concs ν ys = some Ys) : ∀ {fs : List Field} {r : Bool}, eqFields P xs ys fs = some r → (Op.eqFields (d + 1) Xs.toArray Ys.toArray fs).run P W = .ok r W
  | [], r, h => by simp only [eqFields, Option.some.injEq] at h; subst h; rfl
  | f :: fs, r, h => by
    simp only [eqFields] at h
    cases q0 : f.name == "_" with
    | true => rw [q0] at h; cases h
    | false =>
      rw [q0] at h
      simp only at h
      have hne : f.name ≠ "_" := fun e => by rw [e] at q0; simp at q0
      cases q1 : nth xs f.offset with
      | none => rw [q1] at h; cases h
      | some x =>
        rw [q1] at h
        simp only at h
        cases q2 : nth ys f.offset with
        | none => rw [q2] at h; cases h
        | some y =>
          rw [q2] at h
          simp only at h
          cases q3 : fitB P f.type x with
          | false => rw [q3] at h; cases h
          | true =>
            rw [q3] at h
            simp only at h
            obtain ⟨X, r1, r2⟩ := run_part (W := W) (fitB_plain q3) q1 hx
            obtain ⟨Y, r3, r4⟩ := run_part (W := W) (fitB_plain q3) q2 hy
            simp only [Op.eqFields, if_pos hne, Sem.run_bind, r1, r3, Result.andThen_ok]
            cases q4 : eqPlain x y with
            | none => rw [q4] at h; cases h
            | some b =>
              rw [q4] at h
              rw [eqPlain_fit (d := d) q4 (fitB_ok q3) r2 r4]
              cases b with
              | true =>
                simp only at h
                simp only [Result.andThen_ok, Bool.not_true, Bool.false_eq_true, if_false]
                exact eqFields_ok hx hy h
              | false =>
                simp only [Option.some.injEq] at h; subst h
                simp
end
end Go.Proofs.YtnnalcfdeldocaaGreatDoor.X
namespace Go.Proofs.YtnnalcfdeldocaaGreatDoor.X
open Go
set_option linter.unusedVariables false
set_option linter.unusedSimpArgs false
section
variable {P : Program} {ν : Nu} {W : World}
/-- The model's loop over an array's parts. -/
def eqArr (d : Nat) (e : TypeId) (n : Nat) (xs ys : Array Value) : List Nat → Sem Bool
  | [] => pure true
  | i :: is => do
    let a ← part e xs (i * n)
    let b ← part e ys (i * n)
    let r ← Op.equalIn d e a b
    if (!r) = true then pure false else eqArr d e n xs ys is
theorem run_equalIn_array (d : Nat) (t e : TypeId) (len n : Nat) (xs ys : Array Value) (ht : P.underlying t = some (.array len e)) (hn : sizeT P e = some n) :
    (Op.equalIn (d + 1) t (.agg xs) (.agg ys)).run P W = (eqArr d e n xs ys (List.range' 0 len)).run P W := by
  simp only [Op.equalIn, Sem.run_bind, run_underlying ht, Result.andThen_ok, run_sizeT hn]
  simp only [Std.Legacy.Range.forIn_eq_forIn_range', Std.Legacy.Range.size, Nat.sub_zero, Nat.add_sub_cancel, Nat.div_one]
  generalize List.range' 0 len = is
  clear ht
  induction is generalizing W with
  | nil => simp [eqArr]
  | cons i is ih =>
    simp only [List.forIn_cons, eqArr, Sem.run_bind]
    generalize (part e xs (i * n)).run P W = r1
    cases r1 with
    | ok a w1 =>
      simp only [Result.andThen_ok]
      generalize (part e ys (i * n)).run P w1 = r2
      cases r2 with
      | ok b w2 =>
        simp only [Result.andThen_ok]
        generalize (Op.equalIn d e a b).run P w2 = r3
        cases r3 with
        | ok r w3 =>
          cases r
          · simp
          · simp only [Result.andThen_ok, Bool.not_true, Bool.false_eq_true, if_false, Sem.run_pure]
            exact ih
        | halt x w3 => simp [Result.andThen]
      | halt x w2 => simp [Result.andThen]
    | halt x w1 => simp [Result.andThen]
theorem eqParts_ok {d : Nat} {e : TypeId} {xs0 ys0 : List AV} {Xs Ys : List Value} (hx : concs ν xs0 = some Xs) (hy : concs ν ys0 = some Ys) : ∀ {xs ys : List AV} {i : Nat} {r : Bool}, eqParts P e xs ys = some r → xs0.drop i = xs → ys0.drop i = ys → (eqArr (d + 1) e 1 Xs.toArray Ys.toArray (List.range' i xs.length)).run P W = .ok r W
  | [], [], i, r, h, _, _ => by simp only [eqParts, Option.some.injEq] at h; subst h; rfl
  | [], _ :: _, i, r, h, _, _ => by simp [eqParts] at h
  | _ :: _, [], i, r, h, _, _ => by simp [eqParts] at h
  | x :: xs, y :: ys, i, r, h, h1, h2 => by
    simp only [eqParts] at h
    have e1 : xs0[i]? = some x := by have := congrArg (fun l => l[0]?) h1; simpa using this
    have e2 : ys0[i]? = some y := by have := congrArg (fun l => l[0]?) h2; simpa using this
    cases q3 : fitB P e x with
    | false => rw [q3] at h; cases h
    | true =>
      rw [q3] at h
      simp only at h
      obtain ⟨X, r1, r2⟩ := run_part (W := W) (fitB_plain q3) ((nth_eq _ _).trans e1) hx
      obtain ⟨Y, r3, r4⟩ := run_part (W := W) (fitB_plain q3) ((nth_eq _ _).trans e2) hy
      simp only [List.length_cons, List.range'_succ, eqArr, Sem.run_bind, Nat.mul_one, r1, r3, Result.andThen_ok]
      cases q4 : eqPlain x y with
      | none => rw [q4] at h; cases h
      | some b =>
        rw [q4] at h
        rw [eqPlain_fit (d := d) q4 (fitB_ok q3) r2 r4]
        cases b with
        | true =>
          simp only at h
          simp only [Result.andThen_ok, Bool.not_true, Bool.false_eq_true, if_false]
          exact eqParts_ok hx hy h (by rw [← List.drop_drop, h1]; simp) (by rw [← List.drop_drop, h2]; simp)
        | false =>
          simp only [Option.some.injEq] at h; subst h
          simp
theorem conc_ptr0 {V : Value} (h : conc ν .ptr0 = some V) : V = .pointer none := by simpa [conc] using h.symm
theorem conc_ptr {k i : Nat} {V : Value} (h : conc ν (.ptr k i) = some V) : ∃ inf, ν k = some inf ∧ V = .pointer (some ⟨inf.blk, inf.off + i, none⟩) := by
  simp only [conc, Option.map_eq_some_iff] at h
  obtain ⟨a, h1, h2⟩ := h
  exact ⟨a, h1, h2.symm⟩
theorem conc_slice {k i len : Nat} {cap : Cap} {V : Value} (h : conc ν (.slice k i len cap) = some V) : ∃ inf c, ν k = some inf ∧ V = .slice (some ⟨inf.blk, inf.off + i, none⟩) len c ∧ (∀ c', cap = .known c' → c = c') ∧ (∀ j, cap = .unk j → j + len ≤ inf.cap ∧ c = inf.cap - j) := by
  cases cap with
  | known c =>
    simp only [conc, Option.map_eq_some_iff] at h
    obtain ⟨a, h1, h2⟩ := h
    exact ⟨a, c, h1, h2.symm, fun c' e => (by cases e; rfl), fun j e => (by cases e)⟩
  | unk j =>
    simp only [conc, Option.bind_eq_some_iff] at h
    obtain ⟨a, h1, h2⟩ := h
    split at h2
    · next q => cases h2; exact ⟨a, _, h1, rfl, fun c' e => (by cases e), fun j' e => (by cases e; exact ⟨q, rfl⟩)⟩
    · cases h2
theorem conc_map {k : Nat} {V : Value} (h : conc ν (.map k) = some V) : ∃ inf, ν k = some inf ∧ V = .map (some inf.blk) := by
  simp only [conc, Option.map_eq_some_iff] at h
  obtain ⟨a, h1, h2⟩ := h
  exact ⟨a, h1, h2.symm⟩
theorem conc_agg {cs : List AV} {V : Value} (h : conc ν (.agg cs) = some V) : ∃ Cs, concs ν cs = some Cs ∧ V = .agg Cs.toArray := by
  simp only [conc, Option.map_eq_some_iff] at h
  obtain ⟨a, h1, h2⟩ := h
  exact ⟨a, h1, h2.symm⟩
set_option maxHeartbeats 4000000 in
theorem eqIn_ptr_nn {t d e : Nat} (q : P.underlying t = some (.pointer e)) : (Op.equalIn (d + 1) t (.pointer none) (.pointer none)).run P W = .ok true W := by simp [Op.equalIn, run_underlying q]
set_option maxHeartbeats 4000000 in
theorem eqIn_ptr_nx {t d e : Nat} {a : Addr} (q : P.underlying t = some (.pointer e)) : (Op.equalIn (d + 1) t (.pointer none) (.pointer (some a))).run P W = .ok false W := by simp [Op.equalIn, run_underlying q]
set_option maxHeartbeats 4000000 in
theorem eqIn_ptr_xn {t d e : Nat} {a : Addr} (q : P.underlying t = some (.pointer e)) : (Op.equalIn (d + 1) t (.pointer (some a)) (.pointer none)).run P W = .ok false W := by simp [Op.equalIn, run_underlying q]
set_option maxHeartbeats 4000000 in
theorem eqIn_ptr {t d e n b o o' : Nat} (q : P.underlying t = some (.pointer e)) (qs : sizeT P e = some (n + 1)) : (Op.equalIn (d + 1) t (.pointer (some ⟨b, o, none⟩)) (.pointer (some ⟨b, o', none⟩))).run P W = .ok (decide (o = o')) W := by
  simp [Op.equalIn, run_underlying q, run_sizeT qs, sameAddr]
  by_cases h : o = o'
  · subst h; simp
  · simp [h]
set_option maxHeartbeats 4000000 in
theorem eqIn_slice_nn {t d e : Nat} (q : P.underlying t = some (.slice e)) : (Op.equalIn (d + 1) t (.slice none 0 0) (.slice none 0 0)).run P W = .ok true W := by simp [Op.equalIn, run_underlying q]
set_option maxHeartbeats 4000000 in
theorem eqIn_slice_xn {t d e l c : Nat} {a : Addr} (q : P.underlying t = some (.slice e)) : (Op.equalIn (d + 1) t (.slice (some a) l c) (.slice none 0 0)).run P W = .ok false W := by simp [Op.equalIn, run_underlying q]
set_option maxHeartbeats 4000000 in
theorem eqIn_slice_nx {t d e l c : Nat} {a : Addr} (q : P.underlying t = some (.slice e)) : (Op.equalIn (d + 1) t (.slice none 0 0) (.slice (some a) l c)).run P W = .ok false W := by simp [Op.equalIn, run_underlying q]
set_option maxHeartbeats 4000000 in
theorem eqIn_map_nn {t d k e : Nat} (q : P.underlying t = some (.map k e)) : (Op.equalIn (d + 1) t (.map none) (.map none)).run P W = .ok true W := by simp [Op.equalIn, run_underlying q]
set_option maxHeartbeats 4000000 in
theorem eqIn_map_xn {t d k e : Nat} {a : Nat} (q : P.underlying t = some (.map k e)) : (Op.equalIn (d + 1) t (.map (some a)) (.map none)).run P W = .ok false W := by simp [Op.equalIn, run_underlying q]
set_option maxHeartbeats 4000000 in
theorem eqIn_map_nx {t d k e : Nat} {a : Nat} (q : P.underlying t = some (.map k e)) : (Op.equalIn (d + 1) t (.map none) (.map (some a))).run P W = .ok false W := by simp [Op.equalIn, run_underlying q]
set_option maxHeartbeats 4000000 in
theorem eqIn_fn_nn {t d : Nat} {a b : Array TypeId} {v : Bool} (q : P.underlying t = some (.func a b v)) : (Op.equalIn (d + 1) t .nilFunc .nilFunc).run P W = .ok true W := by simp [Op.equalIn, run_underlying q]
set_option maxHeartbeats 4000000 in
theorem eqIn_fn_xn {t d : Nat} {a b : Array TypeId} {v : Bool} {f : Fn} {x y : Array Value} (q : P.underlying t = some (.func a b v)) : (Op.equalIn (d + 1) t (.func f x y) .nilFunc).run P W = .ok false W := by simp [Op.equalIn, run_underlying q]
theorem conc_slice0 {V : Value} (h : conc ν .slice0 = some V) : V = .slice none 0 0 := by simpa [conc] using h.symm
theorem conc_map0 {V : Value} (h : conc ν .map0 = some V) : V = .map none := by simpa [conc] using h.symm
theorem conc_fn0 {V : Value} (h : conc ν .fn0 = some V) : V = .nilFunc := by simpa [conc] using h.symm
theorem conc_fn {f : Nat} {a b : List AV} {V : Value} (h : conc ν (.fn f a b) = some V) : ∃ A B, concs ν a = some A ∧ concs ν b = some B ∧ V = .func (.func f) A.toArray B.toArray := by
  simp only [conc, Option.bind_eq_some_iff, Option.map_eq_some_iff] at h
  obtain ⟨x, h1, y, h2, h3⟩ := h
  exact ⟨x, y, h1, h2, h3.symm⟩
theorem eqE_ok {t d : Nat} {x y : AV} {r : Bool} (hev : eqE P t x y = some r) {X Y : Value} (hX : conc ν x = some X) (hY : conc ν y = some Y) : (Op.equalIn (d + 2) t X Y).run P W = .ok r W := by
  cases x with
  | bool a =>
    cases y with
    | bool b =>
      simp only [eqE] at hev
      split at hev
      · next q => cases hev; simp only [conc, Option.some.injEq] at hX hY; subst hX; subst hY; exact run_equalIn_bool W _ t _ _ q
      · cases hev
    | _ => cases hev
  | ptr0 =>
    rw [conc_ptr0 hX]
    cases y with
    | ptr0 =>
      simp only [eqE] at hev
      split at hev
      · next q => cases hev; rw [conc_ptr0 hY]; exact eqIn_ptr_nn q
      · cases hev
    | ptr k i =>
      simp only [eqE] at hev
      split at hev
      · next q => cases hev; obtain ⟨inf, h1, rfl⟩ := conc_ptr hY; exact eqIn_ptr_nx q
      · cases hev
    | _ => cases hev
  | ptr k i =>
    obtain ⟨inf, h1, rfl⟩ := conc_ptr hX
    cases y with
    | ptr0 =>
      simp only [eqE] at hev
      split at hev
      · next q => cases hev; rw [conc_ptr0 hY]; exact eqIn_ptr_xn q
      · cases hev
    | ptr k' i' =>
      obtain ⟨inf', h2, rfl⟩ := conc_ptr hY
      simp only [eqE] at hev
      split at hev
      · next qk =>
        have := beq_iff.1 qk; subst this
        rw [h1] at h2; cases h2
        split at hev
        · next e q =>
          split at hev
          · next n qs =>
            cases hev
            rw [eqIn_ptr q qs]
            congr 1
            cases q5 : Nat.beq i i' with
            | true => have := beq_iff.1 q5; subst this; simp
            | false =>
              have : ¬ i = i' := fun e => by subst e; rw [beq_iff.2 rfl] at q5; cases q5
              rw [decide_eq_false (by omega)]
          · cases hev
        · cases hev
      · cases hev
    | _ => cases hev
  | slice0 =>
    rw [conc_slice0 hX]
    cases y with
    | slice0 =>
      simp only [eqE] at hev
      split at hev
      · next q => cases hev; rw [conc_slice0 hY]; exact eqIn_slice_nn q
      · cases hev
    | slice k i l c =>
      simp only [eqE] at hev
      split at hev
      · next q => cases hev; obtain ⟨inf, c, _, rfl, _⟩ := conc_slice hY; exact eqIn_slice_nx q
      · cases hev
    | _ => cases hev
  | slice k i l c =>
    obtain ⟨inf, c, _, rfl, _⟩ := conc_slice hX
    cases y with
    | slice0 =>
      simp only [eqE] at hev
      split at hev
      · next q => cases hev; rw [conc_slice0 hY]; exact eqIn_slice_xn q
      · cases hev
    | _ => cases hev
  | map0 =>
    rw [conc_map0 hX]
    cases y with
    | map0 =>
      simp only [eqE] at hev
      split at hev
      · next q => cases hev; rw [conc_map0 hY]; exact eqIn_map_nn q
      · cases hev
    | map k =>
      simp only [eqE] at hev
      split at hev
      · next q => cases hev; obtain ⟨inf, _, rfl⟩ := conc_map hY; exact eqIn_map_nx q
      · cases hev
    | _ => cases hev
  | map k =>
    obtain ⟨inf, _, rfl⟩ := conc_map hX
    cases y with
    | map0 =>
      simp only [eqE] at hev
      split at hev
      · next q => cases hev; rw [conc_map0 hY]; exact eqIn_map_xn q
      · cases hev
    | _ => cases hev
  | fn0 =>
    rw [conc_fn0 hX]
    cases y with
    | fn0 =>
      simp only [eqE] at hev
      split at hev
      · next q => cases hev; rw [conc_fn0 hY]; exact eqIn_fn_nn q
      · cases hev
    | _ => cases hev
  | fn f a b =>
    obtain ⟨_, _, _, _, rfl⟩ := conc_fn hX
    cases y with
    | fn0 =>
      simp only [eqE] at hev
      split at hev
      · next q => cases hev; rw [conc_fn0 hY]; exact eqIn_fn_xn q
      · cases hev
    | _ => cases hev
  | agg xs =>
    obtain ⟨Xs, hx, rfl⟩ := conc_agg hX
    cases y with
    | agg ys =>
      obtain ⟨Ys, hy, rfl⟩ := conc_agg hY
      simp only [eqE] at hev
      split at hev
      · next fs q =>
        split at hev
        · cases hev
        · next qs =>
          split at hev
          · cases hev
          · have hf : P.fieldsOf t = fs := by unfold Program.fieldsOf; rw [q]
            rw [run_equalIn_struct W (d + 1) t _ _ (by rw [hf]; exact q) qs, hf]
            exact eqFields_ok hx hy hev
      · next len e q =>
        split at hev
        · next qs =>
          split at hev
          · next ql =>
            split at hev
            · cases hev
            · rw [Bool.and_eq_true] at ql
              rw [run_equalIn_array (d + 1) t e len 1 _ _ q qs]
              have hl : xs.length = len := by rw [← lenL_eq]; exact beq_iff.1 ql.1
              rw [← hl]
              exact eqParts_ok hx hy hev rfl rfl
          · cases hev
        · cases hev
      · cases hev
    | _ => cases hev
  | _ => cases hev
end
end Go.Proofs.YtnnalcfdeldocaaGreatDoor.X
