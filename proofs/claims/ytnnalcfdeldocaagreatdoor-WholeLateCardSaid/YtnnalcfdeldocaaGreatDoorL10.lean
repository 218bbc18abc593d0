/- A walk by the kernel: the operations. -/
import Derived.Test.YtnnalcfdeldocaaGreatDoorL09
import Derived.CallsIn
namespace Go.Proofs.YtnnalcfdeldocaaGreatDoor.X
open Go
set_option linter.unusedVariables false
set_option linter.unusedSimpArgs false
/-- An operation that answers. -/
def OutN (M : Nat → Prop) (B : Nat) (ν : Nu) (s : St) (W : World) (r : Result Next) (v : AV) (s1 : St) : Prop := ∃ V W1 ν1, (r = .ok (.value V) W1 ∨ (r = .ok .skip W1 ∧ V = undef)) ∧ conc ν1 v = some V ∧ Eff M B ν ν1 s s1 W W1
section
variable {P : Program} {M : Nat → Prop} {B : Nat} {ν ν1 : Nu} {s s1 s2 s3 : St} {W W1 : World}
theorem OutN.of {m : Sem Value} {v : AV} (h : Out M B ν s W (m.run P W) v s1) : OutN M B ν s W ((do pure (.value (← m)) : Sem Next).run P W) v s1 := by
  obtain ⟨V, W1, ν1, h1, h2, h3⟩ := h
  exact ⟨V, W1, ν1, .inl (by simp [h1]), h2, h3⟩
theorem OutN.of' {m : Sem Value} {v : AV} (h : ∃ V, m.run P W = .ok V W ∧ conc ν v = some V) (hs : Sat M B ν s W) : OutN M B ν s W ((do pure (.value (← m)) : Sem Next).run P W) v s := by
  obtain ⟨V, h1, h2⟩ := h
  exact ⟨V, W, ν, .inl (by simp [h1]), h2, Eff.refl hs⟩
theorem OutN.pure {v : AV} {V : Value} (h : Sat M B ν s W) (hv : conc ν v = some V) : OutN M B ν s W (.ok (.value V) W) v s := ⟨V, W, ν, .inl rfl, hv, Eff.refl h⟩
theorem builtinE_ok {b : Builtin} {ats : Array TypeId} {ty : TypeId} {cs : Array Bool} {args : List AV} {Args : List Value} {v : AV} (hev : builtinE P b ats.toList args s = some (v, s1)) (h : Sat M B ν s W) (hB : B ≤ W.heap.size) (hp : Pre M s s1) (ha : concs ν args = some Args) :
    OutN M B ν s W ((builtin b ats ty cs Args.toArray).run P W) v s1 := by
  have one : ∀ {x : AV}, args = [x] → ∃ X, Args = [X] ∧ conc ν x = some X := fun e => by
    subst e
    obtain ⟨X, y, h1, h2, rfl⟩ := concs_cons.1 ha
    rw [concs_nil] at h2; cases h2
    exact ⟨X, rfl, h1⟩
  have two : ∀ {x y : AV}, args = [x, y] → ∃ X Y, Args = [X, Y] ∧ conc ν x = some X ∧ conc ν y = some Y := fun e => by
    subst e
    obtain ⟨X, l, h1, h2, rfl⟩ := concs_cons.1 ha
    obtain ⟨Y, l, h3, h4, rfl⟩ := concs_cons.1 h2
    rw [concs_nil] at h4; cases h4
    exact ⟨X, Y, rfl, h1, h3⟩
  have hats : ats.toList.toArray = ats := by simp
  unfold builtinE at hev
  split at hev
  · obtain ⟨X, Y, rfl, h1, h2⟩ := two rfl
    have := appendE_ok (ty := ty) hev h hB hp h1 h2
    rw [hats] at this
    exact OutN.of this
  · obtain ⟨X, rfl, h1⟩ := one rfl
    have := len_ok (ats := ats.toList) (ty := ty) (by unfold builtinE; exact hev) h hp h1
    rw [hats] at this
    exact OutN.of this
  · next k a k' b =>
    obtain ⟨X, Y, rfl, h1, h2⟩ := two rfl
    have := min_ok (P := P) (ats := ats.toList) (ty := ty) (by unfold builtinE; exact hev) h h1 h2
    rw [hats] at this
    exact OutN.of this
  · next k a k' b =>
    obtain ⟨X, Y, rfl, h1, h2⟩ := two rfl
    have := max_ok (P := P) (ats := ats.toList) (ty := ty) (by unfold builtinE; exact hev) h h1 h2
    rw [hats] at this
    exact OutN.of this
  · obtain ⟨X, Y, rfl, h1, h2⟩ := two rfl
    have := delete_ok (ats := ats.toList) (ty := ty) (by unfold builtinE; exact hev) h hp h1 h2
    rw [hats] at this
    exact OutN.of this
  · obtain ⟨X, rfl, h1⟩ := one rfl
    have := clear_ok (ats := ats.toList) (ty := ty) (by unfold builtinE; exact hev) h hp h1
    rw [hats] at this
    exact OutN.of this
  · cases hev
theorem opE_ok {T : Tr AV} {a : Act} {o : Oper} {v : AV} (hev : opE P T o.op s = some (v, s1)) (h : Sat M B ν s W) (hB : B ≤ W.heap.size) (hp : Pre M s s1) (ht : TRel ν T a.tmps) :
    OutN M B ν s W ((execOp a.eval o).run P W) v s1 := by
  have ov : ∀ {x : Operand} {v : AV}, opv T x = some v → conc ν v = some (a.eval x) := fun q => opv_ok ht q
  have mv : ∀ {x : Operand}, (match opv T x with
    | none => none
    | some v => some (v, s)) = some (v, s1) → OutN M B ν s W (.ok (.value (a.eval x)) W) v s1 := fun {x} hev => by
    cases q : opv T x with
    | none => rw [q] at hev; cases hev
    | some w => rw [q] at hev; cases hev; exact OutN.pure h (ov q)
  unfold opE at hev
  split at hev
  · next ho => simp only [execOp, ho, Sem.run_pure]; exact mv hev
  · next ho => simp only [execOp, ho, Sem.run_pure]; exact mv hev
  · next c x y ho =>
    simp only [execOp, ho]
    split at hev
    · next q =>
      have := ov q
      simp only [conc, Option.some.injEq] at this
      simp only [← this, asBool, Sem.run_bind, Sem.run_pure, Result.andThen_ok, if_true]
      exact mv hev
    · next q =>
      have := ov q
      simp only [conc, Option.some.injEq] at this
      simp only [← this, asBool, Sem.run_bind, Sem.run_pure, Result.andThen_ok, Bool.false_eq_true, if_false]
      exact mv hev
    · cases hev
  · next e ho =>
    simp only [execOp, ho]
    split at hev
    · cases hev
    · next z q =>
      obtain ⟨Z, hZ, hz⟩ := run_zeroT q W
      have := allocE_ok (P := P) hev h hB (hz ν)
      refine OutN.of ?_
      simp only [Instr.alloc, Sem.run_bind, hZ, Result.andThen_ok]
      simpa using this
  · next e x ho =>
    simp only [execOp, ho]
    split at hev
    · cases hev
    · next v q => exact OutN.of (allocE_ok (P := P) hev h hB (ov q))
  · next t ps ho =>
    simp only [execOp, ho]
    split at hev
    · cases hev
    · next l q =>
      split at hev
      · cases hev
      · next w q2 =>
        cases hev
        have := buildE_ok (W := W) q2 (partsE_ok ht q)
        refine OutN.of' ?_ h
        obtain ⟨V, r1, r2⟩ := this
        refine ⟨V, ?_, r2⟩
        rw [← r1]
        congr 2
        apply Array.ext'
        simp
  · next t n ps ho =>
    simp only [execOp, ho]
    split at hev
    · cases hev
    · next l q =>
      have := buildSliceE_ok hev h hB (partsE_ok ht q)
      refine OutN.of ?_
      have e : (ps.map fun (i, x) => (i, a.eval x)) = (ps.toList.map fun (i, x) => (i, a.eval x)).toArray := by
        apply Array.ext'; simp
      rw [e]
      exact this
  · next t x ho =>
    simp only [execOp, ho]
    split at hev
    · next k i q =>
      obtain ⟨V, r1, r2, r3⟩ := loadE_ok hev h hp (ov q)
      exact OutN.of ⟨V, W, ν, r1, r2, r3⟩
    · cases hev
  · next t x y ho =>
    simp only [execOp, ho]
    split at hev
    · next k i w q1 q2 =>
      cases qs : storeE P t k i w s with
      | none => rw [qs] at hev; cases hev
      | some r =>
        rw [qs] at hev
        cases hev
        obtain ⟨W1, r1, r2⟩ := storeE_ok (u := r.1) (s1 := r.2) qs h hp (ov q1) (ov q2)
        exact ⟨undef, W1, ν, .inr ⟨by simp [r1], rfl⟩, by simp [conc, concs, undef], r2⟩
    · cases hev
  · next x ho =>
    simp only [execOp, ho]
    split at hev
    · next k i q =>
      cases hev
      have hc := ov q
      obtain ⟨inf, _, e⟩ := conc_ptr hc
      rw [e] at hc ⊢
      exact OutN.pure h hc
    · next f l1 l2 q =>
      cases hev
      have hc := ov q
      obtain ⟨x1, x2, _, _, e⟩ := conc_fn hc
      rw [e] at hc ⊢
      exact OutN.pure h hc
    · next k q =>
      cases hev
      have hc := ov q
      have hc' := hc
      simp only [conc, Option.map_eq_some_iff] at hc'
      obtain ⟨inf, _, e⟩ := hc'
      rw [← e] at hc ⊢
      exact OutN.pure h hc
    · cases hev
  · next op t x y pos ho =>
    simp only [execOp, ho]
    split at hev
    · next u w q1 q2 =>
      split at hev
      · cases hev
      · next r q3 =>
        cases hev
        exact OutN.of' (binE_ok q3 (ov q1) (ov q2)) h
    · cases hev
  · next op t x ho =>
    simp only [execOp, ho]
    split at hev
    · cases hev
    · next u q =>
      split at hev
      · cases hev
      · next r q3 =>
        cases hev
        exact OutN.of' (unE_ok q3 (ov q)) h
  · next src dst x ho =>
    simp only [execOp, ho]
    split at hev
    · cases hev
    · next u q => exact OutN.of (convE_ok hev h hB hp (ov q))
  · next fn l1 l2 ho =>
    simp only [execOp, ho]
    split at hev
    · next f =>
      split at hev
      · next x y q1 q2 =>
        cases hev
        refine OutN.of' ⟨.func (.func f) (l1.map a.eval) (l2.map a.eval), rfl, ?_⟩ h
        have h1 := opvs_ok ht q1
        have h2 := opvs_ok ht q2
        simp only [conc, h1, h2, Option.bind_some, Option.map_some]
        rw [show (List.map a.eval l1.toList).toArray = Array.map a.eval l1 by apply Array.ext'; simp, show (List.map a.eval l2.toList).toArray = Array.map a.eval l2 by apply Array.ext'; simp]
      · cases hev
    · cases hev
  · next t ho =>
    simp only [execOp, ho, Option.map_none]
    split at hev
    · cases hev
    · next k s2 q =>
      cases hev
      obtain ⟨rfl, n1, n2, rfl⟩ := newB_some.1 q
      refine OutN.of ⟨.map (some W.heap.size), { W with heap := W.heap.push (.map #[] 0) }, _, by simp [Instr.makeMap], ?_, Eff.alloc (cap := 0) h n2 hB rfl rfl (o := .map #[] 0) rfl ⟨#[], by simp, trivial⟩ rfl rfl rfl⟩
      simp [conc, Nu.add_eq]
  · next t l c ho =>
    simp only [execOp, ho]
    split at hev
    · next u w q1 q2 => exact OutN.of (makeSliceE_ok hev h hB (ov q1) (ov q2))
    · cases hev
  · next t x lo hi mx ho =>
    simp only [execOp, ho]
    split at hev
    · next u l1 l2 l3 q1 q2 q3 q4 => exact OutN.of (sliceE_ok hev h hB (ov q1) (natOpt_ok ht q2) (natOpt_ok ht q3) (natOpt_ok ht q4))
    · cases hev
  · next t x f ho =>
    simp only [execOp, ho]
    split at hev
    · next k i fl q1 q2 =>
      split at hev
      · next n q3 =>
        cases hev
        exact OutN.of' (fieldAddr_ok q2 q3 (ov q1)) h
      · cases hev
    · cases hev
  · next t x f ho =>
    simp only [execOp, ho]
    split at hev
    · cases hev
    · next u q =>
      split at hev
      · cases hev
      · next r q3 =>
        cases hev
        exact OutN.of' (fieldE_ok q3 (ov q)) h
  · next t x ix ho =>
    simp only [execOp, ho]
    split at hev
    · next u w q1 q2 =>
      split at hev
      · cases hev
      · next r q3 =>
        cases hev
        exact OutN.of' (indexAddrE_ok q3 (ov q1) (ov q2)) h
    · cases hev
  · next t x ix ho =>
    simp only [execOp, ho]
    split at hev
    · next u w q1 q2 =>
      split at hev
      · cases hev
      · next r q3 =>
        cases hev
        exact OutN.of' (indexE_ok q3 (ov q1) (ov q2)) h
    · cases hev
  · next t x k ok ho =>
    simp only [execOp, ho]
    split at hev
    · next u w q1 q2 => exact OutN.of (lookupE_ok hev h hp (ov q1) (ov q2))
    · cases hev
  · next t m k x ho =>
    simp only [execOp, ho]
    split at hev
    · next u w y q1 q2 q3 =>
      obtain ⟨W1, r1, rfl, r2⟩ := updateE_ok hev h hp (ov q1) (ov q2) (ov q3)
      exact ⟨undef, W1, ν, .inr ⟨by simp [r1], rfl⟩, by simp [conc, concs, undef], r2⟩
    · cases hev
  · next t m k x ho =>
    simp only [execOp, ho]
    split at hev
    · next u w y q1 q2 q3 =>
      obtain ⟨W1, r1, rfl, r2⟩ := updateE_ok hev h hp (ov q1) (ov q2) (ov q3)
      exact ⟨undef, W1, ν, .inr ⟨by simp [r1], rfl⟩, by simp [conc, concs, undef], r2⟩
    · cases hev
  · next t x ho =>
    simp only [execOp, ho]
    split at hev
    · cases hev
    · next u q => exact OutN.of (rangeE_ok hev h hB hp (ov q))
  · next x ho =>
    simp only [execOp, ho]
    split at hev
    · cases hev
    · next u q => exact OutN.of (nextE_ok hev h hp (ov q))
  · next x ho =>
    simp only [execOp, ho]
    split at hev
    · cases hev
    · next u q => exact OutN.of (entryE_ok hev h hp (ov q))
  · next t i ho =>
    simp only [execOp, ho]
    split at hev
    · next vs q =>
      split at hev
      · cases hev
      · next w q2 =>
        cases hev
        rw [nth_eq] at q2
        have hc := ov q
        simp only [conc, Option.map_eq_some_iff] at hc
        obtain ⟨L, l1, l2⟩ := hc
        obtain ⟨V, r1, r2⟩ := concs_get l1 q2
        refine OutN.of' ⟨V, ?_, r2⟩ h
        rw [← l2]
        simp [Instr.extract, r1]
    · cases hev
  · next b args ats ho =>
    simp only [execOp, ho]
    split at hev
    · cases hev
    · next vs q =>
      have := builtinE_ok (ty := o.type) (cs := args.map fun | .const _ => true | _ => false) hev h hB hp (opvs_ok ht q)
      simp only [resolve, Sem.run_bind, Sem.run_pure, Result.andThen_ok, invoke]
      have e : (args.toList.map a.eval).toArray = args.map a.eval := by apply Array.ext'; simp
      rw [e] at this
      exact this
  · cases hev
end
end Go.Proofs.YtnnalcfdeldocaaGreatDoor.X
