/- A walk by the kernel: a function, and the evaluator whole. -/
import Derived.Test.YtnnalcfdeldocaaGreatDoorL14
import Derived.RangeFuncLeaves
namespace Go.Proofs.YtnnalcfdeldocaaGreatDoor.X
open Go
set_option linter.unusedVariables false
set_option linter.unusedSimpArgs false
section
variable {ih : Req → E Res} {P : Program} {M : Nat → Prop} {B : Nat} {ν ν1 : Nu} {W W1 : World} {s s1 s2 : St}
theorem LeM.marksE : ∀ (mk : List Nat), LeM (marksE mk)
  | [] => fun s a s1 hev => by simp only [X.marksE, Option.some.injEq, Prod.mk.injEq] at hev; obtain ⟨_, rfl⟩ := hev; exact Le.refl _
  | d :: ds => fun s a s1 hev => by
    simp only [X.marksE] at hev
    split at hev
    · split at hev
      · cases hev
      · next u s2 q => exact (LeM.killB _ _ _ _ q).trans (LeM.marksE ds _ _ _ hev)
    · cases hev
theorem marks_ok {fn : Func} {tmps : Array Value} {R : Ending → World → Prop} : ∀ {mk : List Nat} {ds : List Deferred} {s s1 : St} {u : Unit} {M : Nat → Prop} {W : World}, marksE mk s = some (u, s1) → Sat M B ν s W → Pre M s s1 → MkOk ν mk ds →
    (∀ W1, Eff M B ν ν s s1 W W1 → ∃ v, (results fn tmps).run P W1 = .ok v W1 ∧ R (.returned v) W1) → LeavesInM Fence.wide 0 P fn tmps R ds .returning W
  | [], [], s, s1, u, M, W, hev, h, hp, hk, hq => by
    simp only [marksE, Option.some.injEq, Prod.mk.injEq] at hev
    obtain ⟨_, rfl⟩ := hev
    exact hq W (Eff.refl h)
  | [], _ :: _, _, _, _, _, _, _, _, _, hk, _ => hk.elim
  | _ :: _, [], _, _, _, _, _, _, _, _, hk, _ => hk.elim
  | d :: ds, D :: Ds, s, s1, u, M, W, hev, h, hp, ⟨⟨inf, hd, hD⟩, hk⟩, hq => by
    subst hD
    simp only [marksE] at hev
    split at hev
    · next hb =>
      split at hev
      · cases hev
      · next u2 s2 q =>
        have l1 := LeM.killB _ _ _ _ q
        have l2 := LeM.marksE ds _ _ _ hev
        obtain ⟨_, g2, rfl⟩ := killB_some.1 q
        have hM : M d := hp d (h.dom d ⟨_, hb⟩) (.inr (l2.wr d (by show (Nat.lor s.wr (bit d)).testBit d = true; rw [testBit_lor]; simp)))
        obtain ⟨inf', i1, i2⟩ := h.blk d _ hM hb
        rw [hd] at i1; cases i1
        have hb2 : W.heap[inf.blk]? = some (.deferred (some [])) := i2
        have e1 : Eff M B ν ν s ({ s with heap := Tr.put 20 s.heap d none, wr := Nat.lor s.wr (bit d) } : St) W (W.putObj inf.blk (.deferred none)) :=
          Eff.kill h hM hb hd g2 rfl rfl (fun j => testBit_lor _ _ _) (by simp) (fun j hj => World.putObj_heap_other hj) rfl rfl rfl
        refine ⟨by simp, .inl ⟨inf.blk, _, rfl, run_takeDeferred hb2, ?_⟩⟩
        exact marks_ok (M := fun k => M k ∨ s.next ≤ k) hev e1.sat hp.right hk fun W1 e2 => hq W1 (e1.trans e2 l1 l2 h.fresh)
    · cases hev
theorem LeM.resultsE {T : Tr AV} : ∀ (rs : List ResultVar), LeM (resultsE P T rs)
  | [] => fun s a s1 hev => by simp only [X.resultsE, Option.some.injEq, Prod.mk.injEq] at hev; obtain ⟨_, rfl⟩ := hev; exact Le.refl _
  | .tmp t :: rs => fun s a s1 hev => by
    simp only [X.resultsE] at hev
    split at hev
    · cases hev
    · split at hev
      · cases hev
      · next q => cases hev; exact LeM.resultsE rs _ _ _ q
  | .cell c t :: rs => fun s a s1 hev => by
    simp only [X.resultsE] at hev
    split at hev
    · split at hev
      · cases hev
      · next q =>
        split at hev
        · cases hev
        · next q2 => cases hev; exact (LeM.loadE _ _ _ _ _ _ q).trans (LeM.resultsE rs _ _ _ q2)
    · cases hev
def resOne (tmps : Array Value) : ResultVar → Sem Value
  | .tmp t => pure (tmps.getD t undef)
  | .cell a t => do loadVar t (← asAddr (tmps.getD a undef))
theorem results_ok {T : Tr AV} {tm : Array Value} : ∀ {rs : List ResultVar} {vs : List AV} {s s1 : St} {M : Nat → Prop}, resultsE P T rs s = some (vs, s1) → Sat M B ν s W → Pre M s s1 → TRel ν T tm →
    ∃ Vs, (rs.mapM (resOne tm)).run P W = .ok Vs W ∧ concs ν vs = some Vs ∧ Eff M B ν ν s s1 W W
  | [], vs, s, s1, M, hev, h, hp, ht => by
    simp only [resultsE, Option.some.injEq, Prod.mk.injEq] at hev
    obtain ⟨rfl, rfl⟩ := hev
    exact ⟨[], rfl, concs_nil, Eff.refl h⟩
  | .tmp t :: rs, vs, s, s1, M, hev, h, hp, ht => by
    simp only [resultsE] at hev
    split at hev
    · cases hev
    · next v q =>
      split at hev
      · cases hev
      · next vs' s2 q2 =>
        cases hev
        obtain ⟨Vs, h1, h2, h3⟩ := results_ok q2 h hp ht
        obtain ⟨V, k1, k2⟩ := ht t v q
        refine ⟨V :: Vs, ?_, concs_cons.2 ⟨V, Vs, k2, h2, rfl⟩, h3⟩
        have : tm.getD t undef = V := by rw [Array.getD_eq_getD_getElem?, k1]; rfl
        simp only [List.mapM_cons, resOne, this, Sem.run_bind, Sem.run_pure, Result.andThen_ok, h1]
  | .cell c t :: rs, vs, s, s1, M, hev, h, hp, ht => by
    simp only [resultsE] at hev
    split at hev
    · next k i qa =>
      split at hev
      · cases hev
      · next v sA q =>
        split at hev
        · cases hev
        · next vs' s2 q2 =>
          cases hev
          have l1 := LeM.loadE _ _ _ _ _ _ q
          have l2 := LeM.resultsE rs _ _ _ q2
          obtain ⟨A, k1, k2⟩ := ht c _ qa
          have k2' := k2
          simp only [conc, Option.map_eq_some_iff] at k2'
          obtain ⟨inf, i1, i2⟩ := k2'
          obtain ⟨V, v1, v2, v3⟩ := loadE_ok q h (hp.left l2) k2
          obtain ⟨Vs, h1, h2, h3⟩ := results_ok (M := fun k => M k ∨ s.next ≤ k) q2 v3.sat hp.right ht
          refine ⟨V :: Vs, ?_, concs_cons.2 ⟨V, Vs, v2, h2, rfl⟩, v3.trans h3 l1 l2 h.fresh⟩
          have hA : tm.getD c undef = A := by rw [Array.getD_eq_getD_getElem?, k1]; rfl
          have hl : (loadVar t ⟨inf.blk, inf.off + i, none⟩).run P W = .ok V W := by
            rw [← v1, ← i2]
            simp [Instr.loadAt, Instr.sureAddr]
          simp only [List.mapM_cons, resOne, hA, ← i2, asAddr, Sem.run_bind, Sem.run_pure, Result.andThen_ok, h1, hl]
    · cases hev
theorem argsT_ok {n : Nat} : ∀ {vs : List AV} {Vs pre : List Value} {i : Nat} {T T' : Tr AV}, argsT n i vs T = some T' → concs ν vs = some Vs → pre.length = i → i ≤ n → (∀ t v, T.get t = some v → t < i ∧ ∃ V, pre[t]? = some V ∧ conc ν v = some V) →
    i + vs.length ≤ n ∧ ∀ t v, T'.get t = some v → ∃ V, (pre ++ Vs)[t]? = some V ∧ conc ν v = some V
  | [], Vs, pre, i, T, T', h, hv, hl, hi, ht => by
    simp only [argsT, Option.some.injEq] at h
    subst h
    rw [concs_nil] at hv; cases hv
    exact ⟨by simpa using hi, fun t v e => by obtain ⟨_, V, h1, h2⟩ := ht t v e; exact ⟨V, by simpa using h1, h2⟩⟩
  | v :: vs, Vs, pre, i, T, T', h, hv, hl, hi, ht => by
    simp only [argsT] at h
    split at h
    · cases h
    · next T1 q =>
      obtain ⟨V, Vr, h1, h2, rfl⟩ := concs_cons.1 hv
      rcases putT_get q with ⟨e, _⟩ | ⟨d, e, hd, hg⟩
      · cases e
      · simp only [Option.some.injEq] at e
        subst e
        have hi1 : i + 1 ≤ n := hd
        obtain ⟨g1, g2⟩ := argsT_ok (pre := pre ++ [V]) h h2 (by simp [hl]) hi1 (fun t w e => by
          rw [hg] at e
          by_cases q2 : t = i
          · subst q2
            rw [if_pos rfl] at e; cases e
            exact ⟨by omega, V, by rw [List.getElem?_append_right (by omega)]; simp [hl], h1⟩
          · rw [if_neg q2] at e
            obtain ⟨h3, U, h4, h5⟩ := ht t w e
            exact ⟨by omega, U, by rw [List.getElem?_append_left (by omega)]; exact h4, h5⟩)
        exact ⟨by simp; omega, fun t w e => by obtain ⟨U, u1, u2⟩ := g2 t w e; exact ⟨U, by simpa using u1, u2⟩⟩
theorem funE_ok {f : Nat} {args : List AV} {r : Res} (IH : IHok P ih) (hev : funE ih P f args s = some (r, s1)) : (∃ v, r = .val v ∧ CallOk P f args s v s1) ∧ Le s s1 := by
  unfold funE at hev
  split at hev
  · cases hev
  next fn hfn =>
  split at hev
  · cases hev
  next c hc =>
  split at hev
  · cases hev
  next hname =>
  split at hev
  · cases hev
  next T hT =>
  split at hev
  · next x T' mk sA qA =>
    obtain ⟨xA, TA, mkA, eA, oA⟩ := IH.code qA
    cases eA
    have leA := IH.le _ _ _ _ qA
    have tail : ∀ {sB sC : St} {u : Unit} {vs : List AV}, (x = .normal ∨ x = .ret) → marksE mk sA = some (u, sB) → resultsE P T' fn.results.toList sB = some (vs, sC) → CallOk P f args s (oneOf vs) sC ∧ Le s sC := by
      intro sB sC u vs hx qB qC
      have leB := LeM.marksE mk _ _ _ qB
      have leC := LeM.resultsE (P := P) _ _ _ _ qC
      refine ⟨?_, leA.trans (leB.trans leC)⟩
      intro M B ν W Args h hB hp hargs
      refine ⟨⟨fn, hfn, by rw [hc]; rfl, hname⟩, fun R hR => callsIn_of_wp_marks hfn hc trivial ?_⟩
      obtain ⟨n1, n2⟩ := argsT_ok (pre := []) hT hargs rfl (Nat.zero_le _) (fun t v e => by rw [Tr.get_nil] at e; cases e)
      rw [Nat.zero_add] at n1
      have hlen := concs_length hargs
      show c.wpIn (FW none) 0 P _ _ W
      refine oA (r := none) h hB (hp.left (leB.trans leC)) (fun t v e => ?_) ?_ rfl trivial fun a1 w1 ν1 e1 t1 t2 t3 => ?_
      · obtain ⟨V, v1, v2⟩ := n2 t v e
        refine ⟨V, ?_, v2⟩
        rw [List.nil_append] at v1
        have : t < Args.length := (List.getElem?_eq_some_iff.1 v1).1
        rw [Array.getElem?_append_left (by simpa using this)]
        simpa using v1
      · simp
        omega
      · have fin : LeavesInM Fence.wide 0 P fn a1.tmps R a1.defers .returning w1 := by
          refine marks_ok (M := fun k => M k ∨ s.next ≤ k) qB e1.sat (hp.left leC).right t3 fun W1 e2 => ?_
          have e12 := e1.trans e2 leA leB h.fresh
          obtain ⟨Vs, r1, r2, r3⟩ := results_ok (P := P) (M := fun k => M k ∨ s.next ≤ k) (W := W1) qC e12.sat hp.right (t1.mono e2.ext)
          have e123 := e12.trans r3 (leA.trans leB) leC h.fresh
          have hres : (fn.results.mapM (resOne a1.tmps)).run P W1 = .ok Vs.toArray W1 := by
            rw [Array.mapM_eq_mapM_toList]
            simp only [Sem.run_map, r1, Result.andThen_ok]
          have hfun : (results fn a1.tmps).run P W1 = .ok (if h : Vs.toArray.size = 1 then Vs.toArray[0] else .tuple Vs.toArray) W1 := by
            have e : results fn a1.tmps = (do
              let vs ← fn.results.mapM (resOne a1.tmps)
              pure (if h : vs.size = 1 then vs[0] else .tuple vs)) := by
              unfold results
              congr 1
            rw [e]
            simp only [Sem.run_bind, hres, Result.andThen_ok, Sem.run_pure]
          refine ⟨_, hfun, hR _ _ ν1 ?_ e123⟩
          have hl := concs_length r2
          cases vs with
          | nil =>
            rw [concs_nil] at r2; cases r2
            simp [oneOf, conc, concs]
          | cons v vr =>
            obtain ⟨V, Vr, h1, h2, rfl⟩ := concs_cons.1 r2
            cases vr with
            | nil =>
              rw [concs_nil] at h2; cases h2
              simpa [oneOf] using h1
            | cons v2 vr =>
              obtain ⟨V2, Vr2, h3, h4, rfl⟩ := concs_cons.1 h2
              simp [oneOf, conc, r2]
        rcases hx with rfl | rfl
        · exact fin
        · exact fin
    cases x with
    | exit i => cases hev
    | normal =>
      simp only at hev
      split at hev
      · cases hev
      · next u sB qB =>
        split at hev
        · cases hev
        · next vs sC qC =>
          cases hev
          obtain ⟨m1, m2⟩ := tail (.inl rfl) qB qC
          exact ⟨⟨_, rfl, m1⟩, m2⟩
    | ret =>
      simp only at hev
      split at hev
      · cases hev
      · next u sB qB =>
        split at hev
        · cases hev
        · next vs sC qC =>
          cases hev
          obtain ⟨m1, m2⟩ := tail (.inr rfl) qB qC
          exact ⟨⟨_, rfl, m1⟩, m2⟩
  · cases hev
end
/-- What is asked of the calls whose answers are known. -/
def HookOk (P : Program) (H : Hook) : Prop := ∀ f args s v s1, H f args s = some (v, s1) → CallOk P f args s v s1 ∧ Le s s1
theorem codeE_le {ih : Req → E Res} {P : Program} {rd : Option Nat} {c : Code} {T : Tr AV} {n : Nat} {mk : List Nat} {r : Res} {s s1 : St} (IH : IHok P ih) (hnr : ∀ f ps asg body, c ≠ .rangeFunc f ps asg body) (hev : codeE ih P rd c T n mk s = some (r, s1)) : Le s s1 := by
  unfold codeE at hev
  split at hev
  · cases hev; exact Le.refl _
  · cases hev; exact Le.refl _
  · split at hev
    · cases hev
    · next q => cases hev; exact LeM.opsE IH _ _ _ _ _ q
  · split at hev
    · cases hev
    · next q => cases hev; exact LeM.drawE IH q
  · split at hev
    · next q => exact (IH.le _ _ _ _ q).trans (IH.le _ _ _ _ hev)
    · next q => cases hev; exact IH.le _ _ _ _ q
    · cases hev
  · split at hev
    · exact IH.le _ _ _ _ hev
    · exact IH.le _ _ _ _ hev
    · cases hev
  · split at hev
    · next q => split at hev <;> (cases hev; exact IH.le _ _ _ _ q)
    · exact IH.le _ _ _ _ hev
  · split at hev
    · next q => exact (IH.le _ _ _ _ q).trans (IH.le _ _ _ _ hev)
    · next q => cases hev; exact IH.le _ _ _ _ q
    · cases hev
  · cases hev; exact Le.refl _
  · cases hev; exact Le.refl _
  · exact absurd rfl (hnr _ _ _ _)
  · cases hev
/-- The evaluator, whatever its fuel. -/
theorem ev_ok {P : Program} {H : Hook} (hm : P.follows .mixedOrders = true) (hH : HookOk P H) : ∀ n, IHok P (ev P H n)
  | 0 => ⟨fun h => by simp [ev] at h, fun h => by simp [ev] at h, fun h => by simp [ev] at h, fun q s a s1 h => by simp [ev] at h⟩
  | n + 1 => by
    have IH := ev_ok hm hH n
    have estep : ∀ q, ev P H (n + 1) q = stepE P H (ev P H n) q := fun q => rfl
    have hc : ∀ {rd c T m mk s r s1}, ev P H (n + 1) (.code rd c T m mk) s = some (r, s1) → (∃ x T' mk', r = .code x T' mk' ∧ CodeOk P rd c T m mk s x T' mk' s1) ∧ Le s s1 := fun {rd c T m mk s r s1} h => by
      rw [estep] at h
      simp only [stepE] at h
      by_cases q : ∃ f ps asg body, c = .rangeFunc f ps asg body
      · obtain ⟨f, ps, asg, body, rfl⟩ := q
        obtain ⟨x, T', mk', h1, h2, h3⟩ := codeE_range IH h
        exact ⟨⟨x, T', mk', h1, h2⟩, h3⟩
      · have hnr : ∀ f ps asg body, c ≠ .rangeFunc f ps asg body := fun f ps asg body e => q ⟨f, ps, asg, body, e⟩
        exact ⟨codeE_plain IH hm hnr h, codeE_le IH hnr h⟩
    have hf : ∀ {f args s r s1}, ev P H (n + 1) (.call f args) s = some (r, s1) → (∃ v, r = .val v ∧ CallOk P f args s v s1) ∧ Le s s1 := fun {f args s r s1} h => by
      rw [estep] at h
      simp only [stepE] at h
      split at h
      · next v s2 q =>
        cases h
        obtain ⟨h1, h2⟩ := hH _ _ _ _ _ q
        exact ⟨⟨v, rfl, h1⟩, h2⟩
      · exact funE_ok IH h
    have hy : ∀ {k args s r s1}, ev P H (n + 1) (.yield k args) s = some (r, s1) → (∃ v, r = .val v ∧ YieldOk P k args s v s1) ∧ Le s s1 := fun {k args s r s1} h => by
      rw [estep] at h
      exact yieldE_ok IH h
    refine ⟨fun h => (hc h).1, fun h => (hf h).1, fun h => (hy h).1, fun q s a s1 h => ?_⟩
    cases q with
    | code rd c T m mk => exact (hc h).2
    | call f args => exact (hf h).2
    | yield k args => exact (hy h).2
end Go.Proofs.YtnnalcfdeldocaaGreatDoor.X
