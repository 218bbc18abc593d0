/- A walk by the kernel: what is asked of the evaluator's calls of itself; operations that call. A walk by the kernel: operations one by one. A walk by the kernel: a loop, round by round. A walk by the kernel: tries that are kept in part, tries that are laid over one another; what lies below a name. A walk by the kernel: a step that was walked at another place in the order. A walk by the kernel: an operation sees its operands alone. A walk by the kernel: what a region that draws has walked. -/
import Derived.Test.YtnnalcfdeldocaaGreatDoorL10
import Derived.RangeFuncCalls
namespace Go.Proofs.YtnnalcfdeldocaaGreatDoor.X
open Go
set_option linter.unusedVariables false
set_option linter.unusedSimpArgs false
/-- No bounds; in a round of loop r, or in none. -/
def FW (r : Option Nat) : Fence := { Fence.wide with round := r }
def RdOk (ν : Nu) : Option Nat → Option Nat → Prop
  | none, r => r = none
  | some k, r => ∃ inf, ν k = some inf ∧ r = some inf.blk
def MkOk (ν : Nu) : List Nat → List Deferred → Prop
  | [], [] => True
  | d :: ds, D :: Ds => (∃ inf, ν d = some inf ∧ D = { target := .collected inf.blk, args := #[] }) ∧ MkOk ν ds Ds
  | _, _ => False
theorem MkOk.mono {ν ν' : Nu} (hn : ν.le ν') : ∀ {ds : List Nat} {Ds : List Deferred}, MkOk ν ds Ds → MkOk ν' ds Ds
  | [], [], _ => trivial
  | d :: ds, D :: Ds, ⟨⟨inf, h1, h2⟩, h3⟩ => ⟨⟨inf, hn _ _ h1, h2⟩, MkOk.mono hn h3⟩
  | [], _ :: _, h => h.elim
  | _ :: _, [], h => h.elim
theorem RdOk.mono {ν ν' : Nu} (hn : ν.le ν') {rd r : Option Nat} (h : RdOk ν rd r) : RdOk ν' rd r := by
  cases rd with
  | none => exact h
  | some k => obtain ⟨inf, h1, h2⟩ := h; exact ⟨inf, hn _ _ h1, h2⟩
def exitOf : XR → Exit
  | .normal => .normal
  | .exit id => .exit id
  | .ret => .ret
def CodeOk (P : Program) (rd : Option Nat) (c : Code) (T : Tr AV) (n : Nat) (mk : List Nat) (s : St) (x : XR) (T' : Tr AV) (mk' : List Nat) (s1 : St) : Prop :=
  ∀ {M : Nat → Prop} {B : Nat} {ν : Nu} {W : World} {a : Act} {r : Option Nat} {Q : Exit → Act → World → Prop}, Sat M B ν s W → B ≤ W.heap.size → Pre M s s1 → TRel ν T a.tmps → a.tmps.size = n → RdOk ν rd r → MkOk ν mk a.defers →
    (∀ a' w' ν', Eff M B ν ν' s s1 W w' → TRel ν' T' a'.tmps → a'.tmps.size = n → MkOk ν' mk' a'.defers → Q (exitOf x) a' w') → c.wpIn (FW r) 0 P Q a W
def CallOk (P : Program) (f : Nat) (args : List AV) (s : St) (v : AV) (s1 : St) : Prop :=
  ∀ {M : Nat → Prop} {B : Nat} {ν : Nu} {W : World} {Args : List Value}, Sat M B ν s W → B ≤ W.heap.size → Pre M s s1 → concs ν args = some Args →
    (∃ fn, P.funcs[f]? = some fn ∧ fn.body.isNone = false ∧ (fn.name == "runtime.NumGoroutine") = false) ∧
    ∀ R : Ending → World → Prop, (∀ V w' ν', conc ν' v = some V → Eff M B ν ν' s s1 W w' → R (.returned V) w') → CallsIn Fence.wide 0 P f Args.toArray W R
def YieldOk (P : Program) (k : Nat) (args : List AV) (s : St) (v : AV) (s1 : St) : Prop :=
  ∀ {M : Nat → Prop} {B : Nat} {ν : Nu} {W : World} {Args : List Value} {inf : Inf}, Sat M B ν s W → B ≤ W.heap.size → Pre M s s1 → ν k = some inf → concs ν args = some Args →
    ∃ fn tmps asg body, (Instr.yield inf.blk Args.toArray).run P W = .ok (.round inf.blk fn tmps asg body) W ∧
      ∀ R : Ending → World → Prop, (∀ V w' ν', conc ν' v = some V → Eff M B ν ν' s s1 W w' → R (.returned V) w') → RoundIn Fence.wide 0 P inf.blk fn tmps asg body W R
/-- What is asked of the evaluator with less fuel. -/
structure IHok (P : Program) (ih : Req → E Res) : Prop where
  code : ∀ {rd c T n mk s r s1}, ih (.code rd c T n mk) s = some (r, s1) → ∃ x T' mk', r = .code x T' mk' ∧ CodeOk P rd c T n mk s x T' mk' s1
  call : ∀ {f args s r s1}, ih (.call f args) s = some (r, s1) → ∃ v, r = .val v ∧ CallOk P f args s v s1
  yield : ∀ {k args s r s1}, ih (.yield k args) s = some (r, s1) → ∃ v, r = .val v ∧ YieldOk P k args s v s1
  le : ∀ q, LeM (ih q)
section
variable {P : Program} {M : Nat → Prop} {B : Nat} {ν ν1 : Nu} {s s1 s2 s3 : St} {W W1 : World} {ih : Req → E Res}
theorem callE_cases {T : Tr AV} {c : Call} {v : AV} (IH : IHok P ih) (hev : callE ih T c s = some (v, s1)) : ∃ f, c.callee = .value f ∧
    ((∃ g x y vs, opv T f = some (.fn g x y) ∧ opvs T c.args.toList = some vs ∧ ih (.call g (x ++ vs ++ y)) s = some (.val v, s1)) ∨
     (∃ k vs, opv T f = some (.yld k) ∧ opvs T c.args.toList = some vs ∧ ih (.yield k vs) s = some (.val v, s1))) := by
  unfold callE at hev
  split at hev
  · next f hf =>
    refine ⟨f, hf, ?_⟩
    split at hev
    · next g x y vs q1 q2 =>
      left
      split at hev
      · next w s2 q3 => cases hev; exact ⟨g, x, y, vs, q1, q2, q3⟩
      · cases hev
    · next k vs q1 q2 =>
      right
      split at hev
      · next w s2 q3 => cases hev; exact ⟨k, vs, q1, q2, q3⟩
      · cases hev
    · cases hev
  · cases hev
theorem LeM.callE {T : Tr AV} {c : Call} (IH : IHok P ih) : LeM (callE ih T c) := fun s v s1 hev => by
  obtain ⟨f, _, ⟨g, x, y, vs, _, _, h⟩ | ⟨k, vs, _, _, h⟩⟩ := callE_cases IH hev
  · exact IH.le _ _ _ _ h
  · exact IH.le _ _ _ _ h
theorem LeM.operE {T : Tr AV} {o : Op} (IH : IHok P ih) : LeM (operE ih P T o) := by
  unfold X.operE
  split
  · split
    · exact LeM.callE IH
    · exact LeM.opE _ _
  · exact LeM.opE _ _
/-- No operation that goes through is a defer statement. -/
theorem opE_not_defer {T : Tr AV} {o : Op} {v : AV} (hev : opE P T o s = some (v, s1)) : ∀ c, o ≠ .defer c := by
  intro c e
  subst e
  simp [opE] at hev
theorem operE_cases {T : Tr AV} {o : Op} {v : AV} (hev : operE ih P T o s = some (v, s1)) : (∃ c, o = .call c ∧ callE ih T c s = some (v, s1)) ∨ opE P T o s = some (v, s1) := by
  cases o with
  | call c =>
    obtain ⟨callee, args, ats⟩ := c
    cases callee with
    | value f => exact .inl ⟨_, rfl, hev⟩
    | builtin b => exact .inr hev
    | invoke r n => exact .inr hev
  | _ => exact .inr hev
theorem operE_ok {T : Tr AV} {a : Act} {o : Oper} {v : AV} {r : Option Nat} {next : Act → World → Prop} {Q : Exit → Act → World → Prop} (IH : IHok P ih) (hev : operE ih P T o.op s = some (v, s1)) (h : Sat M B ν s W) (hB : B ≤ W.heap.size) (hp : Pre M s s1) (ht : TRel ν T a.tmps)
    (hn : ∀ V W1 ν1, conc ν1 v = some V → Eff M B ν ν1 s s1 W W1 → next (a.put o.dst V) W1) : o.wpIn (FW r) 0 P a W next Q := by
  refine ⟨fun f _ => trivial, ?_⟩
  have plain : opE P T o.op s = some (v, s1) → o.uponIn (FW r) 0 P a next Q ((o.semAt (FW r).round a.eval).run P W) := fun hev => by
    rw [Oper.semAt_eq _ _ _ (opE_not_defer hev)]
    obtain ⟨V, W1, ν1, h1, h2, h3⟩ := opE_ok hev h hB hp ht
    rcases h1 with h1 | ⟨h1, rfl⟩
    · rw [h1]; exact hn V W1 ν1 h2 h3
    · rw [h1]; exact hn undef W1 ν1 h2 h3
  rcases operE_cases hev with ⟨c, ho, hev⟩ | hev
  · obtain ⟨f, hf, hcall⟩ := callE_cases IH hev
    rw [Oper.semAt_eq _ _ _ (fun c' e => by rw [ho] at e; cases e)]
    rcases hcall with ⟨g, x, y, vs, q1, q2, q3⟩ | ⟨k, vs, q1, q2, q3⟩
    · obtain ⟨v', e, hok⟩ := IH.call q3
      cases e
      have hF := opv_ok ht q1
      obtain ⟨X, Y, hx, hy, eF⟩ := conc_fn hF
      have hvs := opvs_ok ht q2
      have hargs : concs ν (x ++ vs ++ y) = some (X ++ c.args.toList.map a.eval ++ Y) := concs_append (concs_append hx hvs) hy
      obtain ⟨⟨fn, f1, f2, f3⟩, hR⟩ := hok h hB hp hargs
      have hrun : (execOp a.eval o).run P W = .ok (.enter g (X ++ c.args.toList.map a.eval ++ Y).toArray) W := by
        simp only [execOp, ho, resolve, hf, eF, Deferred.ofValue, invoke, callFunc]
        have f2' : fn.body ≠ none := fun e => by rw [e] at f2; cases f2
        have f3' : fn.name ≠ "runtime.NumGoroutine" := by simpa using f3
        simp [f1, f2', f3']
      rw [hrun, Oper.uponIn_enter]
      exact ⟨fun q => by simp [FW, Fence.wide] at q, hR _ fun V w' ν' hv he => hn V w' ν' hv he⟩
    · obtain ⟨v', e, hok⟩ := IH.yield q3
      cases e
      have hF := opv_ok ht q1
      have hF' := hF
      simp only [conc, Option.map_eq_some_iff] at hF'
      obtain ⟨inf, hk, eF⟩ := hF'
      have hvs := opvs_ok ht q2
      obtain ⟨fn, tmps, asg, body, y1, y2⟩ := hok h hB hp hk hvs
      have hrun : (execOp a.eval o).run P W = .ok (.round inf.blk fn tmps asg body) W := by
        rw [← y1]
        simp only [execOp, ho, resolve, hf, ← eF, Deferred.ofValue, invoke]
        simp
        congr 2
        apply Array.ext'; simp
      rw [hrun, Oper.uponIn_round]
      exact ⟨fun q => by simp [FW, Fence.wide] at q, y2 _ fun V w' ν' hv he => hn V w' ν' hv he⟩
  · exact plain hev
end
end Go.Proofs.YtnnalcfdeldocaaGreatDoor.X
namespace Go.Proofs.YtnnalcfdeldocaaGreatDoor.X
open Go
set_option linter.unusedVariables false
set_option linter.unusedSimpArgs false
section
variable {P : Program} {M : Nat → Prop} {B : Nat} {ν ν1 : Nu} {s s1 s2 s3 : St} {W W1 : World} {ih : Req → E Res}
theorem wantE_ok {ops : Array Oper} {T : Tr AV} {tm : Array Value} {o : Oper} {b : Bool} (hev : wantE ops T o = some b) (ht : TRel ν T tm) : Region.wanted o (yielded ops tm) = b := by
  unfold wantE at hev
  unfold Region.wanted
  cases hg : o.guard with
  | none => rw [hg] at hev; simp only [Option.some.injEq] at hev; exact hev
  | some p =>
    obtain ⟨j, want⟩ := p
    rw [hg] at hev
    simp only at hev ⊢
    unfold yielded
    cases hd : (ops[j]?).bind (·.dst) with
    | none => rw [hd] at hev; cases hev
    | some d =>
      rw [hd] at hev
      simp only at hev
      split at hev
      · next x q =>
        obtain ⟨V, h1, h2⟩ := ht d _ q
        simp only [conc, Option.some.injEq] at h2
        subst h2
        simp only [Option.some.injEq] at hev
        subst hev
        simp only [Option.bind_some, h1]
        rfl
      · next q =>
        obtain ⟨V, h1, h2⟩ := ht d _ q
        simp only [conc, concs, Option.map_some, Option.some.injEq] at h2
        subst h2
        simp only [Option.some.injEq] at hev
        subst hev
        simp only [Option.bind_some, h1]
        rfl
      · cases hev
theorem putT_get {n : Nat} {T T' : Tr AV} {d : Option Tmp} {v : AV} (hev : putT n T d v = some T') : (d = none ∧ T' = T) ∨ ∃ t, d = some t ∧ t < n ∧ ∀ k, T'.get k = if k = t then some v else T.get k := by
  unfold putT at hev
  cases d with
  | none => simp only [Option.some.injEq] at hev; exact .inl ⟨rfl, hev.symm⟩
  | some t =>
    simp only at hev
    split at hev
    · next q =>
      simp only [Bool.and_eq_true, blt_iff] at q
      cases hev
      exact .inr ⟨t, rfl, q.1, fun k => Tr.get_put 10 _ _ _ _ (by omega)⟩
    · cases hev
theorem putT_ok {n : Nat} {T T' : Tr AV} {d : Option Tmp} {v : AV} {V : Value} {a : Act} (hev : putT n T d v = some T') (ht : TRel ν T a.tmps) (hs : a.tmps.size = n) (hv : conc ν v = some V) : TRel ν T' (a.put d V).tmps ∧ (a.put d V).tmps.size = n ∧ (a.put d V).defers = a.defers := by
  rcases putT_get hev with ⟨rfl, rfl⟩ | ⟨t, rfl, hlt, hg⟩
  · exact ⟨ht, hs, rfl⟩
  · refine ⟨fun k w hw => ?_, by simp [Act.put, hs], rfl⟩
    rw [hg] at hw
    simp only [Act.put, Array.getElem?_setIfInBounds]
    by_cases e : k = t
    · subst e
      rw [if_pos rfl] at hw
      cases hw
      rw [if_pos rfl]
      exact ⟨V, by rw [if_pos (by rw [hs]; exact hlt)], hv⟩
    · rw [if_neg e] at hw
      rw [if_neg (fun q => e q.symm)]
      exact ht k w hw
theorem LeM.opsE {ops : Array Oper} {n : Nat} (IH : IHok P ih) : ∀ (os : List Oper) (T : Tr AV), LeM (opsE ih P ops n os T)
  | [], T => fun s T' s1 hev => by
    simp only [X.opsE, Option.some.injEq, Prod.mk.injEq] at hev
    obtain ⟨_, rfl⟩ := hev
    exact Le.refl _
  | o :: os, T => fun s T' s1 hev => by
    simp only [X.opsE] at hev
    split at hev
    · cases hev
    · split at hev
      · cases hev
      · exact LeM.opsE IH os _ s _ _ hev
    · split at hev
      · cases hev
      · next v s2 q =>
        split at hev
        · cases hev
        · exact (LeM.operE IH _ _ _ q).trans (LeM.opsE IH os _ s2 _ _ hev)
theorem opsE_ok {ops : Array Oper} {n : Nat} {r : Option Nat} {Q : Exit → Act → World → Prop} (IH : IHok P ih) : ∀ (os : List Oper) (i : Nat) {T T' : Tr AV} {s s1 : St} {M : Nat → Prop} {ν : Nu} {W : World} {a : Act}, (∀ j, ops[i + j]? = os[j]?) → opsE ih P ops n os T s = some (T', s1) →
    Sat M B ν s W → B ≤ W.heap.size → Pre M s s1 → TRel ν T a.tmps → a.tmps.size = n →
    (∀ a' w' ν', Eff M B ν ν' s s1 W w' → TRel ν' T' a'.tmps → a'.tmps.size = n → a'.defers = a.defers → Q .normal a' w') → wpOpsIn (FW r) 0 P ops Q (List.range' i os.length) a W
  | [], i, T, T', s, s1, M, ν, W, a, hi, hev, h, hB, hp, ht, hs, hq => by
    simp only [X.opsE, Option.some.injEq, Prod.mk.injEq] at hev
    obtain ⟨rfl, rfl⟩ := hev
    exact hq a W ν (Eff.refl h) ht hs rfl
  | o :: os, i, T, T', s, s1, M, ν, W, a, hi, hev, h, hB, hp, ht, hs, hq => by
    have h0 : ops[i]? = some o := by have := hi 0; simpa using this
    have hi' : ∀ j, ops[i + 1 + j]? = os[j]? := fun j => by have := hi (j + 1); rw [show i + (j + 1) = i + 1 + j by omega] at this; simpa using this
    simp only [X.opsE] at hev
    rw [List.length_cons, List.range'_succ]
    simp only [wpOpsIn, h0]
    split at hev
    · cases hev
    · next q =>
      split at hev
      · cases hev
      · next T1 q2 =>
        rw [wantE_ok q ht]
        simp only [Bool.false_eq_true, if_false]
        obtain ⟨t1, t2, t3⟩ := putT_ok (V := undef) q2 ht hs (by simp [conc, concs, undef])
        exact ⟨fun f _ => trivial, opsE_ok IH os (i + 1) hi' hev h hB hp t1 t2 (fun a' w' ν' e g1 g2 g3 => hq a' w' ν' e g1 g2 (g3.trans t3))⟩
    · next q =>
      split at hev
      · cases hev
      · next v s2 q1 =>
        split at hev
        · cases hev
        · next T1 q2 =>
          rw [wantE_ok q ht]
          simp only [if_true]
          have l1 := LeM.operE IH _ _ _ q1
          have l2 := LeM.opsE IH os _ s2 _ _ hev
          refine operE_ok IH q1 h hB (hp.left l2) ht fun V W1 ν1 hv he => ?_
          obtain ⟨t1, t2, t3⟩ := putT_ok (V := V) q2 (ht.mono he.ext) hs hv
          exact opsE_ok IH os (i + 1) hi' hev he.sat (Nat.le_trans hB he.size) hp.right t1 t2 (fun a' w' ν' e g1 g2 g3 => hq a' w' ν' (he.trans e l1 l2 h.fresh) g1 g2 (g3.trans t3))
end
end Go.Proofs.YtnnalcfdeldocaaGreatDoor.X
namespace Go.Proofs.YtnnalcfdeldocaaGreatDoor.X
open Go
set_option linter.unusedVariables false
set_option linter.unusedSimpArgs false
section
variable {P : Program} {I : Machine → Prop} {F : Fence} {n : Nat}
theorem lone_inj {fr fr' : Frame} {cs cs' : List Frame} {w w' : World} (h : lone fr cs w = lone fr' cs' w') : fr = fr' := by
  have := congrArg (fun m => m.gs.toList.map (·.frame)) h
  simpa [lone] using this
theorem stepsIn_tail {m X m' : Machine} (hs : step P m = .next X) (h : StepsIn I P m m') (hne : m ≠ m') : StepsIn I P X m' := by
  cases h with
  | refl => exact absurd rfl hne
  | head hI h1 h' => rw [hs] at h1; cases h1; exact h'
theorem exitTo_len {id : Nat} : ∀ {k k' : List Item}, exitTo id k = some k' → k'.length ≤ k.length
  | [], k', h => by simp [exitTo] at h
  | x :: k, k', h => by
    have ih : exitTo id k = some k' → k'.length ≤ (x :: k).length := fun h => Nat.le_trans (exitTo_len h) (by simp)
    cases x with
    | inBlock j =>
      simp only [exitTo] at h
      split at h
      · cases h; simp
      · exact ih h
    | _ => exact ih (by simpa [exitTo] using h)
def tame : Exit → Prop
  | .normal | .exit _ | .ret => True
  | _ => False
theorem arrives_tail {c : Code} {b : Frame} {a1 a : Act} {k : List Item} {cs : List Frame} {w1 w : World} {X : Machine} {e : Exit} (hs : step P (lone (b.atR a1 (.code (.loop c) :: k)) cs w1) = .next X) (he : tame e)
    (h : ArrivesIn I P (lone (b.atR a1 (.code (.loop c) :: k)) cs w1) b k cs e a w) : ArrivesIn I P X b k cs e a w := by
  have todo : ∀ {a' : Act} {k' : List Item} {w' : World}, (∀ q : k' = .code (.loop c) :: k, False) → lone (b.atR a1 (.code (.loop c) :: k)) cs w1 ≠ lone (b.atR a' k') cs w' := fun hk e => by
    have := congrArg Frame.todo (lone_inj e)
    exact hk this.symm
  cases e with
  | normal => exact stepsIn_tail hs h (todo fun q => by have := congrArg List.length q; simp at this)
  | exit id =>
    refine ⟨fun k' hk => stepsIn_tail hs (h.1 k' hk) (todo fun q => ?_), fun hr hk => ?_⟩
    · have := exitTo_len hk
      rw [q] at this
      simp at this
      omega
    · obtain ⟨k₁, h1, h2⟩ := h.2 hr hk
      exact ⟨k₁, h1, stepsIn_tail hs h2 (todo fun q => by simp at q)⟩
  | ret =>
    refine ⟨fun hr => ?_, fun hr => ?_⟩
    · obtain ⟨t, h1⟩ := h.1 hr
      refine ⟨t, stepsIn_tail hs h1 fun q => ?_⟩
      have := congrArg Frame.mode (lone_inj q)
      cases this
    · obtain ⟨k₁, h1⟩ := h.2 hr
      exact ⟨k₁, stepsIn_tail hs h1 (todo fun q => by simp at q)⟩
  | _ => exact he.elim
/-- A loop that goes round. -/
theorem wpIn_loop_round {c : Code} {Q : Exit → Act → World → Prop} {a : Act} {w : World} (hQ : ∀ e a w, Q e a w → tame e) (h : c.wpIn F n P (Exit.then (fun a' w' => (Code.loop c).wpIn F n P Q a' w') Q) a w) : (Code.loop c).wpIn F n P Q a w := by
  intro b k cs hro hb hr
  have h0 : (lone (b.atR a (.code (.loop c) :: k)) cs w).fenced P F := fenced_calm hb hr rfl
  obtain ⟨e, a₁, w₁, hq, harr⟩ := h b (.inLoop c :: k) cs hro hb hr
  cases e with
  | normal =>
    obtain ⟨e₂, a₂, w₂, hq₂, harr₂⟩ := hq b k cs hro hb hr
    have h1 := arrives_tail (stepR_loop (P := P) (b := b) (a := a₁) (k := k) (cs := cs) (w := w₁) (c := c)) (hQ _ _ _ hq₂) harr₂
    exact ⟨e₂, a₂, w₂, hq₂, .of_steps (.head h0 stepR_loop (StepsIn.trans harr (.one (fenced_calm hb hr rfl) stepR_inLoop))) h1⟩
  | exit id => exact ⟨_, a₁, w₁, hq, .of_steps (.one h0 stepR_loop) (.pass (x := .inLoop c) rfl (fun _ _ => .inl (by simp)) harr)⟩
  | goto l => exact ⟨_, a₁, w₁, hq, .of_steps (.one h0 stepR_loop) (.pass (x := .inLoop c) rfl (fun _ _ => .inl (by simp)) harr)⟩
  | ret => exact ⟨_, a₁, w₁, hq, .of_steps (.one h0 stepR_loop) (.pass (x := .inLoop c) rfl (fun _ _ => .inl (by simp)) harr)⟩
  | panic ch => exact ⟨_, a₁, w₁, hq, .of_steps (.one h0 stepR_loop) (.pass (x := .inLoop c) rfl (fun _ _ => .inl (by simp)) harr)⟩
  | outgrown => exact ⟨_, a₁, w₁, hq, .of_steps (.one h0 stepR_loop) (.pass (x := .inLoop c) rfl (fun _ _ => .inl (by simp)) harr)⟩
end
end Go.Proofs.YtnnalcfdeldocaaGreatDoor.X
namespace Go.Proofs.YtnnalcfdeldocaaGreatDoor.X
open Go
set_option linter.unusedVariables false
set_option linter.unusedSimpArgs false
def Tr.keep {α : Type} (f : Nat → Bool) : Tr α → Tr α
  | .nil => .nil
  | .node v l r => .node (match f 0 with | true => v | false => none) (l.keep fun k => f (2 * k + 1)) (r.keep fun k => f (2 * k + 2))
theorem Tr.get_keep {α : Type} : ∀ (t : Tr α) (f : Nat → Bool) (k : Nat), (t.keep f).get k = match f k with | true => t.get k | false => none
  | .nil, f, k => by simp only [Tr.keep, Tr.get_nil]; cases f k <;> rfl
  | .node v l r, f, k => by
    simp only [Tr.keep, Tr.get]
    rcases key_cases k with ⟨a, b⟩ | ⟨a, b, c⟩ | ⟨a, b, c⟩
    · subst b; rfl
    · simp only [a, b, Tr.get_keep l]
      rw [← c]
    · simp only [a, b, Tr.get_keep r]
      rw [← c]
def Tr.over {α : Type} (f : Nat → Bool) : Tr α → Tr α → Tr α
  | .nil, t => t.keep f
  | .node v l r, .nil => .node (match f 0 with | true => none | false => v) (l.over (fun k => f (2 * k + 1)) .nil) (r.over (fun k => f (2 * k + 2)) .nil)
  | .node v l r, .node v' l' r' => .node (match f 0 with | true => v' | false => v) (l.over (fun k => f (2 * k + 1)) l') (r.over (fun k => f (2 * k + 2)) r')
theorem Tr.get_over {α : Type} : ∀ (t : Tr α) (t' : Tr α) (f : Nat → Bool) (k : Nat), (t.over f t').get k = match f k with | true => t'.get k | false => t.get k
  | .nil, t', f, k => by simp only [Tr.over, Tr.get_keep, Tr.get_nil]
  | .node v l r, .nil, f, k => by
    simp only [Tr.over, Tr.get]
    rcases key_cases k with ⟨a, b⟩ | ⟨a, b, c⟩ | ⟨a, b, c⟩
    · subst b; rfl
    · simp only [a, b, Tr.get_over l, Tr.get_nil]
      rw [← c]
    · simp only [a, b, Tr.get_over r, Tr.get_nil]
      rw [← c]
  | .node v l r, .node v' l' r', f, k => by
    simp only [Tr.over, Tr.get]
    rcases key_cases k with ⟨a, b⟩ | ⟨a, b, c⟩ | ⟨a, b, c⟩
    · subst b; rfl
    · simp only [a, b, Tr.get_over l]
      rw [← c]
    · simp only [a, b, Tr.get_over r]
      rw [← c]
/-- The names below one. -/
def Nu.below (ν : Nu) (n : Nat) : Nu := fun k => if k < n then ν k else none
theorem Nu.below_le (ν : Nu) (n : Nat) : (ν.below n).le ν := fun k i e => by
  unfold Nu.below at e
  split at e
  · exact e
  · cases e
theorem Nu.below_mono {ν ν' : Nu} {n n' : Nat} (h : ν.le ν') (hn : n ≤ n') : (ν.below n).le (ν'.below n') := fun k i e => by
  unfold Nu.below at e ⊢
  split at e
  · rw [if_pos (by omega)]; exact h k i e
  · cases e
theorem Nu.below_of {ν : Nu} {n k : Nat} {i : Inf} (h : ν k = some i) (hk : k < n) : ν.below n k = some i := by
  unfold Nu.below; rw [if_pos hk]; exact h
theorem Nu.below_all {ν : Nu} {n : Nat} (h : ∀ k i, ν k = some i → k < n) : ν.le (ν.below n) := fun k i e => Nu.below_of e (h k i e)
end Go.Proofs.YtnnalcfdeldocaaGreatDoor.X
namespace Go.Proofs.YtnnalcfdeldocaaGreatDoor.X
open Go
set_option linter.unusedVariables false
set_option linter.unusedSimpArgs false
/-- The names of νS, and those that a step made. -/
def Nu.join (νS ν1 : Nu) (lo hi : Nat) : Nu := fun k => if lo ≤ k ∧ k < hi then ν1 k else νS k
section
variable {M Mi : Nat → Prop} {B : Nat} {ν0 νS ν1 : Nu} {s0 sS s s' sT : St} {W0 WS W1 : World}
theorem Nu.join_in {νS ν1 : Nu} {lo hi k : Nat} (h : lo ≤ k ∧ k < hi) : νS.join ν1 lo hi k = ν1 k := if_pos h
theorem Nu.join_out {νS ν1 : Nu} {lo hi k : Nat} (h : ¬ (lo ≤ k ∧ k < hi)) : νS.join ν1 lo hi k = νS k := if_neg h
/-- A step from s, walked in a world where other steps have been made beside it. -/
theorem Eff.side (E : Eff M B ν0 νS s0 sS W0 WS) (f0 : ∀ k i, ν0 k = some i → k < s0.next) (LS : ∀ k, k < s0.next → live sS k → live s0 k)
    (e : Eff Mi B (νS.below s.next) ν1 s s' WS W1) (L : Le s s') (d : ∀ k, live s k → k < s.next)
    (hMi : ∀ k, Mi k → k < s.next ∧ (M k ∨ s0.next ≤ k) ∧ s.heap.get k = sS.heap.get k) (hp : Pre Mi s s')
    (free : ∀ k, s.next ≤ k → k < s'.next → νS k = none) (n0 : s0.next ≤ s.next)
    (hT : ∀ k, sT.heap.get k = match s'.wr.testBit k with | true => s'.heap.get k | false => sS.heap.get k)
    (hTw : ∀ k, sT.wr.testBit k = (sS.wr.testBit k || s'.wr.testBit k)) (hTn : sS.next ≤ sT.next ∧ s'.next ≤ sT.next) :
    Eff M B ν0 (νS.join ν1 s.next s'.next) s0 sT W0 W1 ∧ νS.le (νS.join ν1 s.next s'.next) ∧ ν1.le (νS.join ν1 s.next s'.next) := by
  have a1 : νS.le (νS.join ν1 s.next s'.next) := fun k i h => by
    by_cases q : s.next ≤ k ∧ k < s'.next
    · rw [free k q.1 q.2] at h; cases h
    · rw [Nu.join_out q]; exact h
  have a2 : ν1.le (νS.join ν1 s.next s'.next) := fun k i h => by
    by_cases q : s.next ≤ k ∧ k < s'.next
    · rw [Nu.join_in q]; exact h
    · rw [Nu.join_out q]
      have h1 := e.sat.fresh k i h
      cases q2 : νS.below s.next k with
      | some i' =>
        have := e.ext k i' q2
        rw [h] at this; cases this
        exact Nu.below_le _ _ k i q2
      | none => have := (e.new k i q2 h).1; omega
  have lT : ∀ {k}, live sT k → s'.wr.testBit k = true → live s' k := fun {k} ⟨b, hb⟩ q => by rw [hT, q] at hb; exact ⟨b, hb⟩
  have lF : ∀ {k}, live sT k → s'.wr.testBit k = false → live sS k := fun {k} ⟨b, hb⟩ q => by rw [hT, q] at hb; exact ⟨b, hb⟩
  have lM : ∀ {k}, Mi k → live s k → live sS k := fun {k} m ⟨b, hb⟩ => by rw [(hMi k m).2.2] at hb; exact ⟨b, hb⟩
  have wM : ∀ {k}, s'.wr.testBit k = true → k < s.next → Mi k := fun {k} q h => hp k h (.inr q)
  have vis : ∀ {k}, s'.wr.testBit k = true → (Mi k ∨ s.next ≤ k) := fun {k} q => by
    by_cases h : k < s.next
    · exact .inl (wM q h)
    · exact .inr (Nat.le_of_not_lt h)
  have g1 : ∀ {k i}, s'.wr.testBit k = true → live s' k → νS.join ν1 s.next s'.next k = some i → ν1 k = some i := fun {k i} q l h => by
    by_cases r : s.next ≤ k ∧ k < s'.next
    · rw [Nu.join_in r] at h; exact h
    · rw [Nu.join_out r] at h
      have := e.sat.dom k l
      exact e.ext k i (Nu.below_of h (by omega))
  have g2 : ∀ {k i}, (M k ∨ s0.next ≤ k) → live sS k → νS.join ν1 s.next s'.next k = some i → νS k = some i := fun {k i} m l h => by
    obtain ⟨b, hb⟩ := l
    obtain ⟨inf, h1, _⟩ := E.sat.blk k b m hb
    have := a1 k inf h1
    rw [h] at this; cases this
    exact h1
  -- what a step wrote, and what lay beside it
  have mix : ∀ {k k' : Nat} {i i' : Inf}, (M k ∨ s0.next ≤ k) → (M k' ∨ s0.next ≤ k') → live s' k → live sS k' → s'.wr.testBit k = true → s'.wr.testBit k' = false → ν1 k = some i → νS k' = some i' → i.blk = i'.blk → False := fun {k k' i i'} m m' l l' w w' h h' q => by
    cases q2 : νS.below s.next k with
    | some i2 =>
      have h3 := e.ext k i2 q2
      rw [h] at h3; cases h3
      have hk : k < s.next := by
        unfold Nu.below at q2
        split at q2
        · assumption
        · cases q2
      have mk := wM w hk
      have := E.sat.inj k k' i i' m m' (lM mk (L.old k hk l)) l' (Nu.below_le _ _ k i q2) h' q
      rw [this, w'] at w; cases w
    | none =>
      rcases (e.new k i q2 h).2 l with h4 | ⟨k0, i0, c1, c2, c3, c4, c5, c6⟩
      · have := (E.sat.lt k' i' h').2; omega
      · have := E.sat.inj k0 k' i0 i' (hMi k0 c2).2.1 m' (lM c2 c3) l' (Nu.below_le _ _ k0 i0 c5) h' (c6.trans q)
        rw [this, w'] at c4; cases c4
  -- a block that the step's old names stand for
  have old : ∀ {k0 : Nat} {i0 : Inf}, k0 < s.next → Mi k0 → live s k0 → s'.wr.testBit k0 = true → νS k0 = some i0 →
      W0.heap.size ≤ i0.blk ∨ ∃ k1 i1, k1 < s0.next ∧ M k1 ∧ live s0 k1 ∧ sT.wr.testBit k1 = true ∧ ν0 k1 = some i1 ∧ i1.blk = i0.blk := fun {k0 i0} c1 c2 c3 c4 c5 => by
    cases q0 : ν0 k0 with
    | some i1 =>
      have := E.ext k0 i1 q0
      rw [c5] at this; cases this
      have hlt := f0 k0 i0 q0
      exact .inr ⟨k0, i0, hlt, (hMi k0 c2).2.1.resolve_right (by omega), LS k0 hlt (lM c2 c3), by rw [hTw, c4, Bool.or_true], q0, rfl⟩
    | none =>
      rcases (E.new k0 i0 q0 c5).2 (lM c2 c3) with h4 | ⟨k1, i1, d1, d2, d3, d4, d5, d6⟩
      · exact .inl h4
      · exact .inr ⟨k1, i1, d1, d2, d3, by rw [hTw, d4, Bool.true_or], d5, d6⟩
  refine ⟨⟨⟨fun k b m hb => ?_, fun k k' i i' m m' l l' h h' q => ?_, fun k i h => ?_, fun k l => ?_, fun k i h => ?_⟩, Nu.le_trans E.ext a1, fun k i h0 h => ?_, fun b o hb hy => ?_, Nat.le_trans E.size e.size, e.os.trans E.os, e.tape.trans E.tape, e.output.trans E.output⟩, a1, a2⟩
  · cases q : s'.wr.testBit k with
    | true =>
      rw [hT, q] at hb
      obtain ⟨inf, h1, h2⟩ := e.sat.blk k b (vis q) hb
      exact ⟨inf, a2 k inf h1, h2.mono a2⟩
    | false =>
      rw [hT, q] at hb
      obtain ⟨inf, h1, h2⟩ := E.sat.blk k b m hb
      refine ⟨inf, a1 k inf h1, (h2.keep fun o ho => ?_).mono a1⟩
      refine e.frame _ o ho fun k0 i0 c1 c2 c3 c4 c5 c6 => ?_
      have := E.sat.inj k0 k i0 inf (hMi k0 c4).2.1 m (lM c4 c2) ⟨b, hb⟩ (Nu.below_le _ _ k0 i0 c5) h1 c6
      rw [this, q] at c3; cases c3
  · cases w : s'.wr.testBit k with
    | true =>
      cases w' : s'.wr.testBit k' with
      | true => exact e.sat.inj k k' i i' (vis w) (vis w') (lT l w) (lT l' w') (g1 w (lT l w) h) (g1 w' (lT l' w') h') q
      | false => exact (mix m m' (lT l w) (lF l' w') w w' (g1 w (lT l w) h) (g2 m' (lF l' w') h') q).elim
    | false =>
      cases w' : s'.wr.testBit k' with
      | true => exact (mix m' m (lT l' w') (lF l w) w' w (g1 w' (lT l' w') h') (g2 m (lF l w) h) q.symm).elim
      | false => exact E.sat.inj k k' i i' m m' (lF l w) (lF l' w') (g2 m (lF l w) h) (g2 m' (lF l' w') h') q
  · by_cases q : s.next ≤ k ∧ k < s'.next
    · omega
    · rw [Nu.join_out q] at h; have := E.sat.fresh k i h; omega
  · cases w : s'.wr.testBit k with
    | true => have := e.sat.dom k (lT l w); omega
    | false => have := E.sat.dom k (lF l w); omega
  · by_cases q : s.next ≤ k ∧ k < s'.next
    · rw [Nu.join_in q] at h; exact e.sat.lt k i h
    · rw [Nu.join_out q] at h; have := E.sat.lt k i h; have := e.size; omega
  · by_cases q : s.next ≤ k ∧ k < s'.next
    · rw [Nu.join_in q] at h
      refine ⟨by omega, fun l => ?_⟩
      cases w : s'.wr.testBit k with
      | false =>
        obtain ⟨b, hb⟩ := lF l w
        obtain ⟨inf, h1, _⟩ := E.sat.blk k b (.inr (by omega)) hb
        rw [free k q.1 q.2] at h1; cases h1
      | true =>
        have hn : νS.below s.next k = none := by unfold Nu.below; rw [if_neg (by omega)]
        rcases (e.new k i hn h).2 (lT l w) with h4 | ⟨k0, i0, c1, c2, c3, c4, c5, c6⟩
        · exact .inl (Nat.le_trans E.size h4)
        · rw [← c6]; exact old c1 c2 c3 c4 (Nu.below_le _ _ k0 i0 c5)
    · rw [Nu.join_out q] at h
      refine ⟨(E.new k i h0 h).1, fun l => ?_⟩
      have lS : live sS k := by
        cases w : s'.wr.testBit k with
        | false => exact lF l w
        | true =>
          have l' := lT l w
          have := e.sat.dom k l'
          have hk : k < s.next := by omega
          exact lM (wM w hk) (L.old k hk l')
      rcases (E.new k i h0 h).2 lS with h4 | ⟨k1, i1, d1, d2, d3, d4, d5, d6⟩
      · exact .inl h4
      · exact .inr ⟨k1, i1, d1, d2, d3, by rw [hTw, d4, Bool.true_or], d5, d6⟩
  · have h1 := E.frame b o hb fun k0 i0 c1 c2 c3 c4 c5 => hy k0 i0 c1 c2 (by rw [hTw, c3, Bool.true_or]) c4 c5
    refine e.frame b o h1 fun k0 i0 c1 c2 c3 c4 c5 c6 => ?_
    have hlt : b < W0.heap.size := (Array.getElem?_eq_some_iff.1 hb).1
    rcases old c1 c4 c2 c3 (Nu.below_le _ _ k0 i0 c5) with h4 | ⟨k1, i1, d1, d2, d3, d4, d5, d6⟩
    · omega
    · exact hy k1 i1 d1 d3 d4 d2 d5 (d6.trans c6)
/-- What such a step leaves as it lay. -/
theorem Eff.side_keep (E : Eff M B ν0 νS s0 sS W0 WS) (e : Eff Mi B (νS.below s.next) ν1 s s' WS W1)
    (hMi : ∀ k, Mi k → k < s.next ∧ (M k ∨ s0.next ≤ k) ∧ s.heap.get k = sS.heap.get k) {k : Nat} {b : ABlk} {inf : Inf} {o : Obj} (m : M k ∨ s0.next ≤ k) (hb : sS.heap.get k = some b) (hk : νS k = some inf) (q : s'.wr.testBit k = false)
    (ho : WS.heap[inf.blk]? = some o) : W1.heap[inf.blk]? = some o := by
  refine e.frame _ o ho fun k0 i0 c1 c2 c3 c4 c5 c6 => ?_
  have lM : live sS k0 := by obtain ⟨b, hb⟩ := c2; rw [(hMi k0 c4).2.2] at hb; exact ⟨b, hb⟩
  have := E.sat.inj k0 k i0 inf (hMi k0 c4).2.1 m lM ⟨b, hb⟩ (Nu.below_le _ _ k0 i0 c5) hk c6
  rw [this, q] at c3; cases c3
end
end Go.Proofs.YtnnalcfdeldocaaGreatDoor.X
namespace Go.Proofs.YtnnalcfdeldocaaGreatDoor.X
open Go
set_option linter.unusedVariables false
set_option linter.unusedSimpArgs false
section
variable {P : Program} {ih : Req → E Res} {T T' : Tr AV} {s : St}
theorem opvs_congr : ∀ {xs : List Operand}, (∀ x ∈ xs, opv T x = opv T' x) → opvs T xs = opvs T' xs
  | [], _ => rfl
  | x :: xs, h => by
    simp only [opvs]
    rw [h x (by simp), opvs_congr (xs := xs) (fun y hy => h y (by simp [hy]))]
theorem partsE_congr : ∀ {xs : List (Nat × Operand)}, (∀ x ∈ xs.map (·.2), opv T x = opv T' x) → partsE T xs = partsE T' xs
  | [], _ => rfl
  | (i, x) :: xs, h => by
    simp only [partsE]
    rw [h x (by simp), partsE_congr (xs := xs) (fun y hy => h y (by simp only [List.map_cons, List.mem_cons]; exact .inr hy))]
theorem natOpt_congr {x : Option Operand} (h : ∀ y, x = some y → opv T y = opv T' y) : natOpt T x = natOpt T' x := by
  cases x with
  | none => rfl
  | some y => simp only [natOpt]; rw [h y rfl]
theorem opE_congr {o : Op} (h : ∀ x ∈ o.operands, opv T x = opv T' x) : opE P T o s = opE P T' o s := by
  have h1 : ∀ {x : Operand}, o.operands = #[x] → opv T x = opv T' x := fun e => h _ (by rw [e]; simp)
  have h2 : ∀ {x y : Operand}, o.operands = #[x, y] → opv T x = opv T' x ∧ opv T y = opv T' y := fun e => ⟨h _ (by rw [e]; simp), h _ (by rw [e]; simp)⟩
  have h3 : ∀ {x y z : Operand}, o.operands = #[x, y, z] → opv T x = opv T' x ∧ opv T y = opv T' y ∧ opv T z = opv T' z := fun e => ⟨h _ (by rw [e]; simp), h _ (by rw [e]; simp), h _ (by rw [e]; simp)⟩
  cases o with
  | move x => simp only [opE]; rw [h1 rfl]
  | assign x => simp only [opE]; rw [h1 rfl]
  | pick c a b => simp only [opE]; rw [(h3 rfl).1, (h3 rfl).2.1, (h3 rfl).2.2]
  | alloc e => rfl
  | box e x => simp only [opE]; rw [h1 rfl]
  | build t ps => simp only [opE]; rw [partsE_congr (fun x hx => h x (by simpa [Op.operands] using hx))]
  | buildSlice t n ps => simp only [opE]; rw [partsE_congr (fun x hx => h x (by simpa [Op.operands] using hx))]
  | load t x => simp only [opE]; rw [h1 rfl]
  | store t a x => simp only [opE]; rw [(h2 rfl).1, (h2 rfl).2]
  | nilCheck x => simp only [opE]; rw [h1 rfl]
  | binOp op t x y p => simp only [opE]; rw [(h2 rfl).1, (h2 rfl).2]
  | unOp op t x => simp only [opE]; rw [h1 rfl]
  | convert a d x => simp only [opE]; rw [h1 rfl]
  | makeFunc fn a b =>
    simp only [opE]
    rw [opvs_congr (xs := a.toList) (fun x hx => h x (by simp only [Op.operands, Array.mem_append]; exact .inl (by simpa using hx))), opvs_congr (xs := b.toList) (fun x hx => h x (by simp only [Op.operands, Array.mem_append]; exact .inr (by simpa using hx)))]
  | makeMap t r => cases r <;> rfl
  | makeSlice t l c => simp only [opE]; rw [(h2 rfl).1, (h2 rfl).2]
  | slice t x lo hi mx =>
    simp only [opE]
    rw [h x (by simp [Op.operands]), natOpt_congr (x := lo) (fun y e => h y (by simp [Op.operands, e])), natOpt_congr (x := hi) (fun y e => h y (by simp [Op.operands, e])), natOpt_congr (x := mx) (fun y e => h y (by simp [Op.operands, e]))]
  | fieldAddr t x f => simp only [opE]; rw [h1 rfl]
  | field t x f => simp only [opE]; rw [h1 rfl]
  | indexAddr t x i => simp only [opE]; rw [(h2 rfl).1, (h2 rfl).2]
  | index t x i => simp only [opE]; rw [(h2 rfl).1, (h2 rfl).2]
  | lookup t x k ok => simp only [opE]; rw [(h2 rfl).1, (h2 rfl).2]
  | mapUpdate t m k v => simp only [opE]; rw [(h3 rfl).1, (h3 rfl).2.1, (h3 rfl).2.2]
  | insert t m k v => simp only [opE]; rw [(h3 rfl).1, (h3 rfl).2.1, (h3 rfl).2.2]
  | range t x => simp only [opE]; rw [h1 rfl]
  | next it b => cases b <;> simp only [opE]; rw [h1 rfl]
  | entry it => simp only [opE]; rw [h1 rfl]
  | extract t i => simp only [opE]; rw [h1 rfl]
  | call c =>
    obtain ⟨callee, args, ats⟩ := c
    cases callee with
    | builtin b =>
      simp only [opE]
      rw [opvs_congr (xs := args.toList) (fun x hx => h x (by simp only [Op.operands, Call.operands]; simpa using hx))]
    | _ => rfl
  | _ => rfl
theorem operE_congr {o : Op} (h : ∀ x ∈ o.operands, opv T x = opv T' x) : operE ih P T o s = operE ih P T' o s := by
  cases o with
  | call c =>
    obtain ⟨callee, args, ats⟩ := c
    cases callee with
    | value f =>
      simp only [operE, callE]
      rw [h f (by simp [Op.operands, Call.operands]), opvs_congr (xs := args.toList) (fun x hx => h x (by simp only [Op.operands, Call.operands, Array.mem_append]; exact .inr (by simpa using hx)))]
    | builtin b => exact opE_congr (P := P) (s := s) h
    | invoke r n => rfl
  | _ => exact opE_congr (P := P) (s := s) h
theorem tmpsOf_bit : ∀ {xs : List Operand} {t : Nat}, .tmp t ∈ xs → (tmpsOf xs).testBit t = true
  | x :: xs, t, h => by
    rcases List.mem_cons.1 h with rfl | h'
    · simp only [tmpsOf, testBit_lor2]
      have : (bit t).testBit t = true := by
        have := testBit_lor 0 t t
        have e : Nat.lor 0 (bit t) = bit t := by show 0 ||| bit t = _; simp
        rw [e] at this; rw [this]; simp
      rw [this]; simp
    · cases x with
      | tmp u => simp only [tmpsOf, testBit_lor2, tmpsOf_bit h', Bool.or_true]
      | _ => simp only [tmpsOf]; exact tmpsOf_bit h'
theorem bit_self (t : Nat) : (bit t).testBit t = true := by
  have := testBit_lor 0 t t
  have e : Nat.lor 0 (bit t) = bit t := by show 0 ||| bit t = _; simp
  rw [e] at this; rw [this]; simp
theorem bit_iff {t j : Nat} : (bit t).testBit j = true ↔ j = t := by
  have := testBit_lor 0 t j
  have e : Nat.lor 0 (bit t) = bit t := by show 0 ||| bit t = _; simp
  rw [e] at this; rw [this]; simp
theorem opv_keep {f : Nat → Bool} {x : Operand} (h : ∀ t, x = .tmp t → f t = true) : opv (T.keep f) x = opv T x := by
  cases x with
  | tmp t => simp only [opv, Tr.get_keep, h t rfl]
  | _ => rfl
/-- What an operation asks for, alone. -/
theorem operE_keep {o : Oper} {ops : Array Oper} : operE ih P (T.keep (Nat.testBit (Nat.lor (guardTmp ops o) (tmpsOf o.op.operands.toList)))) o.op s = operE ih P T o.op s :=
  operE_congr fun x hx => opv_keep fun t e => by
    subst e
    rw [testBit_lor2, tmpsOf_bit (by simpa using hx), Bool.or_true]
theorem wantE_keep {o : Oper} {ops : Array Oper} : wantE ops (T.keep (Nat.testBit (Nat.lor (guardTmp ops o) (tmpsOf o.op.operands.toList)))) o = wantE ops T o := by
  unfold wantE
  cases hg : o.guard with
  | none => rfl
  | some p =>
    obtain ⟨j, want⟩ := p
    simp only
    cases hd : (ops[j]?).bind (·.dst) with
    | none => rfl
    | some d =>
      simp only
      have : (Nat.lor (guardTmp ops o) (tmpsOf o.op.operands.toList)).testBit d = true := by
        rw [testBit_lor2]
        have : (guardTmp ops o).testBit d = true := by
          simp only [guardTmp, hg, hd]
          exact bit_self d
        rw [this, Bool.true_or]
      rw [Tr.get_keep, this]
end
end Go.Proofs.YtnnalcfdeldocaaGreatDoor.X
namespace Go.Proofs.YtnnalcfdeldocaaGreatDoor.X
open Go
set_option linter.unusedVariables false
set_option linter.unusedSimpArgs false
def fresh0 (s : St) : St := { s with rd := 0, wr := 0 }
def useOf (ops : Array Oper) (o : Oper) : Nat := Nat.lor (guardTmp ops o) (tmpsOf o.op.operands.toList)
def dstOf (o : Oper) : Nat := match o.dst with | none => 0 | some d => bit d
def logOf (ops : Array Oper) (o : Oper) (i : Nat) (r : St) : Log := { i, rd := r.rd, wr := r.wr, use := useOf ops o, dst := dstOf o }
/-- One operation, as it was walked. -/
structure DStep (ih : Req → E Res) (P : Program) (ops : Array Oper) (n i : Nat) (o : Oper) (s r s' : St) (T T' : Tr AV) (v : AV) (bs : Nat → Nat) : Prop where
  op : ops[i]? = some o
  walk : (wantE ops T o = some true ∧ operE ih P T o.op (fresh0 s) = some (v, r)) ∨ (wantE ops T o = some false ∧ v = .tup [] ∧ r = fresh0 s)
  put : putT n T o.dst v = some T'
  next : s' = { r with rd := Nat.lor s.rd r.rd, wr := Nat.lor s.wr r.wr }
  low : ∀ x, (bs i).testBit x = true → x < i
  bef : ∀ e ∈ o.after.toList, Region.binds .any e = true → ∀ x, (x = e.on ∨ (bs e.on).testBit x = true) → (bs i).testBit x = true
  due : ∀ x, (bs i).testBit x = true → ∃ e ∈ o.after.toList, Region.binds .any e = true ∧ (x = e.on ∨ (bs e.on).testBit x = true)
section
variable {ih : Req → E Res} {P : Program} {ops : Array Oper} {n : Nat}
theorem befE_bit {acc : List Nat} : ∀ {es : List Edge} {e : Edge}, e ∈ es → Region.binds .any e = true → ∀ x, (x = e.on ∨ (acc.getD e.on 0).testBit x = true) → (befE acc es).testBit x = true
  | f :: es, e, h, hb, x, hx => by
    simp only [befE]
    rcases List.mem_cons.1 h with rfl | h
    · rw [hb]
      simp only [testBit_lor2]
      rcases hx with rfl | hx
      · rw [bit_self]; simp
      · rw [hx]; simp
    · have ih := befE_bit (acc := acc) h hb x hx
      cases Region.binds .any f with
      | true => simp only [testBit_lor2, ih, Bool.or_true]
      | false => exact ih
theorem befE_due {acc : List Nat} : ∀ {es : List Edge} {x : Nat}, (befE acc es).testBit x = true → ∃ e ∈ es, Region.binds .any e = true ∧ (x = e.on ∨ (acc.getD e.on 0).testBit x = true)
  | [], x, h => by simp [befE] at h
  | f :: es, x, h => by
    simp only [befE] at h
    cases q : Region.binds .any f with
    | false =>
      rw [q] at h
      obtain ⟨e, h1, h2⟩ := befE_due (es := es) h
      exact ⟨e, List.mem_cons_of_mem _ h1, h2⟩
    | true =>
      rw [q] at h
      simp only [testBit_lor2, Bool.or_eq_true] at h
      rcases h with (h | h) | h
      · refine ⟨f, List.mem_cons_self .., q, .inl ?_⟩
        have := testBit_lor 0 f.on x
        have e : Nat.lor 0 (bit f.on) = bit f.on := by show 0 ||| bit f.on = _; simp
        rw [e, h] at this
        simpa using this
      · exact ⟨f, List.mem_cons_self .., q, .inr h⟩
      · obtain ⟨e, h1, h2⟩ := befE_due (es := es) h
        exact ⟨e, List.mem_cons_of_mem _ h1, h2⟩
theorem apart_all {b : Nat} {l : Log} : ∀ {ls : List Log}, apart b l ls = true → ∀ a ∈ ls, b.testBit a.i = true ∨ meets a l = true
  | a :: as_, h, c, hc => by
    simp only [apart] at h
    rcases List.mem_cons.1 hc with rfl | hc
    · cases q : b.testBit c.i with
      | true => exact .inl rfl
      | false =>
        rw [q] at h
        simp only at h
        cases q2 : meets c l with
        | true => exact .inr rfl
        | false => rw [q2] at h; cases h
    · cases q : b.testBit a.i with
      | true => rw [q] at h; exact apart_all h c hc
      | false =>
        rw [q] at h
        simp only at h
        cases q2 : meets a l with
        | true => rw [q2] at h; exact apart_all h c hc
        | false => rw [q2] at h; cases h
theorem lt_bit {b i : Nat} (h : Nat.blt b (bit i) = true) : ∀ x, b.testBit x = true → x < i := fun x hx => by
  have h1 : b < 2 ^ i := by
    have := blt_iff.1 h
    unfold bit at this
    have e : Nat.shiftLeft 1 i = 2 ^ i := by show 1 <<< i = _; rw [Nat.shiftLeft_eq, Nat.one_mul]
    rw [e] at this; exact this
  by_cases q : x < i
  · exact q
  · have h2 : b < 2 ^ x := Nat.lt_of_lt_of_le h1 (Nat.pow_le_pow_right (by omega) (by omega))
    rw [Nat.testBit_lt_two_pow h2] at hx; cases hx
theorem drawE_run : ∀ (os : List Oper) (i : Nat) (bl : List Nat) (ls : List Log) (T : Tr AV) (s : St) {T' : Tr AV} {s1 : St}, drawE ih P ops n os i bl ls T s = some (T', s1) → (∀ j, ops[i + j]? = os[j]?) → bl.length = i →
    ∃ (o : Nat → Oper) (st rs : Nat → St) (Ts : Nat → Tr AV) (vs : Nat → AV) (bs : Nat → Nat), st i = s ∧ Ts i = T ∧ st (i + os.length) = s1 ∧ Ts (i + os.length) = T' ∧ (∀ j, j < i → bs j = bl.getD j 0) ∧
      ∀ j, i ≤ j → j < i + os.length → DStep ih P ops n j (o j) (st j) (rs j) (st (j + 1)) (Ts j) (Ts (j + 1)) (vs j) bs ∧
        (∀ a ∈ ls, (bs j).testBit a.i = true ∨ meets a (logOf ops (o j) j (rs j)) = true) ∧
        (∀ j', i ≤ j' → j' < j → (bs j).testBit j' = true ∨ meets (logOf ops (o j') j' (rs j')) (logOf ops (o j) j (rs j)) = true)
  | [], i, bl, ls, T, s, T', s1, hev, hi, hl => by
    simp only [drawE, Option.some.injEq, Prod.mk.injEq] at hev
    obtain ⟨rfl, rfl⟩ := hev
    exact ⟨fun _ => default, fun _ => s, fun _ => s, fun _ => T, fun _ => .ptr0, fun j => bl.getD j 0, rfl, rfl, rfl, rfl, fun _ _ => rfl, fun j h1 h2 => by simp at h2; omega⟩
  | o :: os, i, bl, ls, T, s, T', s1, hev, hi, hl => by
    simp only [drawE] at hev
    have h0 : ops[i]? = some o := by have := hi 0; simpa using this
    have hi' : ∀ j, ops[i + 1 + j]? = os[j]? := fun j => by have := hi (j + 1); rw [show i + (j + 1) = i + 1 + j by omega] at this; simpa using this
    cases qw : wantE ops T o with
    | none => rw [qw] at hev; cases hev
    | some w =>
    rw [qw] at hev
    simp only at hev
    split at hev
    · cases hev
    next v r qo =>
    split at hev
    · cases hev
    next T1 qp =>
    split at hev
    · cases hev
    next qb =>
    rw [Bool.and_eq_true] at qb
    obtain ⟨f1, f2, f3, f4, f5, f6, g1, g2, g3, g4, g5, g6⟩ := drawE_run os (i + 1) _ _ T1 _ hev hi' (by simp [hl])
    have hbi : f6 i = befE bl o.after.toList := by
      rw [g5 i (by omega)]
      simp [List.getD_eq_getElem?_getD, List.getElem?_append_right (show bl.length ≤ i by omega), hl]
    have hbj : ∀ j, j < i → f6 j = bl.getD j 0 := fun j hj => by
      rw [g5 j (by omega)]
      simp [List.getD_eq_getElem?_getD, List.getElem?_append_left (show j < bl.length by omega)]
    have hlow := lt_bit qb.1
    rw [← hbi] at hlow
    refine ⟨fun j => if j = i then o else f1 j, fun j => if j = i then s else f2 j, fun j => if j = i then r else f3 j, fun j => if j = i then T else f4 j, fun j => if j = i then v else f5 j, f6, if_pos rfl, if_pos rfl, ?_, ?_, hbj, fun j h1 h2 => ?_⟩
    · show (if i + (o :: os).length = i then s else f2 (i + (o :: os).length)) = s1
      rw [if_neg (by simp), List.length_cons, show i + (os.length + 1) = i + 1 + os.length by omega]; exact g3
    · show (if i + (o :: os).length = i then T else f4 (i + (o :: os).length)) = T'
      rw [if_neg (by simp), List.length_cons, show i + (os.length + 1) = i + 1 + os.length by omega]; exact g4
    · by_cases e : j = i
      · subst e
        simp only [if_true, if_neg (show ¬ (j + 1 = j) by omega), g1, g2]
        refine ⟨⟨h0, ?_, qp, rfl, hlow, fun ed he hb x hx => ?_, fun x hx => ?_⟩, fun a ha => ?_, fun j' h3 h4 => by omega⟩
        · cases w with
          | true => exact .inl ⟨qw, qo⟩
          | false =>
            simp only [Option.some.injEq, Prod.mk.injEq] at qo
            exact .inr ⟨qw, qo.1.symm, qo.2.symm⟩
        · rw [hbi]
          refine befE_bit he hb x (hx.imp id fun hx => ?_)
          have hlt : ed.on < j := by
            by_cases q : ed.on < j
            · exact q
            · exfalso
              have : (f6 j).testBit ed.on = true := by rw [hbi]; exact befE_bit he hb _ (.inl rfl)
              exact q (hlow _ this)
          rw [← hbj _ hlt]; exact hx
        · rw [hbi] at hx
          obtain ⟨ed, e1, e2, e3⟩ := befE_due hx
          refine ⟨ed, e1, e2, e3.imp id fun hx => ?_⟩
          have hlt : ed.on < j := by
            by_cases q : ed.on < j
            · exact q
            · exfalso
              have : (f6 j).testBit ed.on = true := by rw [hbi]; exact befE_bit e1 e2 _ (.inl rfl)
              exact q (hlow _ this)
          rw [hbj _ hlt]; exact hx
        · rw [hbi]; exact apart_all qb.2 a ha
      · have hj : i + 1 ≤ j := by omega
        obtain ⟨k1, k2, k3⟩ := g6 j hj (by rw [List.length_cons] at h2; omega)
        simp only [if_neg e, if_neg (show ¬ (j + 1 = i) by omega)]
        refine ⟨k1, fun a ha => k2 a (List.mem_cons_of_mem _ ha), fun j' h3 h4 => ?_⟩
        by_cases e' : j' = i
        · subst e'
          simp only [if_true]
          exact k2 _ (List.mem_cons_self ..)
        · simp only [if_neg e']
          exact k3 j' (by omega) h4
end
end Go.Proofs.YtnnalcfdeldocaaGreatDoor.X
