/- A walk by the kernel: a long walk is cut at calls; what a walk says of the program. -/
import Derived.Test.YtnnalcfdeldocaaGreatDoorL16
import Derived.Below
namespace Go.Proofs.YtnnalcfdeldocaaGreatDoor.X
open Go
set_option linter.unusedVariables false
set_option linter.unusedSimpArgs false
def allBits (n : Nat) : Nat := Nat.sub (Nat.shiftLeft 1 n) 1
theorem allBits_iff {n k : Nat} : (allBits n).testBit k = true ↔ k < n := by
  unfold allBits
  have e : Nat.sub (Nat.shiftLeft 1 n) 1 = 2 ^ n - 1 := by
    show (1 <<< n) - 1 = _
    rw [Nat.shiftLeft_eq, Nat.one_mul]
  rw [e, Nat.testBit_two_pow_sub_one]
  simp
noncomputable def isS (r : R) : Bool := Option.rec (motive := fun _ => Bool) false (fun _ => true) r
/-- A call whose answer is known, in a memory that holds what is listed. -/
noncomputable def cutH (f : Nat) (args : List AV) (n0 : Nat) (L0 : List (Nat × ABlk)) (v : AV) (n1 : Nat) (L1 : List (Nat × ABlk)) (H : Hook) : Hook := fun f' args' s =>
  Bool.rec (motive := fun _ => Option (AV × St)) (H f' args' s) (some (v, { heap := memF L1, next := n1, rd := Nat.lor s.rd (allBits n0), wr := Nat.lor s.wr (allBits n1) })) (tB (Nat.beq f' f) (tB (beqAs args args') (tB (Nat.beq s.next n0) (subB L0 s.heap))))
/-- The walk that says so. -/
noncomputable def cutB (P : Program) (H : Hook) (fuel : Nat) (f : Nat) (args : List AV) (n0 : Nat) (L0 : List (Nat × ABlk)) (v : AV) (n1 : Nat) (L1 : List (Nat × ABlk)) : Bool :=
  tB (lowB 1000000 L0) (tB (lowB 1000000 L1) (tB (lowB n1 L1) (isS ((evF P H fuel).call f args { heap := memF L0, next := n0, rd := 0, wr := 0 } (fun v' s' => Bool.rec (motive := fun _ => R) none (some (v', s')) (tB (beqA v v') (tB (Nat.beq n1 s'.next) (subB L1 s'.heap))))))))
theorem ev_of_evF {P : Program} {H : Hook} {fuel f : Nat} {args : List AV} {s : St} {k : AV → St → R} (h : isS ((evF P H fuel).call f args s k) = true) : ∃ v s', ev P H fuel (.call f args) s = some (.val v, s') ∧ isS (k v s') = true := by
  rw [(evF_eq fuel).call] at h
  cases q : ev P H fuel (.call f args) s with
  | none => rw [q] at h; cases h
  | some p =>
    obtain ⟨r, s'⟩ := p
    rw [q] at h
    cases r with
    | code x T mk => cases h
    | val v => exact ⟨v, s', rfl, h⟩
theorem cut_ok {P : Program} {H : Hook} {fuel f n0 n1 : Nat} {args : List AV} {L0 L1 : List (Nat × ABlk)} {v : AV} (hm : P.follows .mixedOrders = true) (hH : HookOk P H) (h : cutB P H fuel f args n0 L0 v n1 L1 = true) : HookOk P (cutH f args n0 L0 v n1 L1 H) := by
  unfold cutB at h
  have h1 := tB_true.1 h
  have h2 := tB_true.1 h1.2
  have h3 := tB_true.1 h2.2
  obtain ⟨v', s', hev, hk⟩ := ev_of_evF h3.2
  have hchk : tB (beqA v v') (tB (Nat.beq n1 s'.next) (subB L1 s'.heap)) = true := by
    cases q : tB (beqA v v') (tB (Nat.beq n1 s'.next) (subB L1 s'.heap)) with
    | true => rfl
    | false => rw [q] at hk; cases hk
  have c1 := tB_true.1 hchk
  have c2 := tB_true.1 c1.2
  have hv := beqA_ok c1.1
  have hn := beq_iff.1 c2.1
  have hL1 := subB_ok c2.2
  have hlow0 := lowB_ok h1.1
  have hlow1 := lowB_ok h2.1
  have hlowN := lowB_ok h3.1
  subst hv
  obtain ⟨vv, e, hok⟩ := (ev_ok hm hH fuel).call hev
  cases e
  have hle := (ev_ok hm hH fuel).le _ _ _ _ hev
  have g0 : ∀ {k : Nat} {b : ABlk}, (memF L0).get k = some b → (k, b) ∈ L0 := fun h => memF_get hlow0 h
  have g1 : ∀ {k : Nat} {b : ABlk}, (memF L1).get k = some b → (k, b) ∈ L1 := fun h => memF_get hlow1 h
  intro f' args' s u s1 hh
  unfold cutH at hh
  cases q : tB (Nat.beq f' f) (tB (beqAs args args') (tB (Nat.beq s.next n0) (subB L0 s.heap))) with
  | false => rw [q] at hh; exact hH f' args' s u s1 hh
  | true =>
    rw [q] at hh
    simp only [Option.some.injEq, Prod.mk.injEq] at hh
    obtain ⟨rfl, rfl⟩ := hh
    have d1 := tB_true.1 q
    have d2 := tB_true.1 d1.2
    have d3 := tB_true.1 d2.2
    have hf := beq_iff.1 d1.1
    subst hf
    have ha := beqAs_ok d2.1
    subst ha
    have hs := beq_iff.1 d3.1
    subst hs
    have hL0 := subB_ok d3.2
    have l0 : ∀ {k : Nat}, live ({ heap := memF L0, next := s.next, rd := 0, wr := 0 } : St) k → live s k := fun {k} ⟨b, hb⟩ => ⟨b, hL0 _ (g0 hb)⟩
    have l1 : ∀ {k : Nat}, live ({ heap := memF L1, next := n1, rd := Nat.lor s.rd (allBits s.next), wr := Nat.lor s.wr (allBits n1) } : St) k → live s' k := fun {k} ⟨b, hb⟩ => ⟨b, hL1 _ (g1 hb)⟩
    have lo1 : ∀ {k : Nat}, live ({ heap := memF L1, next := n1, rd := Nat.lor s.rd (allBits s.next), wr := Nat.lor s.wr (allBits n1) } : St) k → k < n1 := fun {k} ⟨b, hb⟩ => hlowN _ (g1 hb)
    have hnx : s.next ≤ n1 := by rw [hn]; exact hle.next
    have wr1 : ∀ {k : Nat}, k < n1 → (Nat.lor s.wr (allBits n1)).testBit k = true := fun {k} hk => by rw [testBit_lor2, allBits_iff.2 hk, Bool.or_true]
    refine ⟨?_, ⟨hnx, fun k q => ?_, fun k q => ?_, fun dm k q => ?_, fun k hk l => ?_, fun _ k l => lo1 l⟩⟩
    · intro M B ν W Args hS hB hp hargs
      have hMall : ∀ k, k < s.next → M k := fun k hk => hp k hk (.inl (by show (Nat.lor s.rd (allBits s.next)).testBit k = true; rw [testBit_lor2, allBits_iff.2 hk, Bool.or_true]))
      have hS0 : Sat M B ν ({ heap := memF L0, next := s.next, rd := 0, wr := 0 } : St) W :=
        ⟨fun k b m hb => hS.blk k b m (hL0 _ (g0 hb)), fun k k' i i' m m' l l' => hS.inj k k' i i' m m' (l0 l) (l0 l'), hS.fresh, fun k l => hS.dom k (l0 l), hS.lt⟩
      obtain ⟨r1, r2⟩ := hok hS0 hB (fun k hk _ => hMall k hk) hargs
      refine ⟨r1, fun R hR => r2 R fun V w' ν' hv he => hR V w' ν' hv ?_⟩
      refine ⟨⟨fun k b m hb => he.sat.blk k b m (hL1 _ (g1 hb)), fun k k' i i' m m' l l' => he.sat.inj k k' i i' m m' (l1 l) (l1 l'), fun k i e => ?_, fun k l => lo1 l, he.sat.lt⟩, he.ext, fun k i a b => ?_, fun b o hb hy => ?_, he.size, he.os, he.tape, he.output⟩
      · show k < n1
        rw [hn]; exact he.sat.fresh k i e
      · obtain ⟨t1, t2⟩ := he.new k i a b
        refine ⟨t1, fun l => (t2 (l1 l)).imp id ?_⟩
        rintro ⟨k0, i0, y1, y2, y3, y4, y5⟩
        have y1' : k0 < s.next := y1
        exact ⟨k0, i0, y1, y2, l0 y3, wr1 (by omega), y5⟩
      · refine he.frame b o hb fun k0 i0 y1 y2 y3 y4 y5 => ?_
        have y1' : k0 < s.next := y1
        exact hy k0 i0 y1 (l0 y2) (wr1 (by omega)) y4 y5
    · show (Nat.lor s.rd (allBits s.next)).testBit k = true
      rw [testBit_lor2, q, Bool.true_or]
    · show (Nat.lor s.wr (allBits n1)).testBit k = true
      rw [testBit_lor2, q, Bool.true_or]
    · have q : (Nat.lor s.wr (allBits n1)).testBit k = false := q
      have hk : ¬ k < n1 := fun hk => by rw [wr1 hk] at q; cases q
      show (memF L1).get k = s.heap.get k
      have e1 : (memF L1).get k = none := by
        cases e : (memF L1).get k with
        | none => rfl
        | some b => exact absurd (hlowN _ (g1 e)) hk
      have e2 : s.heap.get k = none := by
        cases e : s.heap.get k with
        | none => rfl
        | some b => have := dm k ⟨b, e⟩; omega
      rw [e1, e2]
    · exact l0 (hle.old k hk (l1 l))
/-- No calls whose answers are known. -/
def noH : Hook := fun _ _ _ => none
theorem noH_ok {P : Program} : HookOk P noH := fun f args s v s1 h => by cases h
noncomputable def saysTrue (v : AV) (s : St) : R := AV.casesOn (motive_1 := fun _ => R) v (fun b => Bool.rec (motive := fun _ => R) none (some (v, s)) b) (fun _ _ => none) (fun _ => none) none (fun _ _ => none) none (fun _ _ _ _ => none) none (fun _ => none) (fun _ _ _ => none) (fun _ => none) none none (fun _ _ => none) (fun _ => none) (fun _ => none) (fun _ _ _ => none) (fun _ => none)
theorem saysTrue_ok {v : AV} {s : St} (h : isS (saysTrue v s) = true) : v = .bool true := by
  cases v with
  | bool b => cases b with
    | true => rfl
    | false => cases h
  | _ => cases h
/-- A walk that answers true: the program's call does. -/
theorem calls_true {P : Program} {H : Hook} {fuel f : Nat} {args : List AV} {Args : List Value} (hm : P.follows .mixedOrders = true) (hH : HookOk P H) (h : isS ((evF P H fuel).call f args st0 saysTrue) = true) (W : World) (ha : concs (fun _ => none) args = some Args) :
    Calls P f Args.toArray W fun e w' => e = .returned (.bool true) ∧ Go.RowKit.Below W.heap.size W w' := by
  obtain ⟨v, s', hev, hk⟩ := ev_of_evF h
  have hv := saysTrue_ok hk
  subst hv
  obtain ⟨vv, e, hok⟩ := (ev_ok hm hH fuel).call hev
  cases e
  have hno : ∀ {k : Nat} {b : ABlk}, st0.heap.get k = some b → False := fun {k b} hb => by rw [show st0.heap = .nil from rfl, Tr.get_nil] at hb; cases hb
  have hS : Sat (fun _ => True) W.heap.size (fun _ => none) st0 W := by
    refine ⟨fun k b _ hb => (hno hb).elim, fun k k' i i' _ _ l => ?_, fun k i e => (by cases e), fun k l => ?_, fun k i e => (by cases e)⟩
    · obtain ⟨b, hb⟩ := l; exact (hno hb).elim
    · obtain ⟨b, hb⟩ := l; exact (hno hb).elim
  obtain ⟨_, r2⟩ := hok hS (Nat.le_refl _) (fun _ _ _ => trivial) ha
  refine (callsIn_wide (n := 0)).1 (r2 _ fun V w' ν' hv he => ⟨?_, he.os, he.tape, he.output, he.size, fun k hk => ?_⟩)
  · simp only [conc, Option.some.injEq] at hv
    rw [← hv]
  · rw [Array.getElem?_eq_getElem hk]
    exact he.frame k _ (Array.getElem?_eq_getElem hk) fun k0 i0 _ l => by obtain ⟨b, hb⟩ := l; exact (hno hb).elim
/-- A cut holds over whatever hook. -/
theorem cut_over {P : Program} {H H' : Hook} {f n0 n1 : Nat} {args : List AV} {L0 L1 : List (Nat × ABlk)} {v : AV} (h : HookOk P (cutH f args n0 L0 v n1 L1 H)) (h' : HookOk P H') : HookOk P (cutH f args n0 L0 v n1 L1 H') := by
  intro f' args' s u s1 hh
  unfold cutH at hh
  cases q : tB (Nat.beq f' f) (tB (beqAs args args') (tB (Nat.beq s.next n0) (subB L0 s.heap))) with
  | false => rw [q] at hh; exact h' f' args' s u s1 hh
  | true => exact h f' args' s u s1 (by unfold cutH; rw [q] at hh ⊢; exact hh)
/-- Two numbers that are not known. -/
def nu2 (q l : Nat) : Nu := fun k => match k with
  | 0 => some ⟨0, 0, q⟩
  | 1 => some ⟨0, 0, l⟩
  | _ => none
def st2 : St := { heap := .nil, next := 2, rd := 0, wr := 0 }
/-- A walk with two numbers that are not known, that answers true: the program's call does. -/
theorem calls_sym {P : Program} {H : Hook} {fuel f : Nat} {args : List AV} {Args : List Value} {q l : Nat} (hm : P.follows .mixedOrders = true) (hH : HookOk P H) (h : isS ((evF P H fuel).call f args st2 saysTrue) = true) (W : World) (hW : 0 < W.heap.size) (ha : concs (nu2 q l) args = some Args) :
    Calls P f Args.toArray W fun e w' => e = .returned (.bool true) ∧ Go.RowKit.Below W.heap.size W w' := by
  obtain ⟨v, s', hev, hk⟩ := ev_of_evF h
  have hv := saysTrue_ok hk
  subst hv
  obtain ⟨vv, e, hok⟩ := (ev_ok hm hH fuel).call hev
  cases e
  have hno : ∀ {k : Nat} {b : ABlk}, st2.heap.get k = some b → False := fun {k b} hb => by rw [show st2.heap = .nil from rfl, Tr.get_nil] at hb; cases hb
  have hn : ∀ {k : Nat} {i : Inf}, nu2 q l k = some i → k < 2 ∧ i.blk = 0 := fun {k i} e => by
    unfold nu2 at e
    split at e
    · cases e; exact ⟨by omega, rfl⟩
    · cases e; exact ⟨by omega, rfl⟩
    · cases e
  have hS : Sat (fun _ => True) 0 (nu2 q l) st2 W := by
    refine ⟨fun k b _ hb => (hno hb).elim, fun k k' i i' _ _ l => ?_, fun k i e => (hn e).1, fun k l => ?_, fun k i e => ⟨Nat.zero_le _, by rw [(hn e).2]; exact hW⟩⟩
    · obtain ⟨b, hb⟩ := l; exact (hno hb).elim
    · obtain ⟨b, hb⟩ := l; exact (hno hb).elim
  obtain ⟨_, r2⟩ := hok hS (Nat.zero_le _) (fun _ _ _ => trivial) ha
  refine (callsIn_wide (n := 0)).1 (r2 _ fun V w' ν' hv he => ⟨?_, he.os, he.tape, he.output, he.size, fun k hk => ?_⟩)
  · simp only [conc, Option.some.injEq] at hv
    rw [← hv]
  · rw [Array.getElem?_eq_getElem hk]
    exact he.frame k _ (Array.getElem?_eq_getElem hk) fun k0 i0 _ l => by obtain ⟨b, hb⟩ := l; exact (hno hb).elim
/-- A call without arguments that is known to answer true, wherever it is made. -/
def trueH (f : Nat) (H : Hook) : Hook := fun f' args' s => match Nat.beq f' f with
  | false => H f' args' s
  | true => match args' with
    | [] => some (.bool true, s)
    | _ => H f' args' s
theorem true_ok {P : Program} {H : Hook} {f : Nat} {fn : Func} (hf : P.funcs[f]? = some fn) (hb : fn.body.isNone = false) (hg : (fn.name == "runtime.NumGoroutine") = false)
    (hc : ∀ W, Calls P f #[] W fun e w' => e = .returned (.bool true) ∧ Go.RowKit.Below W.heap.size W w') (hH : HookOk P H) : HookOk P (trueH f H) := by
  intro f' args' s v s1 hh
  unfold trueH at hh
  split at hh
  · exact hH _ _ _ _ _ hh
  · next q =>
    have q := beq_iff.1 q
    subst q
    split at hh
    · cases hh
      refine ⟨?_, Le.refl _⟩
      intro M B ν W Args hS hB hp hargs
      rw [concs_nil] at hargs
      cases hargs
      refine ⟨⟨fn, hf, hb, hg⟩, fun R hR => (callsIn_wide (n := 0)).2 ((hc W).mono ?_)⟩
      rintro e w' ⟨rfl, hbel⟩
      refine hR _ w' ν (by simp only [conc]) ⟨⟨fun k b m hb => ?_, fun k k' i i' m m' l l' => ?_, hS.fresh, hS.dom, fun k i e => ?_⟩, Nu.le_refl ν, fun k i a c => (by rw [a] at c; cases c), fun b o hb _ => ?_, hbel.size, hbel.os, hbel.tape, hbel.output⟩
      · obtain ⟨inf, h1, h2⟩ := hS.old.blk k b m hb
        exact ⟨inf, h1, h2.keep fun o ho => by rw [hbel.block _ (Array.getElem?_eq_some_iff.1 ho).1]; exact ho⟩
      · exact hS.old.inj k k' i i' m m' l l'
      · have := hS.lt k i e
        exact ⟨this.1, Nat.lt_of_lt_of_le this.2 hbel.size⟩
      · rw [hbel.block _ (Array.getElem?_eq_some_iff.1 hb).1]; exact hb
    · exact hH _ _ _ _ _ hh
end Go.Proofs.YtnnalcfdeldocaaGreatDoor.X
