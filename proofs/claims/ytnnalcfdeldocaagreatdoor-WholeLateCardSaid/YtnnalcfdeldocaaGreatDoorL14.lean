/- A walk by the kernel: code. A walk by the kernel: a range over a function. A walk by the kernel: a round, a call. -/
import Derived.Test.YtnnalcfdeldocaaGreatDoorL13
import Derived.Test.YtnnalcfdeldocaaGreatDoorL11
import Derived.RangeFuncNested
namespace Go.Proofs.YtnnalcfdeldocaaGreatDoor.X
open Go
set_option linter.unusedVariables false
set_option linter.unusedSimpArgs false
section
variable {ih : Req → E Res} {P : Program} {M : Nat → Prop} {B : Nat} {ν ν1 : Nu} {W W1 : World} {s s1 s2 : St}
theorem LeM.drawE {ops : Array Oper} {n : Nat} (IH : IHok P ih) {T T' : Tr AV} (hev : drawE ih P ops n ops.toList 0 [] [] T s = some (T', s1)) : Le s s1 := by
  obtain ⟨o, st, rs, Ts, vs, bs, e1, e2, e3, e4, _, hst⟩ := drawE_run ops.toList 0 [] [] T s hev (fun j => by simp) rfl
  have key : ∀ j, j ≤ ops.toList.length → Le s (st j) := by
    intro j
    induction j with
    | zero => intro _; rw [e1]; exact Le.refl _
    | succ j ihj =>
      intro hj
      have h1 := ihj (by omega)
      obtain ⟨d, _⟩ := hst j (Nat.zero_le _) (by omega)
      have h2 := d.le IH
      refine h1.trans ?_
      rw [d.next]
      refine ⟨h2.next, fun k q => ?_, fun k q => ?_, fun dm k q => ?_, h2.old, h2.dom⟩
      · show (Nat.lor (st j).rd (rs j).rd).testBit k = true; rw [testBit_lor2, q, Bool.true_or]
      · show (Nat.lor (st j).wr (rs j).wr).testBit k = true; rw [testBit_lor2, q, Bool.true_or]
      · have q : (Nat.lor (st j).wr (rs j).wr).testBit k = false := q
        rw [testBit_lor2, Bool.or_eq_false_iff] at q
        exact h2.same dm k q.2
  have := key _ (Nat.le_refl _)
  rw [Nat.zero_add] at e3
  rw [e3] at this
  exact this
/-- A loop's record, written anew. -/
theorem loop_write {l : Nat} {inf : Inf} {st st' : LoopState} {pend pend' : Option Code} {T : Tr AV} {n d : Nat} {ps : Array Tmp} {asg body : Code} {u : Unit} (hev : wrB l (.loop st' pend' T n ps asg body d) s = some (u, s1)) (h : Sat M B ν s W) (hM : M l) (hb : s.heap.get l = some (.loop st pend T n ps asg body d)) (hl : ν l = some inf) :
    ∃ r : Loop, W.heap[inf.blk]? = some (.loop r) ∧ r.state = st ∧ r.pending = pend ∧ Eff M B ν ν s s1 W (W.putObj inf.blk (.loop { r with state := st', pending := pend' })) := by
  obtain ⟨inf', h1, fn, tm, i, h2, h3, h4, h5⟩ := h.blk l _ hM hb
  rw [hl] at h1; cases h1
  obtain ⟨_, g2, rfl⟩ := wrB_some.1 hev
  have hlt : inf.blk < W.heap.size := (Array.getElem?_eq_some_iff.1 h2).1
  refine ⟨_, h2, rfl, rfl, Eff.write h hM hb hl g2 rfl rfl (fun j => testBit_lor _ _ _) (by simp) (fun j hj => World.putObj_heap_other hj) ?_ rfl rfl rfl⟩
  exact ⟨fn, tm, i, World.putObj_heap_same hlt, h3, h4, h5⟩
theorem codeOk_mono {rd : Option Nat} {c : Code} {T : Tr AV} {n : Nat} {mk : List Nat} {x : XR} {T' : Tr AV} {mk' : List Nat} (h : CodeOk P rd c T n mk s x T' mk' s1) : CodeOk P rd c T n mk s x T' mk' s1 := h
theorem MkOk.eff {mk : List Nat} {ds : List Deferred} (h : MkOk ν mk ds) (e : Eff M B ν ν1 s s1 W W1) : MkOk ν1 mk ds := h.mono e.ext
theorem exitOf_tame (x : XR) : tame (exitOf x) := by cases x <;> trivial
theorem codeE_plain {rd : Option Nat} {c : Code} {T : Tr AV} {n : Nat} {mk : List Nat} {r : Res} (IH : IHok P ih) (hm : P.follows .mixedOrders = true) (hnr : ∀ f ps asg body, c ≠ .rangeFunc f ps asg body) (hev : codeE ih P rd c T n mk s = some (r, s1)) : ∃ x T' mk', r = .code x T' mk' ∧ CodeOk P rd c T n mk s x T' mk' s1 := by
  unfold codeE at hev
  split at hev
  · cases hev
    exact ⟨.normal, T, mk, rfl, fun h hB hp ht hs hr hk hq => wpIn_skip (hq _ _ _ (Eff.refl h) ht hs hk)⟩
  · cases hev
    exact ⟨.normal, T, mk, rfl, fun h hB hp ht hs hr hk hq => wpIn_label (hq _ _ _ (Eff.refl h) ht hs hk)⟩
  · next id ops =>
    split at hev
    · cases hev
    · next T' s2 q =>
      cases hev
      refine ⟨.normal, T', mk, rfl, fun {M B ν W a r Q} h hB hp ht hs hr hk hq => wpIn_region ?_⟩
      have := opsE_ok (r := r) (Q := Q) IH ops.toList 0 (fun j => by simp) q h hB hp ht hs (fun a' w' ν' e g1 g2 g3 => hq a' w' ν' e g1 g2 (by rw [g3]; exact hk.eff e))
      rw [List.range_eq_range']
      simpa using this
  · next id ops =>
    split at hev
    · cases hev
    · next T' s2 q =>
      cases hev
      exact ⟨.normal, T', mk, rfl, fun {M B ν W a r Q} h hB hp ht hs hr hk hq => drawE_ok IH hm q h hB hp ht hs (fun a' w' ν' e g1 g2 g3 => hq a' w' ν' e g1 g2 (by rw [g3]; exact hk.eff e))⟩
  · next c1 c2 =>
    split at hev
    · next T1 mk1 s2 q1 =>
      obtain ⟨x1, T1', mk1', e1, o1⟩ := IH.code q1
      cases e1
      obtain ⟨x2, T2, mk2, rfl, o2⟩ := IH.code hev
      have l1 := IH.le _ _ _ _ q1
      have l2 := IH.le _ _ _ _ hev
      refine ⟨x2, T2, mk2, rfl, fun {M B ν W a r Q} h hB hp ht hs hr hk hq => wpIn_seq (o1 h hB (hp.left l2) ht hs hr hk fun a1 w1 ν1 e g1 g2 g3 => ?_)⟩
      show c2.wpIn (FW r) 0 P Q a1 w1
      exact o2 e.sat (Nat.le_trans hB e.size) hp.right g1 g2 (hr.mono e.ext) g3 fun a2 w2 ν2 e2 k1 k2 k3 => hq a2 w2 ν2 (e.trans e2 l1 l2 h.fresh) k1 k2 k3
    · next x T1 mk1 s2 hne q1 =>
      cases hev
      obtain ⟨x1, T1', mk1', e1, o1⟩ := IH.code q1
      cases e1
      refine ⟨_, _, _, rfl, fun {M B ν W a r Q} h hB hp ht hs hr hk hq => wpIn_seq (o1 h hB hp ht hs hr hk fun a1 w1 ν1 e g1 g2 g3 => ?_)⟩
      have := hq a1 w1 ν1 e g1 g2 g3
      cases x with
      | normal => exact absurd rfl hne
      | exit i => exact this
      | ret => exact this
    · cases hev
  · next x c1 c2 =>
    split at hev
    · next q =>
      obtain ⟨x2, T2, mk2, rfl, o2⟩ := IH.code hev
      exact ⟨x2, T2, mk2, rfl, fun {M B ν W a r Q} h hB hp ht hs hr hk hq => wpIn_cond_true (by have := opv_ok ht q; simp only [conc, Option.some.injEq] at this; exact this.symm) (o2 h hB hp ht hs hr hk hq)⟩
    · next q =>
      obtain ⟨x2, T2, mk2, rfl, o2⟩ := IH.code hev
      exact ⟨x2, T2, mk2, rfl, fun {M B ν W a r Q} h hB hp ht hs hr hk hq => wpIn_cond_false (by have := opv_ok ht q; simp only [conc, Option.some.injEq] at this; exact this.symm) (o2 h hB hp ht hs hr hk hq)⟩
    · cases hev
  · next id c1 =>
    split at hev
    · next i T1 mk1 s2 q1 =>
      obtain ⟨x1, T1', mk1', e1, o1⟩ := IH.code q1
      cases e1
      split at hev
      · next qi =>
        cases hev
        have := beq_iff.1 qi
        subst this
        refine ⟨_, _, _, rfl, fun {M B ν W a r Q} h hB hp ht hs hr hk hq => wpIn_block (o1 h hB hp ht hs hr hk fun a1 w1 ν1 e g1 g2 g3 => ?_)⟩
        simp only [exitOf, Exit.inBlock, if_true]
        exact hq a1 w1 ν1 e g1 g2 g3
      · next qi =>
        cases hev
        have hne : i ≠ id := fun e => by rw [beq_iff.2 e] at qi; cases qi
        refine ⟨_, _, _, rfl, fun {M B ν W a r Q} h hB hp ht hs hr hk hq => wpIn_block (o1 h hB hp ht hs hr hk fun a1 w1 ν1 e g1 g2 g3 => ?_)⟩
        simp only [exitOf, Exit.inBlock, if_neg hne]
        exact hq a1 w1 ν1 e g1 g2 g3
    · next hne =>
      obtain ⟨x1, T1', mk1', rfl, o1⟩ := IH.code hev
      refine ⟨_, _, _, rfl, fun {M B ν W a r Q} h hB hp ht hs hr hk hq => wpIn_block (o1 h hB hp ht hs hr hk fun a1 w1 ν1 e g1 g2 g3 => ?_)⟩
      have := hq a1 w1 ν1 e g1 g2 g3
      cases x1 with
      | normal => exact this
      | exit i => exact absurd hev (hne i T1' mk1' s1)
      | ret => exact this
  · next c1 =>
    split at hev
    · next T1 mk1 s2 q1 =>
      obtain ⟨x1, T1', mk1', e1, o1⟩ := IH.code q1
      cases e1
      obtain ⟨x2, T2, mk2, rfl, o2⟩ := IH.code hev
      have l1 := IH.le _ _ _ _ q1
      have l2 := IH.le _ _ _ _ hev
      refine ⟨x2, T2, mk2, rfl, fun {M B ν W a r Q} h hB hp ht hs hr hk hq => ?_⟩
      refine wpIn_mono (wpIn_loop_round (Q := fun e a w => tame e ∧ Q e a w) (fun e a w h => h.1) ?_) (fun e a w h => h.2)
      refine o1 h hB (hp.left l2) ht hs hr hk fun a1 w1 ν1 e g1 g2 g3 => ?_
      show (Code.loop c1).wpIn (FW r) 0 P _ a1 w1
      exact o2 e.sat (Nat.le_trans hB e.size) hp.right g1 g2 (hr.mono e.ext) g3 fun a2 w2 ν2 e2 k1 k2 k3 => ⟨exitOf_tame _, hq a2 w2 ν2 (e.trans e2 l1 l2 h.fresh) k1 k2 k3⟩
    · next x T1 mk1 s2 hne q1 =>
      cases hev
      obtain ⟨x1, T1', mk1', e1, o1⟩ := IH.code q1
      cases e1
      refine ⟨_, _, _, rfl, fun {M B ν W a r Q} h hB hp ht hs hr hk hq => ?_⟩
      refine wpIn_mono (wpIn_loop_round (Q := fun e a w => tame e ∧ Q e a w) (fun e a w h => h.1) ?_) (fun e a w h => h.2)
      refine o1 h hB hp ht hs hr hk fun a1 w1 ν1 e g1 g2 g3 => ?_
      have := hq a1 w1 ν1 e g1 g2 g3
      cases x with
      | normal => exact absurd rfl hne
      | exit i => exact ⟨trivial, this⟩
      | ret => exact ⟨trivial, this⟩
    · cases hev
  · cases hev
    exact ⟨.exit _, T, mk, rfl, fun h hB hp ht hs hr hk hq => wpIn_exit (hq _ _ _ (Eff.refl h) ht hs hk)⟩
  · cases hev
    exact ⟨.ret, T, mk, rfl, fun h hB hp ht hs hr hk hq => wpIn_ret (hq _ _ _ (Eff.refl h) ht hs hk)⟩
  · exact absurd rfl (hnr _ _ _ _)
  · cases hev
end
end Go.Proofs.YtnnalcfdeldocaaGreatDoor.X
namespace Go.Proofs.YtnnalcfdeldocaaGreatDoor.X
open Go
set_option linter.unusedVariables false
set_option linter.unusedSimpArgs false
section
variable {ih : Req → E Res} {P : Program} {M : Nat → Prop} {B : Nat} {ν ν1 : Nu} {W W1 : World} {s s1 s2 : St}
/-- A loop's record is laid. -/
theorem newLoop_ok {l d n : Nat} {T : Tr AV} {ps : Array Tmp} {asg body : Code} (hev : newB (.loop .ready none T n ps asg body d) s = some (l, s1)) (h : Sat M B ν s W) (hB : B ≤ W.heap.size) {fn : FuncId} {tm : Array Value} {i : Inf} (ht : TRel ν T tm) (hs : tm.size = n) (hd : ν d = some i) :
    l = s.next ∧ Eff M B ν (ν.add s.next ⟨W.heap.size, 0, 0⟩) s s1 W (W.alloc (.loop { state := .ready, pending := none, fn, tmps := tm, params := ps, assign := asg, body, defers := i.blk })) := by
  obtain ⟨rfl, n1, n2, rfl⟩ := newB_some.1 hev
  have hle := Nu.le_add h.noNext (⟨W.heap.size, 0, 0⟩ : Inf)
  exact ⟨rfl, Eff.alloc h n2 hB rfl rfl rfl ⟨fn, tm, i, World.alloc_heap_new _ _, ht.mono hle, hs, hle _ _ hd⟩ rfl rfl rfl⟩
/-- The statement is entered. -/
theorem enter_ok {rd : Option Nat} {r : Option Nat} {n d l : Nat} {mk mk' : List Nat} {T : Tr AV} {ps : Array Tmp} {asg body : Code} {a : Act}
    (h1 : (match rd with
        | none => match newB .dfr s with
          | none => none
          | some (d, s1) => some (d, d :: mk, s1)
        | some l => match s.heap.get l with
          | some (.loop _ _ _ _ _ _ _ d) => some (d, mk, { s with rd := Nat.lor s.rd (bit l) })
          | _ => none) = some (d, mk', s1))
    (h2 : newB (.loop .ready none T n ps asg body d) s1 = some (l, s2)) (h : Sat M B ν s W) (hB : B ≤ W.heap.size) (hp : Pre M s s2) (ht : TRel ν T a.tmps) (hs : a.tmps.size = n) (hr : RdOk ν rd r) (hk : MkOk ν mk a.defers) (fn : FuncId) :
    ∃ (L : Nat) (mark : List Deferred) (w2 : World) (ν2 : Nu) (inf : Inf), (Instr.enterLoop fn a.tmps ps asg body r).run P W = .ok (L, mark) w2 ∧ Eff M B ν ν2 s s2 W w2 ∧ ν2 l = some inf ∧ inf.blk = L ∧ MkOk ν2 mk' (mark ++ a.defers) ∧ s.next ≤ l := by
  cases rd with
  | none =>
    have hr : r = none := hr
    subst hr
    simp only at h1
    cases q : newB .dfr s with
    | none => rw [q] at h1; cases h1
    | some p =>
      obtain ⟨d', s1'⟩ := p
      rw [q] at h1
      simp only [Option.some.injEq, Prod.mk.injEq] at h1
      obtain ⟨rfl, rfl, rfl⟩ := h1
      have l1 := LeM.newB _ s _ _ q
      have l2 := LeM.newB _ s1' _ _ h2
      obtain ⟨rfl, n1, n2, rfl⟩ := newB_some.1 q
      have hle := Nu.le_add h.noNext (⟨W.heap.size, 0, 0⟩ : Inf)
      have e1 : Eff M B ν (ν.add s.next ⟨W.heap.size, 0, 0⟩) s { heap := Tr.put 20 s.heap s.next (some .dfr), next := s.next + 1, rd := s.rd, wr := Nat.lor s.wr (bit s.next) } W (W.alloc (.deferred (some []))) :=
        Eff.alloc h n2 hB rfl rfl rfl (World.alloc_heap_new _ _) rfl rfl rfl
      obtain ⟨rfl, e2⟩ := newLoop_ok (fn := fn) h2 e1.sat (Nat.le_trans hB e1.size) (ht.mono hle) hs (Nu.add_eq _ _ _)
      have e3 := e1.trans e2 l1 l2 h.fresh
      have hle2 := e2.ext
      refine ⟨W.heap.size + 1, _, _, _, _, run_enterLoop_outer fn a.tmps ps asg body, e3, Nu.add_eq _ _ _, ?_, ?_, Nat.le_succ _⟩
      · simp [World.size_alloc]
      · exact ⟨⟨_, hle2 _ _ (Nu.add_eq _ _ _), rfl⟩, hk.eff e3⟩
  | some l0 =>
    obtain ⟨inf0, i1, rfl⟩ := hr
    simp only at h1
    split at h1
    · next st pend T0 n0 ps0 as0 bd0 d0 hb =>
      simp only [Option.some.injEq, Prod.mk.injEq] at h1
      obtain ⟨rfl, rfl, rfl⟩ := h1
      have l2 := LeM.newB _ _ _ _ h2
      have hM : M l0 := (hp.left l2).rd (h.dom l0 ⟨_, hb⟩)
      obtain ⟨inf', g1, fn0, tm0, i0, g2, g3, g4, g5⟩ := h.blk l0 _ hM hb
      rw [i1] at g1; cases g1
      have hS : Sat M B ν ({ s with rd := Nat.lor s.rd (bit l0) } : St) W := h.same rfl rfl
      obtain ⟨rfl, e2⟩ := newLoop_ok (fn := fn) h2 hS hB ht hs g5
      have e3 := Eff.pre (s := s) (s2 := ({ s with rd := Nat.lor s.rd (bit l0) } : St)) rfl rfl e2
      refine ⟨W.heap.size, [], _, _, _, run_enterLoop_inner g2 fn a.tmps ps asg body, e3, Nu.add_eq _ _ _, rfl, hk.eff e3, Nat.le_refl _⟩
    · cases h1
theorem codeE_range {rd : Option Nat} {f : Operand} {ps : Array Tmp} {asg body : Code} {T : Tr AV} {n : Nat} {mk : List Nat} {r : Res} (IH : IHok P ih) (hev : codeE ih P rd (.rangeFunc f ps asg body) T n mk s = some (r, s1)) : ∃ x T' mk', r = .code x T' mk' ∧ CodeOk P rd (.rangeFunc f ps asg body) T n mk s x T' mk' s1 ∧ Le s s1 := by
  simp only [codeE] at hev
  split at hev
  · next g av bv qf =>
    split at hev
    · cases hev
    next d mk' sA qA =>
    have leA : Le s sA := by
      cases rd with
      | none =>
        simp only at qA
        split at qA
        · cases qA
        · next q => cases qA; exact LeM.newB _ _ _ _ q
      | some l0 =>
        simp only at qA
        split at qA
        · cases qA; exact Le.rdk _ _
        · cases qA
    split at hev
    · cases hev
    next l sB qB =>
    have leB := LeM.newB _ _ _ _ qB
    split at hev
    · next v sC qC =>
      obtain ⟨v', e, hcall⟩ := IH.call qC
      cases e
      have leC := IH.le _ _ _ _ qC
      split at hev
      · next st pend T' n' ps' as' bd' d' hl =>
        have tail : ∀ {sD : St} {u : Unit}, st ≠ .busy → wrB l (.loop .exhausted pend T' n' ps' as' bd' d') sC = some (u, sD) → (match (generalizing := false) pend with
            | none => some (.code .normal T mk', sD)
            | some j => ih (.code rd j T n mk') sD) = some (r, s1) → ∃ x T' mk', r = .code x T' mk' ∧ CodeOk P rd (.rangeFunc f ps asg body) T n mk s x T' mk' s1 ∧ Le s s1 := by
          intro sD u hbusy qD hev
          have leD := LeM.wrB _ _ _ _ _ qD
          -- all that is known up to the pending jump
          have main : Le sD s1 → ∀ {M : Nat → Prop} {B : Nat} {ν : Nu} {W : World} {a : Act} {r' : Option Nat} {Q : Exit → Act → World → Prop}, Sat M B ν s W → B ≤ W.heap.size → Pre M s s1 → TRel ν T a.tmps → a.tmps.size = n → RdOk ν rd r' → MkOk ν mk a.defers →
              (∀ a' w4 ν4, Eff M B ν ν4 s sD W w4 → a'.tmps = a.tmps → MkOk ν4 mk' a'.defers → match (generalizing := false) pend with | none => Q .normal a' w4 | some j => j.wpIn (FW r') 0 P Q a' w4) → (Code.rangeFunc f ps asg body).wpIn (FW r') 0 P Q a W := by
            intro leE M B ν W a r' Q h hB hp ht hs hr hk hq
            refine wpIn_rangeFunc fun fn _ => ?_
            have leBE := leC.trans (leD.trans leE)
            obtain ⟨L, mark, w2, ν2, inf, t1, t2, t3, t4, t5, t6⟩ := enter_ok (P := P) qA qB h hB (hp.left leBE) ht hs hr hk fn
            have lAB := leA.trans leB
            have hF := opv_ok ht qf
            obtain ⟨X, Y, hx, hy, eF⟩ := conc_fn hF
            have hargs : concs ν2 (av ++ [AV.yld l] ++ bv) = some (X ++ [Value.func (.yield inf.blk) #[] #[]] ++ Y) := concs_append (concs_append (concs_mono t2.ext _ _ hx) (concs_cons.2 ⟨_, _, by simp [conc, t3], concs_nil, rfl⟩)) (concs_mono t2.ext _ _ hy)
            have hpC : Pre (fun k => M k ∨ s.next ≤ k) sB sC := (hp.left (leD.trans leE)).right
            obtain ⟨⟨fu, f1, f2, f3⟩, hR⟩ := hcall t2.sat (Nat.le_trans hB t2.size) hpC hargs
            refine ⟨L, mark, w2, { target := .fn (.func g) Y.toArray, args := X.toArray ++ #[Value.func (.yield L) #[] #[]] }, w2, g, (X ++ [Value.func (.yield inf.blk) #[] #[]] ++ Y).toArray, w2, t1, ?_, fun f' _ => trivial, ?_, fun q => by simp [FW, Fence.wide] at q, ?_⟩
            · simp only [rangeCall, resolve, eF, Deferred.ofValue]
              simp [Act.eval]
            · have f2' : fu.body ≠ none := fun e => by rw [e] at f2; cases f2
              have f3' : fu.name ≠ "runtime.NumGoroutine" := by simpa using f3
              simp only [invoke, callFunc]
              simp [f1, f2', f3', ← t4]
            · refine hR _ fun V w3 ν3 hv e3 => ?_
              have e23 := t2.trans e3 lAB leC h.fresh
              have hpD : Pre (fun k => M k ∨ s.next ≤ k) sC sD := (hp.left leE).right
              have hl3 : ν3 l = some inf := e3.ext _ _ t3
              obtain ⟨rr, k1, k2, k3, k4⟩ := loop_write qD e23.sat (.inr t6) hl hl3
              have hend := run_endLoop (P := P) k1 (by rw [k2]; exact hbusy)
              rw [k3, t4] at hend
              rw [t4] at k4
              refine ⟨pend, _, hend, ?_⟩
              have e4 := e23.trans k4 (lAB.trans leC) leD h.fresh
              exact hq { a with defers := mark ++ a.defers } _ ν3 e4 rfl (t5.mono e3.ext)
          cases hpend : pend with
          | none =>
            rw [hpend] at hev main
            cases hev
            refine ⟨.normal, T, mk', rfl, fun {M B ν W a r' Q} h hB hp ht hs hr hk hq => main (Le.refl _) h hB hp ht hs hr hk fun a' w4 ν4 e4 g1 g2 => ?_, leA.trans (leB.trans (leC.trans leD))⟩
            exact hq a' w4 ν4 e4 (by rw [g1]; exact ht.mono e4.ext) (by rw [g1]; exact hs) g2
          | some j =>
            rw [hpend] at hev main
            simp only at hev
            obtain ⟨x2, T2, mk2, rfl, o2⟩ := IH.code hev
            have leE := IH.le _ _ _ _ hev
            refine ⟨x2, T2, mk2, rfl, fun {M B ν W a r' Q} h hB hp ht hs hr hk hq => main leE h hB hp ht hs hr hk fun a' w4 ν4 e4 g1 g2 => ?_, leA.trans (leB.trans (leC.trans (leD.trans leE)))⟩
            exact o2 e4.sat (Nat.le_trans hB e4.size) hp.right (by rw [g1]; exact ht.mono e4.ext) (by rw [g1]; exact hs) (hr.mono e4.ext) g2 fun a2 w2 ν2 e2 k1 k2 k3 => hq a2 w2 ν2 (e4.trans e2 (leA.trans (leB.trans (leC.trans leD))) leE h.fresh) k1 k2 k3
        split at hev
        · cases hev
        · next hb =>
          split at hev
          · cases hev
          · next u sD qD => exact tail (fun e => hb e) qD hev
      · cases hev
    · cases hev
  · cases hev
end
end Go.Proofs.YtnnalcfdeldocaaGreatDoor.X
namespace Go.Proofs.YtnnalcfdeldocaaGreatDoor.X
open Go
set_option linter.unusedVariables false
set_option linter.unusedSimpArgs false
section
variable {ih : Req → E Res} {P : Program} {M : Nat → Prop} {B : Nat} {ν ν1 : Nu} {W W1 : World} {s s1 s2 : St}
theorem loopT_ok {n : Nat} : ∀ {ps : List Tmp} {vs : List AV} {Vs : List Value} {T T' : Tr AV} {tm : Array Value}, loopT n ps vs T = some T' → concs ν vs = some Vs → TRel ν T tm → tm.size = n →
    Vs.length = ps.length ∧ TRel ν T' ((ps.zip Vs).foldl (fun tmps (t, a) => tmps.setIfInBounds t a) tm) ∧ ((ps.zip Vs).foldl (fun tmps (t, a) => tmps.setIfInBounds t a) tm).size = n
  | [], [], Vs, T, T', tm, h, hv, ht, hs => by
    simp only [loopT, Option.some.injEq] at h
    subst h
    rw [concs_nil] at hv; cases hv
    exact ⟨rfl, ht, hs⟩
  | [], _ :: _, _, _, _, _, h, _, _, _ => by simp [loopT] at h
  | _ :: _, [], _, _, _, _, h, _, _, _ => by simp [loopT] at h
  | p :: ps, v :: vs, Vs, T, T', tm, h, hv, ht, hs => by
    simp only [loopT] at h
    split at h
    · cases h
    · next T1 q =>
      obtain ⟨V, Vr, h1, h2, rfl⟩ := concs_cons.1 hv
      obtain ⟨g1, g2, _⟩ := putT_ok (a := { tmps := tm, defers := [] }) q ht hs h1
      obtain ⟨k1, k2, k3⟩ := loopT_ok h h2 g1 g2
      exact ⟨by simp [k1], k2, k3⟩
theorem yieldE_ok {k : Nat} {args : List AV} {r : Res} (IH : IHok P ih) (hev : yieldE ih k args s = some (r, s1)) : (∃ v, r = .val v ∧ YieldOk P k args s v s1) ∧ Le s s1 := by
  unfold yieldE at hev
  split at hev
  · next pend T n ps asg body d hk =>
    split at hev
    · cases hev
    next T1 qT =>
    split at hev
    · next T2 sA qA =>
      obtain ⟨xA, TA, mkA, eA, oA⟩ := IH.code qA
      cases eA
      have leA := IH.le _ _ _ _ qA
      split at hev
      · next pend' T' n' ps' as' bd' d' hl =>
        split at hev
        · cases hev
        next u sB qB =>
        have leB := LeM.wrB _ _ _ _ _ qB
        split at hev
        · next x TC sC qC =>
          obtain ⟨xC, TC', mkC, eC, oC⟩ := IH.code qC
          cases eC
          have leC := IH.le _ _ _ _ qC
          have le0 : Le s ({ s with rd := Nat.lor s.rd (bit k) } : St) := Le.rdk s k
          split at hev
          · next st3 pend3 T3 n3 ps3 as3 bd3 d3 hl3 =>
            have main : ∀ {v : AV} {sD : St} {u : Unit} {st' : LoopState} {j : Option Code} {b : Bool}, wrB k (.loop st' j T3 n3 ps3 as3 bd3 d3) sC = some (u, sD) →
                v = .bool b → (∀ (l : Nat) (w : World) (rr : Loop) (R : Ending → World → Prop) (a : Act), w.heap[l]? = some (.loop rr) → R (.returned (.bool b)) (w.putObj l (.loop { rr with state := st', pending := j })) → roundPost P l R (exitOf x) a w) → YieldOk P k args s v sD ∧ Le s sD := by
              intro v sD u st' j b qD hv hpost
              have leD := LeM.wrB _ _ _ _ _ qD
              subst hv
              refine ⟨?_, le0.trans (leA.trans (leB.trans (leC.trans leD)))⟩
              intro M B ν W Args inf h hB hp hkν hargs
              have leBD := leB.trans (leC.trans leD)
              have hM : M k := (hp.left (leA.trans leBD)).rd (h.dom k ⟨_, hk⟩)
              obtain ⟨inf', g1, fn, tm, i, g2, g3, g4, g5⟩ := h.blk k _ hM hk
              rw [hkν] at g1; cases g1
              obtain ⟨z1, z2, z3⟩ := loopT_ok qT hargs g3 g4
              have hz : Args.toArray.size = ps.size := by simpa using z1
              have hfold : (ps.zip Args.toArray).foldl (fun tmps (t, a) => tmps.setIfInBounds t a) tm = ((ps.toList.zip Args).foldl (fun tmps (t, a) => tmps.setIfInBounds t a) tm) := by
                rw [← Array.foldl_toList, Array.toList_zip]
              refine ⟨_, _, _, _, run_yield g2 hz, fun R hR => ?_⟩
              simp only [hfold]
              refine roundIn_of_wpIn trivial ?_
              have hS : Sat M B ν ({ s with rd := Nat.lor s.rd (bit k) } : St) W := h.same rfl rfl
              have hpA : Pre M ({ s with rd := Nat.lor s.rd (bit k) } : St) sA := (hp.left leBD).same rfl
              refine oA (r := some inf.blk) hS hB hpA z2 z3 ⟨inf, hkν, rfl⟩ trivial fun a1 w1 ν1 e1 t1 t2 t3 => ?_
              have e1' := Eff.pre (s := s) (s2 := ({ s with rd := Nat.lor s.rd (bit k) } : St)) rfl rfl e1
              have le1 := le0.trans leA
              have hd1 : a1.defers = [] := by
                cases q : a1.defers with
                | nil => rfl
                | cons x y => rw [q] at t3; exact t3.elim
              obtain ⟨rr, k1, k2, k3, k4⟩ := loop_write qB e1'.sat (.inl hM) hl (e1'.ext _ _ hkν)
              have hbeg := run_beginRound (P := P) k1 k2
              rw [k3] at hbeg
              refine ⟨_, hbeg, ?_⟩
              have e2 := e1'.trans k4 le1 leB h.fresh
              have le2 := le1.trans leB
              have hpC : Pre (fun k => M k ∨ s.next ≤ k) sB sC := (hp.left leD).right
              refine oC (r := some inf.blk) e2.sat (Nat.le_trans hB e2.size) hpC (t1.mono k4.ext) t2 ⟨inf, e2.ext _ _ hkν, rfl⟩ (by rw [hd1]; trivial) fun a3 w3 ν3 e3 y1 y2 y3 => ?_
              have e3' := e2.trans e3 le2 leC h.fresh
              obtain ⟨rr3, m1, m2, m3, m4⟩ := loop_write qD e3'.sat (.inl hM) hl3 (e3'.ext _ _ hkν)
              have e4 := e3'.trans m4 (le2.trans leC) leD h.fresh
              exact hpost _ _ rr3 R a3 m1 (hR _ _ ν3 (by simp [conc]) e4)
            split at hev
            · split at hev
              · cases hev
              · next u sD qD =>
                cases hev
                obtain ⟨m1, m2⟩ := main (v := .bool true) (b := true) qD rfl (fun l w rr R a hw hR => ⟨_, _, run_endRound none hw, by simpa using hR⟩)
                exact ⟨⟨_, rfl, m1⟩, m2⟩
            · next hx =>
              split at hev
              · cases hev
              · next u sD qD =>
                cases hev
                obtain ⟨m1, m2⟩ := main (v := .bool false) (b := false) qD rfl (fun l w rr R a hw hR => by
                  cases x with
                  | normal => exact absurd rfl hx
                  | exit i => exact ⟨_, _, run_endRound (some (.exit i)) hw, by simpa [jumpOf] using hR⟩
                  | ret => exact ⟨_, _, run_endRound (some .ret) hw, by simpa [jumpOf] using hR⟩)
                exact ⟨⟨_, rfl, m1⟩, m2⟩
          · cases hev
        · cases hev
      · cases hev
    · cases hev
  · cases hev
end
end Go.Proofs.YtnnalcfdeldocaaGreatDoor.X
