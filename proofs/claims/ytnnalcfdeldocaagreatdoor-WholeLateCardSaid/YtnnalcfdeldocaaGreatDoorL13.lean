/- A walk by the kernel: a region that draws, in whatever order. -/
import Derived.Test.YtnnalcfdeldocaaGreatDoorL12
import Derived.OrdersIn
namespace Go.Proofs.YtnnalcfdeldocaaGreatDoor.X
open Go
set_option linter.unusedVariables false
set_option linter.unusedSimpArgs false
section
variable {ih : Req → E Res} {P : Program} {ops : Array Oper} {n : Nat} {R : Rec} {M : Nat → Prop} {B : Nat} {ν0 ν ν1 : Nu} {W0 W W1 W2 : World} {df : List Deferred} {S S' : Nat → Bool} {a : Act} {s s1 s2 : St}
theorem Eff.ext_right (h : Eff M B ν0 ν s s1 W W1) (hg : ∀ k, s1.heap.get k = s2.heap.get k) (hn : s1.next = s2.next) (hw : s1.wr = s2.wr) : Eff M B ν0 ν s s2 W W1 := by
  have hl : ∀ k, live s2 k ↔ live s1 k := fun k => by unfold live; rw [hg]
  refine ⟨⟨fun k b m e => h.sat.blk k b m (by rw [hg]; exact e), fun k k' i i' m m' l l' => h.sat.inj k k' i i' m m' ((hl k).1 l) ((hl k').1 l'), fun k i e => by rw [← hn]; exact h.sat.fresh k i e, fun k l => by rw [← hn]; exact h.sat.dom k ((hl k).1 l), h.sat.lt⟩, h.ext, fun k i a b => ?_, fun b o hb hy => ?_, h.size, h.os, h.tape, h.output⟩
  · obtain ⟨h1, h2⟩ := h.new k i a b
    refine ⟨h1, fun l => (h2 ((hl k).1 l)).imp id ?_⟩
    rintro ⟨k0, i0, q1, q2, q3, q4, q5⟩
    exact ⟨k0, i0, q1, q2, q3, by rw [← hw]; exact q4, q5⟩
  · exact h.frame b o hb fun k0 i0 q1 q2 q3 => hy k0 i0 q1 q2 (by rw [← hw]; exact q3)
theorem Eff.from_world (h : Eff M B ν0 ν s s1 W W1) (hh : W.heap = W2.heap) (ho : W.os = W2.os) (ht : W.tape = W2.tape) (hp : W.output = W2.output) : Eff M B ν0 ν s s1 W2 W1 :=
  ⟨h.sat, h.ext, fun k i a b => by have := h.new k i a b; rw [hh] at this; exact this, fun b o hb hy => h.frame b o (by rw [hh]; exact hb) hy, by rw [← hh]; exact h.size, h.os.trans ho, h.tape.trans ht, h.output.trans hp⟩
theorem layF_none {β : Type} {f0 : Nat → β} {w : Nat → Nat → Bool} {u : Nat → Nat → β} (hS : ∀ j, S j = false) : ∀ m k, layF f0 w u S m k = f0 k
  | 0, k => rfl
  | j + 1, k => by simp only [layF, hS, Bool.false_and]; exact layF_none hS j k
theorem layS_none {s0 : St} {rs : Nat → St} (hS : ∀ j, S j = false) : ∀ m, layS s0 rs S m = s0
  | 0 => rfl
  | j + 1 => by simp only [layS, hS]; exact layS_none hS j
theorem layS_all {m : Nat} (D : DRun ih P ops n m R) (hS : ∀ j, j < m → S j = true) : ∀ {j}, j ≤ m → (layS (R.st 0) R.rs S j).next = (R.st j).next ∧ (layS (R.st 0) R.rs S j).wr = (R.st j).wr
  | 0, _ => ⟨rfl, rfl⟩
  | j + 1, hm => by
    simp only [layS, hS j (by omega)]
    obtain ⟨h1, h2⟩ := layS_all D hS (j := j) (by omega)
    rw [(D.step j (by omega)).next]
    exact ⟨rfl, by rw [h2]⟩
/-- All operations have been made. -/
theorem DInv.done {m : Nat} (D : DRun ih P ops n m R) (IH : IHok P ih) (h0 : ∀ k, live (R.st 0) k → k < (R.st 0).next) (hS : ∀ j, j < m → S j = true) (I : DInv M B ν0 W0 df n m R S ν W a) : Eff M B ν0 ν (R.st 0) (R.st m) W0 W ∧ TRel ν (R.Ts m) a.tmps := by
  obtain ⟨h1, h2⟩ := layS_all D hS (Nat.le_refl m)
  refine ⟨I.eff.ext_right (fun k => ?_) h1 h2, fun t v ht => ?_⟩
  · rw [hpF_eq]
    exact layF_chain (pre := fun j => (R.st j).heap.get) rfl (fun j h1 _ => hS j h1) m (fun j h q => by
      show (R.st (j + 1)).heap.get k = _
      rw [D.heap h, D.same IH h0 h q]) (fun j h q => by
      show (R.st (j + 1)).heap.get k = _
      rw [D.heap h]) (fun j h1 h2 => by omega) (Nat.le_refl m)
  · have : tmF R S m t = (R.Ts m).get t := layF_chain (pre := fun j => (R.Ts j).get) rfl (fun j h1 _ => hS j h1) m (fun j h q => by
      show (R.Ts (j + 1)).get t = _
      rw [D.tmp h, q]) (fun j h q => rfl) (fun j h1 h2 => by omega) (Nat.le_refl m)
    obtain ⟨V, e1, e2⟩ := I.tmp t v (by rw [this]; exact ht)
    exact ⟨V, e1, conc_mono (Nu.below_le _ _) v V e2⟩
def listS (listed : Array Bool) : Nat → Bool := fun j => listed.getD j false
theorem draw_any {r : Option Nat} {Q : Exit → Act → World → Prop} (D : DRun ih P ops n ops.size R) (IH : IHok P ih) (hpre : Pre M (R.st 0) (R.st ops.size)) (h0 : Sat M B ν0 (R.st 0) W0) (hB : B ≤ W0.heap.size)
    (hq : ∀ S ν W a, (∀ j, j < ops.size → S j = true) → DInv M B ν0 W0 df n ops.size R S ν W a → Q .normal a W) :
    ∀ (fuel : Nat) (listed : Array Bool) (ν : Nu) (W : World) (a : Act), listed.size = ops.size → listed.toList.count false ≤ fuel → (∀ j, j < ops.size → listS listed j = true → ∀ x, (R.bs j).testBit x = true → listS listed x = true) →
      DInv M B ν0 W0 df n ops.size R (listS listed) ν W a → wpAnyIn (FW r) 0 P .any ops Q fuel listed a W := by
  have getD : ∀ (l : Array Bool) (j : Nat), j < l.size → l.getD j true = listS l j := fun l j h => by
    unfold listS; simp [Array.getD_eq_getD_getElem?, Array.getElem?_eq_getElem h]
  -- where nothing may come up, all has been made
  have all : ∀ (listed : Array Bool), listed.size = ops.size → Region.ready .any ops listed = [] → ∀ j, j < ops.size → listS listed j = true := by
    intro listed hsz hr
    have key : ∀ N j, j < N → j < ops.size → listS listed j = true := by
      intro N
      induction N with
      | zero => intro j h; omega
      | succ N ihN =>
        intro j hj hjm
        by_cases e : j < N
        · exact ihN j e hjm
        · have st := D.step j hjm
          cases q : listS listed j with
          | true => rfl
          | false =>
            exfalso
            have : j ∈ Region.ready .any ops listed := by
              rw [mem_ready]
              refine ⟨by rw [getD _ _ (by omega)]; exact q, _, st.op, fun e he hb => ?_⟩
              have hlt : e.on < j := st.low _ (st.bef e (by simpa using he) hb _ (.inl rfl))
              exact ihN e.on (by omega) (by omega)
            rw [hr] at this
            cases this
    exact fun j hj => key (j + 1) j (Nat.lt_succ_self _) hj
  intro fuel
  induction fuel with
  | zero =>
    intro listed ν W a hsz hc hcl I
    have hall : ∀ j, j < ops.size → listS listed j = true := fun j hj => by
      cases q : listS listed j with
      | true => rfl
      | false =>
        exfalso
        have hm : false ∈ listed.toList := by
          unfold listS at q
          rw [Array.getD_eq_getD_getElem?, Array.getElem?_eq_getElem (by omega)] at q
          simp only [Option.getD_some] at q
          rw [← q]
          simp
        have := List.count_pos_iff.2 hm
        omega
    refine ⟨?_, hq _ ν W a hall I⟩
    apply List.eq_nil_iff_forall_not_mem.2
    intro j hj
    obtain ⟨h1, o, h2, _⟩ := mem_ready.1 hj
    have hlt : j < ops.size := (Array.getElem?_eq_some_iff.1 h2).1
    rw [getD _ _ (by omega), hall j hlt] at h1
    cases h1
  | succ fuel ihF =>
    intro listed ν W a hsz hc hcl I
    refine ⟨fun hr => hq _ ν W a (all listed hsz hr) I, fun i hi => ?_⟩
    obtain ⟨h1, o, h2, h3⟩ := mem_ready.1 hi
    have hlt : i < ops.size := (Array.getElem?_eq_some_iff.1 h2).1
    have st := D.step i hlt
    have ho : R.o i = o := by have := st.op; rw [h2] at this; cases this; rfl
    have hS : listS listed i = false := by rw [← getD _ _ (by omega)]; exact h1
    have hdue : ∀ x, (R.bs i).testBit x = true → listS listed x = true := fun x hx => by
      obtain ⟨e, e1, e2, e3⟩ := st.due x hx
      have he := h3 e (by rw [← ho]; simpa using e1) e2
      rcases e3 with rfl | e3
      · exact he
      · have : e.on < ops.size := by
          have := st.low _ (st.bef e e1 e2 _ (.inl rfl)); omega
        exact hcl e.on this he x e3
    have y : Ready ops R ops.size i (listS listed) := ⟨hlt, hS, fun j hj hs => (D.apart j i hj hlt).resolve_left (fun q => by rw [hdue j q] at hs; cases hs), fun j hj hm hs => (D.apart i j hj hm).resolve_left (fun q => by rw [hcl j hm hs i q] at hS; cases hS)⟩
    have hS' : ∀ j, listS (listed.setIfInBounds i true) j = (listS listed j || decide (j = i)) := fun j => by
      unfold listS
      simp only [Array.getD_eq_getD_getElem?, Array.getElem?_setIfInBounds]
      by_cases e : i = j
      · subst e; simp [hsz, hlt]
      · simp [e, Ne.symm e]
    have hcl' : ∀ j, j < ops.size → listS (listed.setIfInBounds i true) j = true → ∀ x, (R.bs j).testBit x = true → listS (listed.setIfInBounds i true) x = true := fun j hj hs x hx => by
      rw [hS'] at hs ⊢
      rw [Bool.or_eq_true] at hs ⊢
      rcases hs with hs | hs
      · exact .inl (hcl j hj hs x hx)
      · have := of_decide_eq_true hs
        subst this
        exact .inl (hdue x hx)
    have hc' : (listed.setIfInBounds i true).toList.count false ≤ fuel := by
      have hi' : i < listed.toList.length := by simp; omega
      have hget : listed.toList[i] = false := by
        unfold listS at hS
        rw [Array.getD_eq_getD_getElem?, Array.getElem?_eq_getElem (by omega)] at hS
        simpa using hS
      rw [Array.toList_setIfInBounds, List.count_set (by simpa using hi')]
      simp only [hget]
      have e1 : (false == false) = true := rfl
      have e2 : (true == false) = false := rfl
      rw [e1, e2, if_pos rfl, if_neg (by simp)]
      omega
    obtain ⟨r1, r2, r3⟩ := DInv.ready y D IH hpre h0 I
    have fin : ∀ V W1 ν1, conc ν1 (R.vs i) = some V → Eff (Mi R i) B (ν.below (R.st i).next) ν1 (fresh0 (R.st i)) (R.rs i) W W1 → wpAnyIn (FW r) 0 P .any ops Q fuel (listed.setIfInBounds i true) (a.put o.dst V) W1 := fun V W1 ν1 hv he => by
      have := DInv.next y D IH hpre h0 I hS' hv he
      rw [ho] at this
      exact ihF _ _ _ _ (by simp [hsz]) hc' hcl' this
    unfold wpOpIn
    rw [h2]
    simp only
    have r3' := r3
    rw [ho] at r3
    rcases st.walk with ⟨q1, q2⟩ | ⟨q1, q2, q3⟩
    · rw [ho] at q1 q2
      rw [wantE_ok (wantE_keep.trans q1) r3]
      simp only [if_true]
      exact operE_ok IH (operE_keep.trans q2) r1 (Nat.le_trans hB I.eff.size) r2 r3 fin
    · rw [ho] at q1
      rw [wantE_ok (wantE_keep.trans q1) r3]
      simp only [Bool.false_eq_true, if_false]
      refine ⟨fun f _ => trivial, fin undef W (ν.below (R.st i).next) ?_ ?_⟩
      · rw [q2]; simp [conc, concs, undef]
      · rw [q3]; exact Eff.refl r1
/-- A region that draws its order. -/
theorem drawE_ok {id : Nat} {r : Option Nat} {Q : Exit → Act → World → Prop} {T T' : Tr AV} (IH : IHok P ih) (hm : P.follows .mixedOrders = true) (hev : drawE ih P ops n ops.toList 0 [] [] T s = some (T', s1)) (h : Sat M B ν s W) (hB : B ≤ W.heap.size) (hp : Pre M s s1)
    (ht : TRel ν T a.tmps) (hs : a.tmps.size = n) (hq : ∀ a' w' ν', Eff M B ν ν' s s1 W w' → TRel ν' T' a'.tmps → a'.tmps.size = n → a'.defers = a.defers → Q .normal a' w') : (Code.region id ops true).wpIn (FW r) 0 P Q a W := by
  obtain ⟨o, st, rs, Ts, vs, bs, e1, e2, e3, e4, _, hst⟩ := drawE_run ops.toList 0 [] [] T s hev (fun j => by simp) rfl
  have hl : ops.toList.length = ops.size := by simp
  rw [Nat.zero_add, hl] at e3 e4
  let R : Rec := ⟨o, st, rs, Ts, vs, bs⟩
  have D : DRun ih P ops n ops.size R := ⟨fun j hj => (hst j (Nat.zero_le _) (by omega)).1, fun j' j h1 h2 => (hst j (Nat.zero_le _) (by omega)).2.2 j' (Nat.zero_le _) h1⟩
  have hR0 : R.st 0 = s := e1
  have hRm : R.st ops.size = s1 := e3
  have hT0 : R.Ts 0 = T := e2
  have hTm : R.Ts ops.size = T' := e4
  refine wpIn_region_any hm ?_
  have hW : Sat M B ν (R.st 0) ({ W with drawn := W.drawn + 1 } : World) := by rw [hR0]; exact h.world rfl
  have hS0 : ∀ j, listS (Array.replicate ops.size false) j = false := fun j => by
    unfold listS
    rw [Array.getD_eq_getD_getElem?]
    simp only [Array.getElem?_replicate]
    split <;> rfl
  refine draw_any (R := R) (M := M) (B := B) (ν0 := ν) (W0 := ({ W with drawn := W.drawn + 1 } : World)) (df := a.defers) D IH (by rw [hR0, hRm]; exact hp) hW hB (fun S ν' W' a' hS I => ?_) ops.size _ ν _ a (by simp) (by simp [List.count_replicate]) (fun j _ hs => by rw [hS0] at hs; cases hs) ?_
  · obtain ⟨g1, g2⟩ := DInv.done D IH hW.dom hS I
    rw [hR0, hRm] at g1
    rw [hTm] at g2
    exact hq a' W' ν' (g1.from_world rfl rfl rfl rfl) g2 I.size I.df
  · refine ⟨?_, fun k b hk hb => ?_, fun t v hv => ?_, hs, rfl, fun k i e => .inl (hW.fresh k i e)⟩
    · rw [layS_none hS0]; exact Eff.refl hW
    · have e5 : hpF R (listS (Array.replicate ops.size false)) ops.size k = (R.st 0).heap.get k := layF_none hS0 _ k
      have e6 : hbF R (listS (Array.replicate ops.size false)) ops.size k = (R.st 0).next := layF_none hS0 _ k
      rw [e5] at hb
      rw [e6]
      have hMk : M k := hk.resolve_right (fun q => by have := hW.dom k ⟨b, hb⟩; omega)
      obtain ⟨inf, h1, h2⟩ := hW.blk k b hMk hb
      exact ⟨inf, h1, h2.mono (Nu.below_all hW.fresh)⟩
    · have e5 : tmF R (listS (Array.replicate ops.size false)) ops.size t = (R.Ts 0).get t := layF_none hS0 _ t
      have e6 : tbF R (listS (Array.replicate ops.size false)) ops.size t = (R.st 0).next := layF_none hS0 _ t
      rw [e5, hT0] at hv
      rw [e6]
      obtain ⟨V, h1, h2⟩ := ht t v hv
      exact ⟨V, h1, conc_mono (Nu.below_all hW.fresh) v V h2⟩
end
end Go.Proofs.YtnnalcfdeldocaaGreatDoor.X
