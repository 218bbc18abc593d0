/- A walk by the kernel: m[k]. A walk by the kernel: m[k] = v. A walk by the kernel: ranges over a map. A walk by the kernel: the next of a map's entries. A walk by the kernel: the entry of a map at hand. A walk by the kernel: len. A walk by the kernel: delete, min, max. A walk by the kernel: delete. A walk by the kernel: clear. A walk by the kernel: what is appended, and to what. A walk by the kernel: what is appended. A walk by the kernel: zeros that are appended. A walk by the kernel: append in place, as the model has it. A walk by the kernel: what is appended, plain or zeros. -/
import Derived.Test.YtnnalcfdeldocaaGreatDoorL07
import Derived.MapKept
namespace Go.Proofs.YtnnalcfdeldocaaGreatDoor.X
open Go
set_option linter.unusedVariables false
set_option linter.unusedSimpArgs false
section
variable {P : Program} {M : Nat → Prop} {B : Nat} {ν : Nu} {s s1 : St} {W : World}
theorem check_plain {t d : Nat} {x : AV} {X : Value} {em : Bool} (hf : basicOk P t x) (hX : conc ν x = some X) : (Instr.checkKey em (d + 1) t X).run P W = .ok () W := by
  rcases hf with ⟨k, a, b, h1, rfl⟩ | ⟨a, h1, rfl⟩ | ⟨a, h1, rfl⟩
  · simp [Instr.checkKey, run_underlying h1]
  · simp [Instr.checkKey, run_underlying h1]
  · simp [Instr.checkKey, run_underlying h1]
theorem check_fields {d : Nat} {xs : List AV} {Xs : List Value} {em : Bool} (hx : concs ν xs = some Xs) : ∀ {fs : List Field}, fitFields P xs fs = true →
    (forIn (m := Sem) fs PUnit.unit fun f _ => do
      if f.name ≠ "_" then Instr.checkKey em (d + 1) f.type (← part f.type Xs.toArray f.offset)
      pure (ForInStep.yield PUnit.unit)).run P W = .ok PUnit.unit W
  | [], _ => by simp
  | f :: fs, h => by
    simp only [fitFields] at h
    cases q0 : f.name == "_" with
    | true => rw [q0] at h; cases h
    | false =>
      rw [q0] at h
      simp only at h
      have hne : f.name ≠ "_" := fun e => by rw [e] at q0; simp at q0
      cases q1 : nth xs f.offset with
      | none => rw [q1] at h; cases h
      | some x =>
        rw [q1] at h
        simp only at h
        cases q3 : fitB P f.type x with
        | false => rw [q3] at h; cases h
        | true =>
          rw [q3] at h
          simp only at h
          obtain ⟨X, r1, r2⟩ := run_part (W := W) (fitB_plain q3) q1 hx
          simp only [List.forIn_cons, Sem.run_bind, hne, ne_eq, not_false_eq_true, if_true, Result.andThen_ok, r1, check_plain (fitB_ok q3) r2, Sem.run_pure]
          simpa using check_fields hx h
theorem checkKey_ok {kt d : Nat} {k : AV} {K : Value} {em : Bool} (hf : keyFit P kt k = true) (hK : conc ν k = some K) : (Instr.checkKey em (d + 2) kt K).run P W = .ok () W := by
  unfold keyFit at hf
  split at hf
  · next q => exact check_plain (.inl ⟨_, _, _, q, rfl⟩) hK
  · next q => exact check_plain (.inr (.inr ⟨_, q, rfl⟩)) hK
  · next fs cs q =>
    simp only [conc, Option.map_eq_some_iff] at hK
    obtain ⟨Cs, hC, rfl⟩ := hK
    rw [Instr.checkKey]
    simp only [Sem.run_bind, run_underlying q, Result.andThen_ok]
    rw [← Array.forIn_toList]
    have := check_fields (W := W) (d := d) (em := em) hC hf
    simp at this ⊢
    rw [this]
    rfl
  · cases hf
theorem getObj_map_at {r : Nat} {es : Array MapEntry} {clock : Nat} (hb : W.heap[r]? = some (.map es clock)) : (getObj r).run P W = .ok (.map es clock) W := by
  simp [getObj, Sem.run, hb]
theorem rdM_some {k : Nat} {r : List (AV × AV × Nat) × Nat} (h : rdM k s = some (r, s1)) : s.heap.get k = some (.map r.1 r.2) ∧ s1 = { s with rd := Nat.lor s.rd (bit k) } := by
  unfold rdM at h
  split at h
  · next es c q =>
    simp only [Option.some.injEq, Prod.mk.injEq] at h
    obtain ⟨rfl, rfl⟩ := h
    exact ⟨q, rfl⟩
  · cases h
theorem lookupE_ok {t : TypeId} {x k v : AV} {X K : Value} {ok : Bool} (hev : lookupE P t x k ok s = some (v, s1)) (h : Sat M B ν s W) (hp : Pre M s s1) (hx : conc ν x = some X) (hK : conc ν k = some K) :
    Out M B ν s W ((Instr.lookup t X K ok).run P W) v s1 := by
  unfold lookupE at hev
  cases q : mapT P t with
  | none => rw [q] at hev; cases hev
  | some p =>
    obtain ⟨kt, et⟩ := p
    rw [q] at hev
    simp only at hev
    have hu := mapT_ok q
    cases q1 : keyFit P kt k with
    | false => rw [q1] at hev; cases hev
    | true =>
      rw [q1] at hev
      simp only at hev
      cases q2 : zeroT P et with
      | none => rw [q2] at hev; cases hev
      | some z =>
        rw [q2] at hev
        simp only at hev
        obtain ⟨Z, hZ, hz⟩ := run_zeroT q2 W
        have hc := fun em => checkKey_ok (P := P) (W := W) (d := 9998) (em := em) q1 hK
        split at hev
        · simp only [Option.some.injEq, Prod.mk.injEq] at hev
          obtain ⟨rfl, rfl⟩ := hev
          have := conc_map0 hx
          subst this
          obtain ⟨R, r1, r2⟩ := findKey_ok (P := P) (W := W) q1 hK (es := []) (ms := []) (r := none) rfl trivial
          cases R with
          | some _ => exact r1.elim
          | none =>
            refine Out.pure h (V := if ok = true then .tuple #[Z, .bool false] else Z) ?_ ?_
            · simp [Instr.lookup, run_underlying hu, hc, r2, hZ]
            · cases ok <;> simp [conc, concs, hz]
        · next m =>
          cases qr : rdM m s with
          | none => rw [qr] at hev; cases hev
          | some rr =>
            obtain ⟨⟨es, c⟩, s2⟩ := rr
            rw [qr] at hev
            simp only at hev
            obtain ⟨g1, g2⟩ := rdM_some qr
            simp only at g1
            have hkey : s1 = ({ s with rd := Nat.lor s.rd (bit m) } : St) → M m := fun h' => by
              rw [h'] at hp
              exact hp.rd (h.dom m ⟨_, g1⟩)
            obtain ⟨inf, hk, rfl⟩ := conc_map hx
            cases qf : findK P kt k es 0 with
            | none => rw [qf] at hev; cases hev
            | some r =>
              rw [qf] at hev
              cases r with
              | none =>
                simp only [Option.some.injEq, Prod.mk.injEq] at hev
                obtain ⟨rfl, rfl⟩ := hev
                obtain ⟨inf', hk', ms, hb, he⟩ := h.blk m _ (hkey g2) g1
                rw [hk] at hk'
                cases hk'
                have hg : (getObj inf.blk).run P W = .ok (.map ms c) W := getObj_map_at hb
                obtain ⟨R, r1, r2⟩ := findKey_ok (P := P) (W := W) q1 hK qf he
                cases R with
                | some _ => exact r1.elim
                | none =>
                  refine ⟨if ok = true then .tuple #[Z, .bool false] else Z, W, ν, ?_, ?_, Eff.same h (by rw [g2]) (by rw [g2])⟩
                  · simp [Instr.lookup, run_underlying hu, hc, r2, hZ, hg]
                  · cases ok <;> simp [conc, concs, hz]
              | some iv =>
                obtain ⟨i, v'⟩ := iv
                simp only [Option.some.injEq, Prod.mk.injEq] at hev
                obtain ⟨rfl, rfl⟩ := hev
                obtain ⟨inf', hk', ms, hb, he⟩ := h.blk m _ (hkey g2) g1
                rw [hk] at hk'
                cases hk'
                have hg : (getObj inf.blk).run P W = .ok (.map ms c) W := getObj_map_at hb
                obtain ⟨R, r1, r2⟩ := findKey_ok (P := P) (W := W) q1 hK qf he
                cases R with
                | none => exact r1.elim
                | some jv =>
                  obtain ⟨j, V⟩ := jv
                  obtain ⟨_, hV⟩ := r1
                  refine ⟨if ok = true then .tuple #[V, .bool true] else V, W, ν, ?_, ?_, Eff.same h (by rw [g2]) (by rw [g2])⟩
                  · simp [Instr.lookup, run_underlying hu, hc, r2, hg]
                  · cases ok <;> simp [conc, concs, hV]
        · cases hev
end
end Go.Proofs.YtnnalcfdeldocaaGreatDoor.X
namespace Go.Proofs.YtnnalcfdeldocaaGreatDoor.X
open Go
set_option linter.unusedVariables false
set_option linter.unusedSimpArgs false
section
variable {P : Program} {M : Nat → Prop} {B : Nat} {ν : Nu} {s s1 : St} {W : World}
theorem findK_at {kt : TypeId} {k : AV} : ∀ {es : List (AV × AV × Nat)} {i j : Nat} {v : AV}, findK P kt k es i = some (some (j, v)) → ∃ n k' b, j = i + n ∧ es[n]? = some (k', v, b) ∧ eqKey P kt k k' = some true
  | [], i, j, v, h => by simp [findK] at h
  | (k', v', b) :: es, i, j, v, h => by
    simp only [findK] at h
    cases q : eqKey P kt k k' with
    | none => rw [q] at h; cases h
    | some e =>
      rw [q] at h
      cases e with
      | true => cases h; exact ⟨0, k', b, rfl, rfl, q⟩
      | false =>
        obtain ⟨n, a, c, h1, h2, h3⟩ := findK_at h
        exact ⟨n + 1, a, c, by omega, h2, h3⟩
theorem EntsOk.append : ∀ {es : List (AV × AV × Nat)} {ms : List MapEntry} {e : AV × AV × Nat} {m : MapEntry}, EntsOk ν es ms → EntOk ν e m → EntsOk ν (es ++ [e]) (ms ++ [m])
  | [], [], _, _, _, h => ⟨h, trivial⟩
  | _ :: _, _ :: _, _, _, ⟨h1, h2⟩, h => ⟨h1, EntsOk.append h2 h⟩
  | [], _ :: _, _, _, h, _ => h.elim
  | _ :: _, [], _, _, h, _ => h.elim
theorem EntsOk.at : ∀ {es : List (AV × AV × Nat)} {ms : List MapEntry} {i : Nat} {e : AV × AV × Nat}, EntsOk ν es ms → es[i]? = some e → ∃ m, ms[i]? = some m ∧ EntOk ν e m
  | [], [], i, e, _, h => by simp at h
  | _ :: _, m :: _, 0, e, ⟨h1, h2⟩, h => by
    simp only [List.getElem?_cons_zero, Option.some.injEq] at h
    subst h
    exact ⟨m, rfl, h1⟩
  | _ :: _, _ :: _, i + 1, e, ⟨h1, h2⟩, h => by
    simp only [List.getElem?_cons_succ] at h ⊢
    exact EntsOk.at h2 h
  | [], _ :: _, _, _, h, _ => h.elim
  | _ :: _, [], _, _, h, _ => h.elim
theorem EntsOk.set {K V : Value} {v : AV} (hv : conc ν v = some V) : ∀ {es : List (AV × AV × Nat)} {ms : List MapEntry} {i : Nat}, EntsOk ν es ms → (∀ e, es[i]? = some e → conc ν e.1 = some K) → EntsOk ν (setVal es i v) (ms.modify i fun m => { m with key := K, val := V })
  | [], [], i, _, _ => by cases i <;> exact trivial
  | (a, b, c) :: es, m :: ms, 0, ⟨⟨h1, h2, h3⟩, h4⟩, hk => by
    have := hk _ rfl
    exact ⟨⟨this, hv, h3⟩, h4⟩
  | e :: es, m :: ms, i + 1, ⟨h1, h2⟩, hk => by
    have := EntsOk.set (K := K) hv (i := i) h2 (fun e' he => hk e' he)
    exact ⟨h1, this⟩
  | [], _ :: _, _, h, _ => h.elim
  | _ :: _, [], _, h, _ => h.elim
theorem strEq_eq : ∀ {a b : List Nat}, strEq a b = true → a = b
  | [], [], _ => rfl
  | [], _ :: _, h => by simp [strEq] at h
  | _ :: _, [], h => by simp [strEq] at h
  | a :: x, b :: y, h => by
    simp only [strEq] at h
    cases q : Nat.beq a b with
    | false => simp [q] at h
    | true =>
      simp only [q] at h
      rw [beq_iff.1 q, strEq_eq (a := x) (b := y) (by simpa using h)]
theorem keyBits_eq {kt : TypeId} {k k' : AV} (hb : keyBits P kt k = true) (he : eqKey P kt k k' = some true) : k' = k ∧ ((∃ a b, k = .int a b) ∨ ∃ a, k = .str a) := by
  unfold keyBits at hb
  split at hb
  · next a b q =>
    cases k' <;> simp only [eqKey, eqPlain] at he <;> first | (cases he; done) | skip
    split at he
    · next q2 =>
      have := of_decide_eq_true q2
      subst this
      simp at he
      subst he
      exact ⟨rfl, .inl ⟨_, _, rfl⟩⟩
    · cases he
  · next a q =>
    cases k' <;> simp only [eqKey, eqPlain] at he <;> first | (cases he; done) | skip
    simp only [Option.some.injEq] at he
    have := strEq_eq he
    subst this
    exact ⟨rfl, .inr ⟨_, rfl⟩⟩
  · cases hb
theorem wrM_some {k c : Nat} {es : List (AV × AV × Nat)} {u : Unit} (h : wrM k es c s = some (u, s1)) : k < 1000000 ∧ s1 = { s with heap := Tr.put 20 s.heap k (some (.map es c)), wr := Nat.lor s.wr (bit k) } := by
  unfold wrM at h
  split at h
  · split at h
    · cases h
    · next q => simp only [Option.some.injEq, Prod.mk.injEq] at h; exact ⟨blt_iff.1 q, h.2.symm⟩
  · cases h
/-- A map's entries are written. -/
theorem map_write {r c c' : Nat} {es es' : List (AV × AV × Nat)} {ms ms' : Array MapEntry} {inf : Inf} (h : Sat M B ν s W) (hM : M r) (hk : ν r = some inf) (hb : s.heap.get r = some (.map es c)) (hw : W.heap[inf.blk]? = some (.map ms c)) (hlt : r < 1000000) (hs : s1.heap = Tr.put 20 s.heap r (some (.map es' c'))) (hn : s1.next = s.next) (hwr : s1.wr = Nat.lor s.wr (bit r)) (he : EntsOk ν es' ms'.toList) :
    (setObj inf.blk (.map ms' c')).run P W = .ok () { W with heap := W.heap.setIfInBounds inf.blk (.map ms' c') } ∧ Eff M B ν ν s s1 W { W with heap := W.heap.setIfInBounds inf.blk (.map ms' c') } := by
  refine ⟨by simp [setObj, Sem.run, hw], ?_⟩
  have hlen : inf.blk < W.heap.size := (h.lt r inf hk).2
  refine Eff.write h hM hb hk hlt hs hn (fun j => by rw [hwr, testBit_lor]) (by simp) (fun j hj => ?_) ⟨ms', ?_, he⟩ rfl rfl rfl
  · exact Array.getElem?_setIfInBounds_ne (fun e => hj e.symm)
  · simp [Array.getElem?_setIfInBounds, hlen]
theorem updateE_ok {t : TypeId} {m k v u : AV} {Mv K V : Value} (hev : updateE P t m k v s = some (u, s1)) (h : Sat M B ν s W) (hp : Pre M s s1) (hm : conc ν m = some Mv) (hK : conc ν k = some K) (hV : conc ν v = some V) :
    ∃ W1, (Instr.mapUpdate t Mv K V).run P W = .ok () W1 ∧ u = .tup [] ∧ Eff M B ν ν s s1 W W1 := by
  unfold updateE at hev
  cases q : mapT P t with
  | none => rw [q] at hev; cases hev
  | some p =>
    obtain ⟨kt, et⟩ := p
    rw [q] at hev
    simp only at hev
    have hu := mapT_ok q
    cases q1 : keyFit P kt k with
    | false => rw [q1] at hev; cases hev
    | true =>
      rw [q1] at hev
      simp only at hev
      have hc := fun em => checkKey_ok (P := P) (W := W) (d := 9998) (em := em) q1 hK
      cases m <;> simp only at hev <;> first | (cases hev; done) | skip
      rename_i r
      obtain ⟨inf, hk, rfl⟩ := conc_map hm
      cases qr : rdM r s with
      | none => rw [qr] at hev; cases hev
      | some rr =>
        obtain ⟨⟨es, c⟩, s2⟩ := rr
        rw [qr] at hev
        simp only at hev
        obtain ⟨g1, rfl⟩ := rdM_some qr
        simp only at g1
        have hr : r < s.next := h.dom r ⟨_, g1⟩
        cases qf : findK P kt k es 0 with
        | none => rw [qf] at hev; cases hev
        | some fr =>
          rw [qf] at hev
          cases fr with
          | none =>
            simp only at hev
            cases qw : wrM r (es ++ [(k, v, c)]) (c + 1) { s with rd := Nat.lor s.rd (bit r) } with
            | none => rw [qw] at hev; cases hev
            | some pw =>
              obtain ⟨u', s3⟩ := pw
              rw [qw] at hev
              simp only [Option.some.injEq, Prod.mk.injEq] at hev
              obtain ⟨rfl, rfl⟩ := hev
              obtain ⟨hlt, rfl⟩ := wrM_some qw
              have hM : M r := hp r hr (.inr (by show (Nat.lor s.wr (bit r)).testBit r = true; rw [testBit_lor]; simp))
              obtain ⟨inf', hk', ms, hb, he⟩ := h.blk r _ hM g1
              rw [hk] at hk'
              cases hk'
              obtain ⟨R, r1, r2⟩ := findKey_ok (P := P) (W := W) q1 hK qf he
              cases R with
              | some _ => exact r1.elim
              | none =>
                obtain ⟨w1, w2⟩ := map_write (P := P) (s1 := { s with rd := Nat.lor s.rd (bit r), heap := Tr.put 20 s.heap r (some (.map (es ++ [(k, v, c)]) (c + 1))), wr := Nat.lor s.wr (bit r) }) (ms' := ms.push { key := K, val := V, born := c }) h hM hk g1 hb hlt rfl rfl rfl (by rw [Array.toList_push]; exact EntsOk.append he ⟨hK, hV, rfl⟩)
                exact ⟨_, by simp [Instr.mapUpdate, run_underlying hu, hc, r2, getObj_map_at hb, w1], rfl, w2⟩
          | some iv =>
            obtain ⟨i, v'⟩ := iv
            simp only at hev
            cases qk : keyBits P kt k with
            | false => rw [qk] at hev; cases hev
            | true =>
              rw [qk] at hev
              simp only at hev
              cases qw : wrM r (setVal es i v) c { s with rd := Nat.lor s.rd (bit r) } with
              | none => rw [qw] at hev; cases hev
              | some pw =>
                obtain ⟨u', s3⟩ := pw
                rw [qw] at hev
                simp only [Option.some.injEq, Prod.mk.injEq] at hev
                obtain ⟨rfl, rfl⟩ := hev
                obtain ⟨hlt, rfl⟩ := wrM_some qw
                have hM : M r := hp r hr (.inr (by show (Nat.lor s.wr (bit r)).testBit r = true; rw [testBit_lor]; simp))
                obtain ⟨inf', hk', ms, hb, he⟩ := h.blk r _ hM g1
                rw [hk] at hk'
                cases hk'
                obtain ⟨R, r1, r2⟩ := findKey_ok (P := P) (W := W) q1 hK qf he
                cases R with
                | none => exact r1.elim
                | some jv =>
                  obtain ⟨j, V0⟩ := jv
                  obtain ⟨rfl, _⟩ := r1
                  obtain ⟨n, k', b, hn, hat, heq⟩ := findK_at qf
                  obtain rfl : n = i := by omega
                  obtain ⟨rfl, hkind⟩ := keyBits_eq qk heq
                  obtain ⟨m0, hm0, hk0, hv0, hb0⟩ := EntsOk.at he hat
                  simp only at hk0
                  rw [hK] at hk0
                  cases hk0
                  have hstay : (Instr.keyThatStays m0.key m0.key).run P W = .ok m0.key W := by
                    rcases hkind with ⟨a, b', rfl⟩ | ⟨a, rfl⟩
                    · simp only [conc, Option.some.injEq] at hK
                      simp [Instr.keyThatStays, ← hK, Instr.sameBits]
                    · obtain ⟨_, e⟩ := conc_str hK
                      have hbb : (bytesOf a == bytesOf a) = true := by
                        change ((bytesOf a).data == (bytesOf a).data) = true
                        simp
                      simp [Instr.keyThatStays, e, Instr.sameBits, hbb]
                  have hm1 : ms[n]? = some m0 := by rw [← Array.getElem?_toList]; exact hm0
                  obtain ⟨w1, w2⟩ := map_write (P := P) (s1 := { s with rd := Nat.lor s.rd (bit r), heap := Tr.put 20 s.heap r (some (.map (setVal es n v) c)), wr := Nat.lor s.wr (bit r) }) (ms' := ms.modify n fun e => { e with key := m0.key, val := V }) h hM hk g1 hb hlt rfl rfl rfl (by rw [Array.toList_modify]; exact EntsOk.set hV he (fun e he' => by rw [hat] at he'; cases he'; exact hK))
                  exact ⟨_, by simp [Instr.mapUpdate, run_underlying hu, hc, r2, getObj_map_at hb, hm1, hstay, w1], rfl, w2⟩
end
end Go.Proofs.YtnnalcfdeldocaaGreatDoor.X
namespace Go.Proofs.YtnnalcfdeldocaaGreatDoor.X
open Go
set_option linter.unusedVariables false
set_option linter.unusedSimpArgs false
section
variable {P : Program} {M : Nat → Prop} {B : Nat} {ν : Nu} {s s1 : St} {W : World}
theorem newB_iter {k : Nat} {m : Option Nat} {since last : Nat} {seen : List Nat} {r : Option Nat} (hev : newB (.iter m since seen last) s = some (k, s1)) (h : Sat M B ν s W) (hB : B ≤ W.heap.size) (hr : match m with | none => r = none | some k => ∃ i, ν k = some i ∧ r = some i.blk) :
    Eff M B ν (ν.add s.next ⟨W.heap.size, 0, 0⟩) s s1 W (W.alloc (.mapIter r since seen.toArray last)) ∧ k = s.next := by
  obtain ⟨rfl, h1, h2, rfl⟩ := newB_some.1 hev
  have hle := Nu.le_add h.noNext (⟨W.heap.size, 0, 0⟩ : Inf)
  refine ⟨Eff.alloc h h2 hB rfl rfl (o := .mapIter r since seen.toArray last) rfl ⟨r, by change (W.heap.push _)[W.heap.size]? = _; simp, ?_, rfl⟩ rfl rfl rfl, rfl⟩
  cases m with
  | none => exact hr
  | some k => obtain ⟨i, a, b⟩ := hr; exact ⟨i, hle _ _ a, b⟩
theorem rangeE_ok {t : TypeId} {x v : AV} {X : Value} (hev : rangeE P t x s = some (v, s1)) (h : Sat M B ν s W) (hB : B ≤ W.heap.size) (hp : Pre M s s1) (hx : conc ν x = some X) :
    Out M B ν s W ((Instr.range t X).run P W) v s1 := by
  unfold rangeE at hev
  cases q : mapT P t with
  | none => rw [q] at hev; cases hev
  | some p =>
    obtain ⟨kt, et⟩ := p
    rw [q] at hev
    simp only at hev
    have hu := mapT_ok q
    cases x <;> simp only at hev <;> first | (cases hev; done) | skip
    · cases qn : newB (.iter none 0 [] 0) s with
      | none => rw [qn] at hev; cases hev
      | some pn =>
        obtain ⟨k, s2⟩ := pn
        rw [qn] at hev
        simp only [Option.some.injEq, Prod.mk.injEq] at hev
        obtain ⟨rfl, rfl⟩ := hev
        have := conc_map0 hx
        subst this
        obtain ⟨hE, rfl⟩ := newB_iter qn h hB (r := none) rfl
        exact ⟨.pointer (some ⟨W.heap.size, 0, none⟩), _, _, by simp [Instr.range, run_underlying hu], by simp [conc, Nu.add], hE⟩
    · rename_i m
      obtain ⟨inf, hk, rfl⟩ := conc_map hx
      cases qr : rdM m s with
      | none => rw [qr] at hev; cases hev
      | some rr =>
        obtain ⟨⟨es, c⟩, s2⟩ := rr
        rw [qr] at hev
        simp only at hev
        obtain ⟨g1, rfl⟩ := rdM_some qr
        simp only at g1
        cases qn : newB (.iter (some m) c [] c) { s with rd := Nat.lor s.rd (bit m) } with
        | none => rw [qn] at hev; cases hev
        | some pn =>
          obtain ⟨k, s3⟩ := pn
          rw [qn] at hev
          simp only [Option.some.injEq, Prod.mk.injEq] at hev
          obtain ⟨rfl, rfl⟩ := hev
          have hm : m < s.next := h.dom m ⟨_, g1⟩
          have hM : M m := by
            obtain ⟨_, _, _, e⟩ := newB_some.1 qn
            refine hp m hm (.inl ?_)
            rw [e]
            show (Nat.lor s.rd (bit m)).testBit m = true
            rw [testBit_lor]; simp
          obtain ⟨inf', hk', ms, hb, he⟩ := h.blk m _ hM g1
          rw [hk] at hk'
          cases hk'
          have e1 := Eff.same (s1 := { s with rd := Nat.lor s.rd (bit m) }) h rfl rfl
          obtain ⟨hE, rfl⟩ := newB_iter qn (h.same rfl rfl : Sat M B ν { s with rd := Nat.lor s.rd (bit m) } W) hB (r := some inf.blk) ⟨inf, hk, rfl⟩
          refine ⟨.pointer (some ⟨W.heap.size, 0, none⟩), W.alloc (.mapIter (some inf.blk) c #[] c), ν.add s.next ⟨W.heap.size, 0, 0⟩, by simp [Instr.range, run_underlying hu, getObj_map_at hb], by simp [conc, Nu.add], ?_⟩
          exact ⟨hE.sat, hE.ext, hE.new, hE.frame, hE.size, hE.os, hE.tape, hE.output⟩
end
end Go.Proofs.YtnnalcfdeldocaaGreatDoor.X
namespace Go.Proofs.YtnnalcfdeldocaaGreatDoor.X
open Go
set_option linter.unusedVariables false
set_option linter.unusedSimpArgs false
section
variable {P : Program} {M : Nat → Prop} {B : Nat} {ν : Nu} {s s1 : St} {W : World}
theorem EntsOk.filter (p : Nat → Bool) : ∀ {es : List (AV × AV × Nat)} {ms : List MapEntry}, EntsOk ν es ms → EntsOk ν (es.filter fun e => p e.2.2) (ms.filter fun m => p m.born)
  | [], [], _ => trivial
  | e :: es, m :: ms, ⟨⟨h1, h2, h3⟩, h4⟩ => by
    have ih := EntsOk.filter p h4
    simp only [List.filter_cons, h3]
    cases p m.born with
    | true => exact ⟨⟨h1, h2, h3⟩, ih⟩
    | false => exact ih
  | [], _ :: _, h => h.elim
  | _ :: _, [], h => h.elim
theorem EntsOk.all (p : Nat → Bool) : ∀ {es : List (AV × AV × Nat)} {ms : List MapEntry}, EntsOk ν es ms → (es.all fun e => p e.2.2) = ms.all fun m => p m.born
  | [], [], _ => rfl
  | e :: es, m :: ms, ⟨⟨h1, h2, h3⟩, h4⟩ => by
    have ih := EntsOk.all p h4
    simp only [List.all_cons, h3, ih]
  | [], _ :: _, h => h.elim
  | _ :: _, [], h => h.elim
theorem run_next_none {r since c0 : Nat} {seen : Array Nat} {ty : TypeId} (hr : W.heap[r]? = some (.mapIter none since seen c0)) : (Instr.next (.pointer (some ⟨r, 0, none⟩)) false ty).run P W = .ok (.tuple #[.bool false]) W := by
  simp [Instr.next, getObj, Sem.run, hr]
theorem run_next_over {r bm since c0 clock : Nat} {seen : Array Nat} {es : Array MapEntry} {ty : TypeId} (hr : W.heap[r]? = some (.mapIter (some bm) since seen c0)) (hb : W.heap[bm]? = some (.map es clock)) (hg : (!seen.isEmpty && !es.isEmpty && es.all (fun e => decide (e.born ≥ c0))) = false) (hl : es.filter (fun e => !seen.contains e.born) = #[]) :
    (Instr.next (.pointer (some ⟨r, 0, none⟩)) false ty).run P W = .ok (.tuple #[.bool false]) W := by
  simp only [Instr.next, getObj, Sem.run_bind, Sem.run, hr, hb, Result.andThen, hg, Bool.false_eq_true, if_false, hl]
  simp [choose, Sem.run, Question.forced]
theorem run_next_one {r bm since c0 clock : Nat} {seen : Array Nat} {es : Array MapEntry} {ty : TypeId} {e : MapEntry} (hr : W.heap[r]? = some (.mapIter (some bm) since seen c0)) (hb : W.heap[bm]? = some (.map es clock)) (hg : (!seen.isEmpty && !es.isEmpty && es.all (fun e => decide (e.born ≥ c0))) = false) (hl : es.filter (fun e => !seen.contains e.born) = #[e]) (he : e.born < since) :
    (Instr.next (.pointer (some ⟨r, 0, none⟩)) false ty).run P W = .ok (.tuple #[.bool true, e.key, e.val]) { W with heap := W.heap.setIfInBounds r (.mapIter (some bm) since (seen.push e.born) clock) } := by
  have e1 : (#[e] : Array MapEntry).filter (fun x => decide (x.born < since)) = #[e] := by simp [he]
  have e2 : (#[e] : Array MapEntry).filter (fun x => decide (x.born ≥ since)) = #[] := by
    have : ¬ since ≤ e.born := by omega
    simp [this]
  simp only [Instr.next, getObj, Sem.run_bind, Sem.run, hr, hb, Result.andThen, hg, Bool.false_eq_true, if_false, hl, e1, e2]
  simp [choose, Sem.run, Question.forced, setObj, hr]
theorem nextE_ok {ty : TypeId} {x v : AV} {X : Value} (hev : nextE x s = some (v, s1)) (h : Sat M B ν s W) (hp : Pre M s s1) (hx : conc ν x = some X) :
    Out M B ν s W ((Instr.next X false ty).run P W) v s1 := by
  unfold nextE at hev
  split at hev
  · next k =>
    obtain ⟨inf, hk, rfl⟩ := conc_ptr hx
    cases q : s.heap.get k with
    | none => rw [q] at hev; cases hev
    | some b =>
      rw [q] at hev
      cases b with
      | cells _ _ _ _ => cases hev
      | map _ _ => cases hev
      | loop _ _ _ _ _ _ _ _ => cases hev
      | dfr => cases hev
      | iter om since seen last =>
      have hkn : k < s.next := h.dom k ⟨_, q⟩
      cases om with
      | none =>
        simp only [Option.some.injEq, Prod.mk.injEq] at hev
        obtain ⟨rfl, rfl⟩ := hev
        obtain ⟨inf', hk', r, hb, hr, h0⟩ := h.blk k _ (hp.rd hkn) q
        rw [hk] at hk'
        cases hk'
        subst hr
        refine ⟨.tuple #[.bool false], W, ν, ?_, by simp [conc, concs], Eff.same h rfl rfl⟩
        rw [h0]
        exact run_next_none hb
      | some m =>
        simp only at hev
        cases qr : rdM m { s with rd := Nat.lor s.rd (bit k) } with
        | none => rw [qr] at hev; cases hev
        | some rr =>
          obtain ⟨⟨es, c⟩, s2⟩ := rr
          rw [qr] at hev
          simp only at hev
          obtain ⟨g1, rfl⟩ := rdM_some qr
          simp only at g1
          have hmn : m < s.next := h.dom m ⟨_, g1⟩
          have key : ∀ z : St, s1 = z → z.rd = Nat.lor (Nat.lor s.rd (bit k)) (bit m) → M k ∧ M m := fun z e1 e2 => by
            subst e1
            refine ⟨hp k hkn (.inl ?_), hp m hmn (.inl ?_)⟩
            · rw [e2, testBit_lor, testBit_lor]; simp
            · rw [e2, testBit_lor]; simp
          have got : M k ∧ M m → ∃ ms infm, ν m = some infm ∧ W.heap[inf.blk]? = some (.mapIter (some infm.blk) since seen.toArray last) ∧ inf.off = 0 ∧ W.heap[infm.blk]? = some (.map ms c) ∧ EntsOk ν es ms.toList := fun ⟨hMk, hMm⟩ => by
            obtain ⟨inf', hk', r, hb, ⟨i, hi, rfl⟩, h0⟩ := h.blk k _ hMk q
            rw [hk] at hk'
            cases hk'
            obtain ⟨infm, hkm, ms, hbm, he⟩ := h.blk m _ hMm g1
            rw [hkm] at hi
            cases hi
            exact ⟨ms, _, hkm, hb, h0, hbm, he⟩
          have flt : ∀ ms : Array MapEntry, EntsOk ν es ms.toList → EntsOk ν (es.filter fun e => !seen.contains e.2.2) (ms.filter fun e => !seen.toArray.contains e.born).toList := fun ms he => by
            rw [Array.toList_filter]
            have := EntsOk.filter (fun n => !seen.contains n) he
            simpa using this
          have noGuard : ∀ ms : Array MapEntry, EntsOk ν es ms.toList → (seen.isEmpty || !es.all (fun e => Nat.ble last e.2.2)) = true → (!seen.toArray.isEmpty && !ms.isEmpty && ms.all (fun e => decide (e.born ≥ last))) = false := fun ms he hg => by
            have ha := EntsOk.all (fun n => Nat.ble last n) he
            rw [ha] at hg
            have e3 : (ms.all fun e => decide (e.born ≥ last)) = ms.toList.all fun m => Nat.ble last m.born := by
              rw [← Array.all_toList]
              congr 1
              funext e
              cases q9 : Nat.ble last e.born with
              | true => simpa using Nat.le_of_ble_eq_true q9
              | false => simp; exact Nat.lt_of_not_le (fun u => by rw [Nat.ble_eq_true_of_le u] at q9; cases q9)
            rw [e3]
            cases hs : seen.isEmpty <;> cases hh : (ms.toList.all fun m => Nat.ble last m.born) <;> simp_all
          split at hev
          · simp only [Option.some.injEq, Prod.mk.injEq] at hev
            obtain ⟨rfl, rfl⟩ := hev
            obtain ⟨ms, infm, hkm, hb, h0, hbm, he⟩ := got (key _ rfl rfl)
            have hms : ms = #[] := by
              cases hL : ms.toList with
              | nil => exact Array.toList_eq_nil_iff.1 hL
              | cons _ _ => rw [hL] at he; exact he.elim
            subst hms
            refine ⟨.tuple #[.bool false], W, ν, ?_, by simp [conc, concs], Eff.same h rfl rfl⟩
            rw [h0]
            exact run_next_over hb hbm (by simp) (by simp)
          · next a b n rest =>
            split at hev
            · cases hev
            · next hg =>
              split at hev
              · next hf =>
                simp only [Option.some.injEq, Prod.mk.injEq] at hev
                obtain ⟨rfl, rfl⟩ := hev
                obtain ⟨ms, infm, hkm, hb, h0, hbm, he⟩ := got (key _ rfl rfl)
                have hfl := flt ms he
                rw [hf] at hfl
                have hms : (ms.filter fun e => !seen.toArray.contains e.born) = #[] := by
                  cases hL : (ms.filter fun e => !seen.toArray.contains e.born).toList with
                  | nil => exact Array.toList_eq_nil_iff.1 hL
                  | cons _ _ => rw [hL] at hfl; exact hfl.elim
                refine ⟨.tuple #[.bool false], W, ν, ?_, by simp [conc, concs], Eff.same h rfl rfl⟩
                rw [h0]
                exact run_next_over hb hbm (noGuard ms he hg) hms
              · next a' b' n' hf =>
                split at hev
                · cases hev
                · next hlt =>
                  simp only [Bool.and_eq_true, blt_iff] at hlt
                  simp only [Option.some.injEq, Prod.mk.injEq] at hev
                  obtain ⟨rfl, rfl⟩ := hev
                  obtain ⟨hMk, hMm⟩ := key _ rfl rfl
                  obtain ⟨ms, infm, hkm, hb, h0, hbm, he⟩ := got ⟨hMk, hMm⟩
                  have hfl := flt ms he
                  rw [hf] at hfl
                  obtain ⟨e, hms, h1, h2, h3⟩ : ∃ e, (ms.filter fun e => !seen.toArray.contains e.born) = #[e] ∧ EntOk ν (a', b', n') e := by
                    cases hL : (ms.filter fun e => !seen.toArray.contains e.born).toList with
                    | nil => rw [hL] at hfl; exact hfl.elim
                    | cons e L =>
                      rw [hL] at hfl
                      cases L with
                      | nil => exact ⟨e, Array.toList_inj.1 hL, hfl.1⟩
                      | cons _ _ => exact hfl.2.elim
                  simp only at h1 h2 h3
                  subst h3
                  have hlen : inf.blk < W.heap.size := (h.lt k inf hk).2
                  refine ⟨.tuple #[.bool true, e.key, e.val], { W with heap := W.heap.setIfInBounds inf.blk (.mapIter (some infm.blk) since (seen.toArray.push e.born) c) }, ν, ?_, by simp [conc, concs, h1, h2], ?_⟩
                  · rw [h0]
                    exact run_next_one hb hbm (noGuard ms he hg) hms hlt.1
                  · refine Eff.write h hMk q hk hlt.2 rfl rfl (fun j => by simp only [testBit_lor]) (by simp) (fun j hj => ?_) ⟨some infm.blk, ?_, ⟨infm, hkm, rfl⟩, h0⟩ rfl rfl rfl
                    · exact Array.getElem?_setIfInBounds_ne (fun e => hj e.symm)
                    · simp [Array.getElem?_setIfInBounds, hlen]
              · cases hev
  · cases hev
end
end Go.Proofs.YtnnalcfdeldocaaGreatDoor.X
namespace Go.Proofs.YtnnalcfdeldocaaGreatDoor.X
open Go
set_option linter.unusedVariables false
set_option linter.unusedSimpArgs false
section
variable {P : Program} {M : Nat → Prop} {B : Nat} {ν : Nu} {s s1 : St} {W : World}
theorem EntsOk.find (st : Nat) : ∀ {es : List (AV × AV × Nat)} {ms : List MapEntry} {e : AV × AV × Nat}, EntsOk ν es ms → es.find? (fun e => Nat.beq e.2.2 st) = some e → ∃ m, ms.find? (fun m => m.born == st) = some m ∧ EntOk ν e m
  | [], [], _, _, h => by simp at h
  | e :: es, m :: ms, e', ⟨⟨h1, h2, h3⟩, h4⟩, h => by
    simp only [List.find?_cons] at h ⊢
    cases q : Nat.beq e.2.2 st with
    | true =>
      rw [q] at h
      cases h
      have : m.born = st := h3 ▸ beq_iff.1 q
      exact ⟨m, by simp [this], h1, h2, h3⟩
    | false =>
      rw [q] at h
      obtain ⟨m', a, b⟩ := EntsOk.find st h4 h
      have : ¬ m.born = st := fun u => by
        rw [← h3] at u
        rw [beq_iff.2 u] at q
        cases q
      have hb9 : (m.born == st) = false := by simpa using this
      exact ⟨m', by rw [hb9]; exact a, b⟩
  | [], _ :: _, _, h, _ => h.elim
  | _ :: _, [], _, h, _ => h.elim
theorem entryE_ok {x v : AV} {X : Value} (hev : entryE x s = some (v, s1)) (h : Sat M B ν s W) (hp : Pre M s s1) (hx : conc ν x = some X) :
    Out M B ν s W ((Instr.entry X).run P W) v s1 := by
  unfold entryE at hev
  split at hev
  · next k =>
    obtain ⟨inf, hk, rfl⟩ := conc_ptr hx
    split at hev
    · next m since seen last q =>
      cases ql : seen.getLast? with
      | none => rw [ql] at hev; cases hev
      | some st =>
        rw [ql] at hev
        simp only at hev
        cases qr : rdM m { s with rd := Nat.lor s.rd (bit k) } with
        | none => rw [qr] at hev; cases hev
        | some rr =>
          obtain ⟨⟨es, c⟩, s2⟩ := rr
          rw [qr] at hev
          simp only at hev
          obtain ⟨g1, rfl⟩ := rdM_some qr
          simp only at g1
          have hmn : m < s.next := h.dom m ⟨_, g1⟩
          have hkn : k < s.next := h.dom k ⟨_, q⟩
          cases qc : Nat.beq c last with
          | false => rw [qc] at hev; cases hev
          | true =>
            rw [qc] at hev
            simp only at hev
            have hcl := beq_iff.1 qc
            cases qf : es.find? (fun e => Nat.beq e.2.2 st) with
            | none => rw [qf] at hev; cases hev
            | some e =>
              rw [qf] at hev
              obtain ⟨a, b, n⟩ := e
              simp only [Option.some.injEq, Prod.mk.injEq] at hev
              obtain ⟨rfl, rfl⟩ := hev
              have hMk : M k := hp k hkn (.inl (by show (Nat.lor (Nat.lor s.rd (bit k)) (bit m)).testBit k = true; rw [testBit_lor, testBit_lor]; simp))
              have hMm : M m := hp m hmn (.inl (by show (Nat.lor (Nat.lor s.rd (bit k)) (bit m)).testBit m = true; rw [testBit_lor]; simp))
              obtain ⟨inf', hk', r, hb, ⟨i, hi, rfl⟩, h0⟩ := h.blk k _ hMk q
              rw [hk] at hk'
              cases hk'
              obtain ⟨infm, hkm, ms, hbm, he⟩ := h.blk m _ hMm g1
              rw [hi] at hkm
              cases hkm
              obtain ⟨e, f1, f2, f3, f4⟩ := EntsOk.find st he qf
              have f5 : ms.find? (fun m => m.born == st) = some e := by rw [← Array.find?_toList]; exact f1
              refine ⟨.tuple #[e.key, e.val], W, ν, ?_, ?_, Eff.same h rfl rfl⟩
              · rw [h0]
                simp only at f2 f3
                simp [Instr.entry, getObj, Sem.run, hb, hbm, ql, hcl, f5]
              · simp only at f2 f3
                simp [conc, concs, f2, f3]
    · cases hev
  · cases hev
end
end Go.Proofs.YtnnalcfdeldocaaGreatDoor.X
namespace Go.Proofs.YtnnalcfdeldocaaGreatDoor.X
open Go
set_option linter.unusedVariables false
set_option linter.unusedSimpArgs false
section
variable {P : Program} {M : Nat → Prop} {B : Nat} {ν : Nu} {s s1 : St} {W : World}
theorem EntsOk.len : ∀ {es : List (AV × AV × Nat)} {ms : List MapEntry}, EntsOk ν es ms → lenE es = ms.length
  | [], [], _ => rfl
  | e :: es, m :: ms, ⟨_, h⟩ => by simp only [lenE, List.length_cons, EntsOk.len h]
  | [], _ :: _, h => h.elim
  | _ :: _, [], h => h.elim
theorem len_ok {ats : List TypeId} {ty : TypeId} {x v : AV} {X : Value} (hev : builtinE P .len ats [x] s = some (v, s1)) (h : Sat M B ν s W) (hp : Pre M s s1) (hx : conc ν x = some X) :
    Out M B ν s W ((Builtin.len_ ats.toArray ty #[X]).run P W) v s1 := by
  simp only [builtinE] at hev
  cases qt : ats[0]? with
  | none => rw [qt] at hev; cases hev
  | some t =>
    rw [qt] at hev
    simp only at hev
    have qt' : ats.toArray[0]? = some t := by rw [List.getElem?_toArray]; exact qt
    split at hev
    · next e q =>
      cases hev
      have := conc_slice0 hx
      subst this
      exact Out.pure h (V := .int .i64 0) (by simp [Builtin.len_, qt', qt, run_underlying q, goInt]) (by simp [conc])
    · next e k i n cap q =>
      cases hev
      obtain ⟨inf, c, hk, rfl, _, _⟩ := conc_slice hx
      exact Out.pure h (V := .int .i64 n) (by simp [Builtin.len_, qt', qt, run_underlying q, goInt]) (by simp [conc])
    · next b q =>
      cases hev
      obtain ⟨_, rfl⟩ := conc_str hx
      exact Out.pure h (V := .int .i64 b.length) (by simp [Builtin.len_, qt', qt, run_underlying q, goInt, bytesOf_size]) (by simp [conc])
    · next b q =>
      cases hev
      obtain ⟨A, hA, rfl⟩ := conc_sstr hx
      have e := bytesS_length' hA
      exact Out.pure h (V := .int .i64 b.length) (by simp [Builtin.len_, qt', qt, run_underlying q, goInt, e]) (by simp [conc])
    · next q =>
      cases hev
      have := conc_map0 hx
      subst this
      exact Out.pure h (V := .int .i64 0) (by simp [Builtin.len_, qt', qt, run_underlying q, goInt]) (by simp [conc])
    · next m q =>
      obtain ⟨inf, hk, rfl⟩ := conc_map hx
      cases qr : rdM m s with
      | none => rw [qr] at hev; cases hev
      | some rr =>
        obtain ⟨⟨es, c⟩, s2⟩ := rr
        rw [qr] at hev
        simp only [Option.some.injEq, Prod.mk.injEq] at hev
        obtain ⟨rfl, rfl⟩ := hev
        obtain ⟨g1, rfl⟩ := rdM_some qr
        simp only at g1
        have hM : M m := hp.rd (h.dom m ⟨_, g1⟩)
        obtain ⟨inf', hk', ms, hb, he⟩ := h.blk m _ hM g1
        rw [hk] at hk'
        cases hk'
        refine ⟨.int .i64 ms.size, W, ν, by simp [Builtin.len_, qt', qt, run_underlying q, goInt, getObj_map_at hb], ?_, Eff.same h rfl rfl⟩
        simp [conc, he.len]
    · cases hev
end
end Go.Proofs.YtnnalcfdeldocaaGreatDoor.X
namespace Go.Proofs.YtnnalcfdeldocaaGreatDoor.X
open Go
set_option linter.unusedVariables false
set_option linter.unusedSimpArgs false
section
variable {P : Program} {M : Nat → Prop} {B : Nat} {ν : Nu} {s s1 : St} {W : World}
theorem EntsOk.erase : ∀ {es : List (AV × AV × Nat)} {ms : List MapEntry} {i : Nat}, EntsOk ν es ms → EntsOk ν (es.eraseIdx i) (ms.eraseIdx i)
  | [], [], i, _ => by simp; trivial
  | _ :: _, _ :: _, 0, ⟨_, h⟩ => h
  | e :: es, m :: ms, i + 1, ⟨h1, h2⟩ => ⟨h1, EntsOk.erase h2⟩
  | [], _ :: _, _, h => h.elim
  | _ :: _, [], _, h => h.elim
theorem min_ok {ats : List TypeId} {ty : TypeId} {x y v : AV} {X Y : Value} (hev : builtinE P .min ats [x, y] s = some (v, s1)) (h : Sat M B ν s W) (hx : conc ν x = some X) (hy : conc ν y = some Y) :
    Out M B ν s W ((Builtin.min_ ats.toArray ty #[X, Y]).run P W) v s1 := by
  cases x <;> cases y <;> simp only [builtinE] at hev <;> first | (cases hev; done) | skip
  cases hev
  simp only [conc, Option.some.injEq] at hx hy
  subst hx; subst hy
  exact Out.pure h (by simp [Builtin.min_, Builtin.min2]; rfl) (by simp [conc])
theorem max_ok {ats : List TypeId} {ty : TypeId} {x y v : AV} {X Y : Value} (hev : builtinE P .max ats [x, y] s = some (v, s1)) (h : Sat M B ν s W) (hx : conc ν x = some X) (hy : conc ν y = some Y) :
    Out M B ν s W ((Builtin.max_ ats.toArray ty #[X, Y]).run P W) v s1 := by
  cases x <;> cases y <;> simp only [builtinE] at hev <;> first | (cases hev; done) | skip
  cases hev
  simp only [conc, Option.some.injEq] at hx hy
  subst hx; subst hy
  exact Out.pure h (by simp [Builtin.max_, Builtin.max2]; rfl) (by simp [conc])
end
end Go.Proofs.YtnnalcfdeldocaaGreatDoor.X
namespace Go.Proofs.YtnnalcfdeldocaaGreatDoor.X
open Go
set_option linter.unusedVariables false
set_option linter.unusedSimpArgs false
section
variable {P : Program} {M : Nat → Prop} {B : Nat} {ν : Nu} {s s1 : St} {W : World}
theorem delete_ok {ats : List TypeId} {ty : TypeId} {m k u : AV} {Mv K : Value} (hev : builtinE P .delete ats [m, k] s = some (u, s1)) (h : Sat M B ν s W) (hp : Pre M s s1) (hm : conc ν m = some Mv) (hK : conc ν k = some K) :
    Out M B ν s W ((Builtin.delete_ ats.toArray ty #[Mv, K]).run P W) u s1 := by
  simp only [builtinE] at hev
  cases qt : ats[0]? with
  | none => rw [qt] at hev; cases hev
  | some t =>
    rw [qt] at hev
    simp only at hev
    have qt' : ats.toArray[0]? = some t := by rw [List.getElem?_toArray]; exact qt
    cases q : mapT P t with
    | none => rw [q] at hev; cases hev
    | some p =>
      obtain ⟨kt, et⟩ := p
      rw [q] at hev
      simp only at hev
      have hu := mapT_ok q
      cases q1 : keyFit P kt k with
      | false => rw [q1] at hev; cases hev
      | true =>
        rw [q1] at hev
        simp only at hev
        have hc := fun em => checkKey_ok (P := P) (W := W) (d := 9998) (em := em) q1 hK
        cases m <;> simp only at hev <;> first | (cases hev; done) | skip
        rename_i r
        obtain ⟨inf, hk, rfl⟩ := conc_map hm
        cases qr : rdM r s with
        | none => rw [qr] at hev; cases hev
        | some rr =>
          obtain ⟨⟨es, c⟩, s2⟩ := rr
          rw [qr] at hev
          simp only at hev
          obtain ⟨g1, rfl⟩ := rdM_some qr
          simp only at g1
          have hr : r < s.next := h.dom r ⟨_, g1⟩
          cases qf : findK P kt k es 0 with
          | none => rw [qf] at hev; cases hev
          | some fr =>
            rw [qf] at hev
            cases fr with
            | none =>
              simp only at hev
              cases qw : wrM r es c { s with rd := Nat.lor s.rd (bit r) } with
              | none => rw [qw] at hev; cases hev
              | some pw =>
                obtain ⟨u', s3⟩ := pw
                rw [qw] at hev
                simp only [Option.some.injEq, Prod.mk.injEq] at hev
                obtain ⟨rfl, rfl⟩ := hev
                obtain ⟨hlt, rfl⟩ := wrM_some qw
                have hM : M r := hp r hr (.inr (by show (Nat.lor s.wr (bit r)).testBit r = true; rw [testBit_lor]; simp))
                obtain ⟨inf', hk', ms, hb, he⟩ := h.blk r _ hM g1
                rw [hk] at hk'
                cases hk'
                obtain ⟨R, r1, r2⟩ := findKey_ok (P := P) (W := W) q1 hK qf he
                cases R with
                | some _ => exact r1.elim
                | none =>
                  obtain ⟨w1, w2⟩ := map_write (P := P) (s1 := { s with rd := Nat.lor s.rd (bit r), heap := Tr.put 20 s.heap r (some (.map es c)), wr := Nat.lor s.wr (bit r) }) (ms' := ms) h hM hk g1 hb hlt rfl rfl rfl he
                  exact ⟨.tuple #[], _, ν, by simp [Builtin.delete_, qt', qt, run_underlying hu, hc, r2, getObj_map_at hb, w1], by simp [conc, concs], w2⟩
            | some iv =>
              obtain ⟨i, v'⟩ := iv
              simp only at hev
              cases qw : wrM r (es.eraseIdx i) c { s with rd := Nat.lor s.rd (bit r) } with
              | none => rw [qw] at hev; cases hev
              | some pw =>
                obtain ⟨u', s3⟩ := pw
                rw [qw] at hev
                simp only [Option.some.injEq, Prod.mk.injEq] at hev
                obtain ⟨rfl, rfl⟩ := hev
                obtain ⟨hlt, rfl⟩ := wrM_some qw
                have hM : M r := hp r hr (.inr (by show (Nat.lor s.wr (bit r)).testBit r = true; rw [testBit_lor]; simp))
                obtain ⟨inf', hk', ms, hb, he⟩ := h.blk r _ hM g1
                rw [hk] at hk'
                cases hk'
                obtain ⟨R, r1, r2⟩ := findKey_ok (P := P) (W := W) q1 hK qf he
                cases R with
                | none => exact r1.elim
                | some jv =>
                  obtain ⟨j, V0⟩ := jv
                  obtain ⟨rfl, _⟩ := r1
                  obtain ⟨w1, w2⟩ := map_write (P := P) (s1 := { s with rd := Nat.lor s.rd (bit r), heap := Tr.put 20 s.heap r (some (.map (es.eraseIdx i) c)), wr := Nat.lor s.wr (bit r) }) (ms' := ms.eraseIdxIfInBounds i) h hM hk g1 hb hlt rfl rfl rfl (by
                    have e1 : (ms.eraseIdxIfInBounds i).toList = ms.toList.eraseIdx i := by
                      unfold Array.eraseIdxIfInBounds
                      split
                      · simp
                      · next g => rw [List.eraseIdx_of_length_le (by simpa using g)]
                    rw [e1]
                    exact he.erase)
                  exact ⟨.tuple #[], _, ν, by simp [Builtin.delete_, qt', qt, run_underlying hu, hc, r2, getObj_map_at hb, w1], by simp [conc, concs], w2⟩
end
end Go.Proofs.YtnnalcfdeldocaaGreatDoor.X
namespace Go.Proofs.YtnnalcfdeldocaaGreatDoor.X
open Go
set_option linter.unusedVariables false
set_option linter.unusedSimpArgs false
section
variable {P : Program} {M : Nat → Prop} {B : Nat} {ν : Nu} {s s1 : St} {W : World}
theorem zero_cells (Z : Value) (n : Nat) (hz : 0 < Z.cells.size) : (Builtin.zeroCells Z.cells n).toList = repV n Z.cells.toList := by
  unfold Builtin.zeroCells
  rw [zeros_row Z.cells n Z.cells.size rfl]
theorem clear_ok {ats : List TypeId} {ty : TypeId} {x u : AV} {X : Value} (hev : builtinE P .clear ats [x] s = some (u, s1)) (h : Sat M B ν s W) (hp : Pre M s s1) (hx : conc ν x = some X) :
    Out M B ν s W ((Builtin.clear_ ats.toArray ty #[X]).run P W) u s1 := by
  simp only [builtinE] at hev
  cases qt : ats[0]? with
  | none => rw [qt] at hev; cases hev
  | some t =>
    rw [qt] at hev
    simp only at hev
    have qt' : ats.toArray[0]? = some t := by rw [List.getElem?_toArray]; exact qt
    split at hev
    · next q =>
      cases hev
      have := conc_map0 hx
      subst this
      exact Out.pure h (V := .tuple #[]) (by simp [Builtin.clear_, qt', qt, run_underlying q]) (by simp [conc, concs])
    · next r q =>
      obtain ⟨inf, hk, rfl⟩ := conc_map hx
      cases qr : rdM r s with
      | none => rw [qr] at hev; cases hev
      | some rr =>
        obtain ⟨⟨es, c⟩, s2⟩ := rr
        rw [qr] at hev
        simp only at hev
        obtain ⟨g1, rfl⟩ := rdM_some qr
        simp only at g1
        have hr : r < s.next := h.dom r ⟨_, g1⟩
        cases qw : wrM r [] c { s with rd := Nat.lor s.rd (bit r) } with
        | none => rw [qw] at hev; cases hev
        | some pw =>
          obtain ⟨u', s3⟩ := pw
          rw [qw] at hev
          simp only [Option.some.injEq, Prod.mk.injEq] at hev
          obtain ⟨rfl, rfl⟩ := hev
          obtain ⟨hlt, rfl⟩ := wrM_some qw
          have hM : M r := hp r hr (.inr (by show (Nat.lor s.wr (bit r)).testBit r = true; rw [testBit_lor]; simp))
          obtain ⟨inf', hk', ms, hb, he⟩ := h.blk r _ hM g1
          rw [hk] at hk'
          cases hk'
          obtain ⟨w1, w2⟩ := map_write (P := P) (s1 := { s with rd := Nat.lor s.rd (bit r), heap := Tr.put 20 s.heap r (some (.map [] c)), wr := Nat.lor s.wr (bit r) }) (ms' := #[]) h hM hk g1 hb hlt rfl rfl rfl trivial
          exact ⟨.tuple #[], _, ν, by simp [Builtin.clear_, qt', qt, run_underlying q, getObj_map_at hb, w1], by simp [conc, concs], w2⟩
    · next e q =>
      cases hev
      have := conc_slice0 hx
      subst this
      exact Out.pure h (V := .tuple #[]) (by simp [Builtin.clear_, qt', qt, run_underlying q]) (by simp [conc, concs])
    · next e k i n cap q =>
      obtain ⟨inf, c, hk, rfl, hy1, hy2⟩ := conc_slice hx
      clear hy1 hy2
      split at hev
      · cases hev
        exact Out.pure h (V := .tuple #[]) (by simp [Builtin.clear_, qt', qt, run_underlying q]) (by simp [conc, concs])
      · next n' =>
        split at hev
        · next z sz qz qs =>
          split at hev
          · cases hev
          · next g =>
            simp only [Bool.and_eq_true, beq_iff, blt_iff, lenL_eq] at g
            cases qp : putE k i (rep (n' + 1) z []) s with
            | none => rw [qp] at hev; cases hev
            | some pp =>
              obtain ⟨u', s2⟩ := pp
              rw [qp] at hev
              simp only [Option.some.injEq, Prod.mk.injEq] at hev
              obtain ⟨rfl, rfl⟩ := hev
              unfold zerosOf at qz
              cases qz' : zeroT P e with
              | none => rw [qz'] at qz; cases qz
              | some zz =>
                rw [qz'] at qz
                simp only [Option.some.injEq] at qz
                subst qz
                obtain ⟨Z, hZ, hz⟩ := run_zeroT qz' W
                have hzc : concs ν zz.cells = some Z.cells.toList := conc_cells (hz ν)
                have hlen := concs_length hzc
                obtain ⟨W1, w1, w2⟩ := putE_ok (P := P) qp h hp hk (rep_nil hzc (n' + 1))
                refine ⟨.tuple #[], W1, ν, ?_, by simp [conc, concs], w2⟩
                have := zero_cells Z (n' + 1) (by rw [← Array.length_toList]; omega)
                simp [Builtin.clear_, qt', qt, run_underlying q, hZ, this, w1]
        · cases hev
    · cases hev
end
end Go.Proofs.YtnnalcfdeldocaaGreatDoor.X
namespace Go.Proofs.YtnnalcfdeldocaaGreatDoor.X
open Go
set_option linter.unusedVariables false
set_option linter.unusedSimpArgs false
section
variable {P : Program} {M : Nat → Prop} {B : Nat} {ν : Nu} {s s1 : St} {W : World}
/-- How long a value is, cells or bytes. -/
def lenAV : AV → Nat
  | .slice _ _ n _ => n
  | .str b => b.length
  | _ => 0
theorem oldCells_ok {z : Nat} {x : AV} {X : Value} {l : List AV} (hev : oldCells z x s = some (l, s1)) (h : Sat M B ν s W) (hp : Pre M s s1) (hx : conc ν x = some X) :
    ∃ L, (Builtin.firstCells z (lenAV x) X).run P W = .ok L.toArray W ∧ concs ν l = some L ∧ L.length = lenAV x * z ∧ Eff M B ν ν s s1 W W := by
  unfold oldCells at hev
  split at hev
  · cases hev
    have := conc_slice0 hx
    subst this
    exact ⟨[], by simp [Builtin.firstCells], by simp [concs], by simp [lenAV], Eff.refl h⟩
  · next k i n cap =>
    obtain ⟨inf, c, hk, rfl, hy1, hy2⟩ := conc_slice hx
    clear hy1 hy2
    split at hev
    · cases hev
      refine ⟨[], ?_, by simp [concs], by simp [lenAV], Eff.refl h⟩
      have := run_loadCells (P := P) (w := W) ⟨inf.blk, inf.off + i, none⟩ 0 (fun _ => undef) (fun j hj => absurd hj (Nat.not_lt_zero j))
      simpa [Builtin.firstCells, lenAV] using this
    · split at hev
      · next cc e z' u hb =>
        split at hev
        · cases hev
        · next r hs =>
          simp only [Option.some.injEq, Prod.mk.injEq] at hev
          obtain ⟨rfl, rfl⟩ := hev
          obtain ⟨inf', C, fz, h1, h2, h3, h4, h5⟩ := h.cells (hp.rd (h.dom k ⟨_, hb⟩)) hb
          rw [hk] at h1; cases h1
          obtain ⟨R, r1, r2, r3⟩ := run_seg (P := P) h2 h4 hs
          exact ⟨R, by simpa [Builtin.firstCells, lenAV] using r1, r2, by simpa [lenAV] using r3, Eff.same h rfl rfl⟩
      · cases hev
  · cases hev
end
end Go.Proofs.YtnnalcfdeldocaaGreatDoor.X
namespace Go.Proofs.YtnnalcfdeldocaaGreatDoor.X
open Go
set_option linter.unusedVariables false
set_option linter.unusedSimpArgs false
section
variable {P : Program} {M : Nat → Prop} {B : Nat} {ν : Nu} {s s1 : St} {W : World}
theorem newCells0_plain {e z n : Nat} {y : AV} {Y : Value} {at1 : Option TypeId} {new : List AV} (hev : newCells0 P e z y at1 s = some ((new, n), s1)) (hz : zerosFit P y at1 = true) (hi : isIntT P at1 = false) (h : Sat M B ν s W) (hp : Pre M s s1) (hy : conc ν y = some Y) :
    ∃ L, (Builtin.lenOf Y).run P W = .ok n W ∧ (Builtin.firstCells z n Y).run P W = .ok L.toArray W ∧ concs ν new = some L ∧ L.length = n * z ∧ Eff M B ν ν s s1 W W := by
  unfold newCells0 at hev
  split at hev
  · cases hev
    have := conc_slice0 hy
    subst this
    exact ⟨[], by simp [Builtin.lenOf], by simp [Builtin.firstCells], by simp [concs], by simp, Eff.refl h⟩
  · next k i len cap =>
    obtain ⟨inf, c, hk, rfl, hy1, hy2⟩ := conc_slice hy
    clear hy1 hy2
    split at hev
    · cases hev
      refine ⟨[], by simp [Builtin.lenOf], ?_, by simp [concs], by simp, Eff.refl h⟩
      have := run_loadCells (P := P) (w := W) ⟨inf.blk, inf.off + i, none⟩ 0 (fun _ => undef) (fun j hj => absurd hj (Nat.not_lt_zero j))
      simpa [Builtin.firstCells] using this
    · split at hev
      · next cc e' z' u hb =>
        split at hev
        · cases hev
        · next r hs =>
          simp only [Option.some.injEq, Prod.mk.injEq] at hev
          obtain ⟨⟨rfl, rfl⟩, rfl⟩ := hev
          obtain ⟨inf', C, fz, h1, h2, h3, h4, h5⟩ := h.cells (hp.rd (h.dom k ⟨_, hb⟩)) hb
          rw [hk] at h1; cases h1
          obtain ⟨R, r1, r2, r3⟩ := run_seg (P := P) h2 h4 hs
          exact ⟨R, by simp [Builtin.lenOf], by simpa [Builtin.firstCells] using r1, r2, r3, Eff.same h rfl rfl⟩
      · cases hev
  · next b =>
    split at hev
    · next q =>
      simp only [Option.some.injEq, Prod.mk.injEq] at hev
      obtain ⟨⟨rfl, rfl⟩, rfl⟩ := hev
      have hz1 : z = 1 := beq_iff.1 q
      obtain ⟨hb, rfl⟩ := conc_str hy
      refine ⟨_, by simp [Builtin.lenOf, bytesOf_size], ?_, bytesAV_conc ν hb, by simp [hz1], Eff.refl h⟩
      have e1 : (bytesOf b).extract 0 b.length = bytesOf b := by
        rw [bytesOf_extract]; simp
      simp [Builtin.firstCells, e1]
      simp [bytesOf]
    · cases hev
  · simp only [zerosFit] at hz
    rw [hi] at hz; cases hz
  · cases hev
theorem newCells_plain {e z n : Nat} {y : AV} {Y : Value} {at1 : Option TypeId} {new : List AV} (hev : newCells P e z y at1 s = some ((new, n), s1)) (hz : zerosFit P y at1 = true) (hi : isIntT P at1 = false) (h : Sat M B ν s W) (hp : Pre M s s1) (hy : conc ν y = some Y) :
    ∃ L, (Builtin.lenOf Y).run P W = .ok n W ∧ (Builtin.firstCells z n Y).run P W = .ok L.toArray W ∧ concs ν new = some L ∧ L.length = n * z ∧ Eff M B ν ν s s1 W W := by
  unfold newCells at hev
  split at hev
  · next b =>
    split at hev
    · next q =>
      simp only [Option.some.injEq, Prod.mk.injEq] at hev
      obtain ⟨⟨rfl, rfl⟩, rfl⟩ := hev
      have hz1 : z = 1 := beq_iff.1 q
      obtain ⟨A, hb, rfl⟩ := conc_sstr hy
      have e := bytesS_length' hb
      refine ⟨_, by simp [Builtin.lenOf, e], ?_, bytesAVS_conc hb, by simp [hz1, bytesS_length hb], Eff.refl h⟩
      have e1 : (⟨A.toArray⟩ : ByteArray).extract 0 b.length = ⟨A.toArray⟩ := by
        rw [← e]; simp
      simp [Builtin.firstCells, e1]
    · cases hev
  · exact newCells0_plain hev hz hi h hp hy
end
end Go.Proofs.YtnnalcfdeldocaaGreatDoor.X
namespace Go.Proofs.YtnnalcfdeldocaaGreatDoor.X
open Go
set_option linter.unusedVariables false
set_option linter.unusedSimpArgs false
section
variable {P : Program} {M : Nat → Prop} {B : Nat} {ν : Nu} {s s1 : St} {W : World}
theorem newCells0_zeros {e z n : Nat} {y : AV} {Y : Value} {at1 : Option TypeId} {new : List AV} (hev : newCells0 P e z y at1 s = some ((new, n), s1)) (hz : zerosFit P y at1 = true) (hi : isIntT P at1 = true) (h : Sat M B ν s W) (hy : conc ν y = some Y) :
    ∃ L Z, Y = .int .i64 n ∧ n < 1000000 ∧ (zeroValue e).run P W = .ok Z W ∧ Z.cells.size = z ∧ (Builtin.zeroCells Z.cells n).toList = L ∧ concs ν new = some L ∧ L.length = n * z ∧ Eff M B ν ν s s1 W W := by
  unfold newCells0 at hev
  split at hev
  · simp only [zerosFit, hi] at hz; cases hz
  · simp only [zerosFit, hi] at hz; cases hz
  · simp only [zerosFit, hi] at hz; cases hz
  · next m =>
    split at hev
    · cases hev
    · next t1 =>
      split at hev
      · next k zv q1 q2 =>
        split at hev
        · next g =>
          simp only [Option.some.injEq, Prod.mk.injEq] at hev
          obtain ⟨⟨rfl, rfl⟩, rfl⟩ := hev
          simp only [Bool.and_eq_true, beq_iff, blt_iff, lenL_eq] at g
          simp only [conc, Option.some.injEq] at hy
          subst hy
          obtain ⟨Z, hZ, hzz⟩ := run_zeroT q2 W
          have hzc := conc_cells (hzz ν)
          have hlen := concs_length hzc
          have hzs : Z.cells.size = z := by rw [← Array.length_toList]; omega
          refine ⟨repV m Z.cells.toList, Z, rfl, g.2, hZ, hzs, ?_, by simpa using rep_nil hzc m, by rw [repV_length, Array.length_toList, hzs], Eff.refl h⟩
          unfold Builtin.zeroCells
          rw [zeros_row Z.cells m Z.cells.size rfl]
        · cases hev
      · cases hev
  · cases hev
theorem newCells_zeros {e z n : Nat} {y : AV} {Y : Value} {at1 : Option TypeId} {new : List AV} (hev : newCells P e z y at1 s = some ((new, n), s1)) (hz : zerosFit P y at1 = true) (hi : isIntT P at1 = true) (h : Sat M B ν s W) (hy : conc ν y = some Y) :
    ∃ L Z, Y = .int .i64 n ∧ n < 1000000 ∧ (zeroValue e).run P W = .ok Z W ∧ Z.cells.size = z ∧ (Builtin.zeroCells Z.cells n).toList = L ∧ concs ν new = some L ∧ L.length = n * z ∧ Eff M B ν ν s s1 W W := by
  unfold newCells at hev
  split at hev
  · simp only [zerosFit, hi] at hz; cases hz
  · exact newCells0_zeros hev hz hi h hy
end
end Go.Proofs.YtnnalcfdeldocaaGreatDoor.X
namespace Go.Proofs.YtnnalcfdeldocaaGreatDoor.X
open Go
set_option linter.unusedVariables false
set_option linter.unusedSimpArgs false
section
variable {P : Program} {M : Nat → Prop} {B : Nat} {ν : Nu} {s s1 : St} {W : World}
/-- There is room: what is not zeros. -/
theorem run_append_fit {ats : Array TypeId} {ty t e z n len cap : Nat} {Y : Value} {L : List Value} {a : Addr} {W1 : World} (h0 : ats[0]? = some t) (ht : P.underlying t = some (.slice e)) (hs : sizeT P e = some z)
    (hy : ats[1]? = none ∨ ∃ t1 d, ats[1]? = some t1 ∧ P.underlying t1 = some d ∧ (∀ k, d ≠ .int k)) (hn : (Builtin.lenOf Y).run P W = .ok n W) (hf : (Builtin.firstCells z n Y).run P W = .ok L.toArray W) (hroom : len + n ≤ cap) (hw : (storeCells (a.add (len * z)) L).run P W = .ok () W1) :
    (Builtin.append_ ats ty #[.slice (some a) len cap, Y]).run P W = .ok (.slice (some a) (len + n) cap) W1 := by
  rcases hy with hy | ⟨t1, d, hy, hd, hk⟩
  · simp [Builtin.append_, h0, hy, run_underlying ht, run_sizeT hs, hn, hf, hroom, hw]
  · have hm : (d matches .int _) = false := by cases d <;> first | rfl | exact absurd rfl (hk _)
    simp only [Builtin.append_, h0, hy, Sem.run_bind, run_underlying ht, run_underlying hd, run_sizeT hs, Result.andThen_ok, Sem.run_pure, hm, List.getElem?_toArray, List.getElem?_cons_zero, List.getElem?_cons_succ, Bool.false_eq_true, if_false, hn, hf, hroom, if_true, Bool.not_false, hw]
end
end Go.Proofs.YtnnalcfdeldocaaGreatDoor.X
namespace Go.Proofs.YtnnalcfdeldocaaGreatDoor.X
open Go
set_option linter.unusedVariables false
set_option linter.unusedSimpArgs false
/-- What is appended, as the model asks for it. -/
def Apd (P : Program) (at1 : Option TypeId) (e z n : Nat) (Y : Value) (L : List Value) (W : World) : Prop :=
  ((at1 = none ∨ ∃ t1 d, at1 = some t1 ∧ P.underlying t1 = some d ∧ (∀ k, d ≠ .int k)) ∧ (∀ W' : World, W'.heap = W.heap → (Builtin.lenOf Y).run P W' = .ok n W' ∧ (Builtin.firstCells z n Y).run P W' = .ok L.toArray W')) ∨
  (∃ t1 k Z, at1 = some t1 ∧ P.underlying t1 = some (.int k) ∧ Y = .int .i64 n ∧ n < 1000000 ∧ (∀ W' : World, (zeroValue e).run P W' = .ok Z W') ∧ Z.cells.size = z ∧ (Builtin.zeroCells Z.cells n).toList = L)
section
variable {P : Program} {M : Nat → Prop} {B : Nat} {ν : Nu} {s s1 s2 : St} {W W1 : World}
theorem newCells_state {e z n : Nat} {y : AV} {at1 : Option TypeId} {new : List AV} (hev : newCells P e z y at1 s = some ((new, n), s1)) : s1.heap = s.heap ∧ s1.next = s.next ∧ s1.wr = s.wr := by
  unfold newCells newCells0 at hev
  repeat' split at hev
  all_goals first
    | (cases hev; done)
    | (simp only [Option.some.injEq, Prod.mk.injEq] at hev; obtain ⟨_, rfl⟩ := hev; exact ⟨rfl, rfl, rfl⟩)
theorem oldCells_state {z : Nat} {x : AV} {l : List AV} (hev : oldCells z x s = some (l, s1)) : s1.heap = s.heap ∧ s1.next = s.next ∧ s1.wr = s.wr := by
  unfold oldCells at hev
  repeat' split at hev
  all_goals first
    | (cases hev; done)
    | (simp only [Option.some.injEq, Prod.mk.injEq] at hev; obtain ⟨_, rfl⟩ := hev; exact ⟨rfl, rfl, rfl⟩)
theorem concs_inj {l : List AV} {L L' : List Value} (h : concs ν l = some L) (h' : concs ν l = some L') : L = L' := by rw [h] at h'; cases h'; rfl
theorem newCells_ok {e z n : Nat} {y : AV} {Y : Value} {at1 : Option TypeId} {new : List AV} (hev : newCells P e z y at1 s = some ((new, n), s1)) (hz : zerosFit P y at1 = true) (h : Sat M B ν s W) (hp : Pre M s s1) (hy : conc ν y = some Y) :
    ∃ L, Apd P at1 e z n Y L W ∧ concs ν new = some L ∧ L.length = n * z := by
  cases hi : isIntT P at1 with
  | false =>
    obtain ⟨L, g1, g2, g3, g4, g5⟩ := newCells_plain hev hz hi h hp hy
    refine ⟨L, .inl ⟨?_, fun W' hW => ?_⟩, g3, g4⟩
    · cases at1 with
      | none => exact .inl rfl
      | some t1 =>
        right
        have hd : ∃ d, P.underlying t1 = some d := by
          cases q : P.underlying t1 with
          | some d => exact ⟨d, rfl⟩
          | none =>
            exfalso
            have hu : undOk P (some t1) = false := by simp only [undOk, q]
            unfold zerosFit at hz
            split at hz
            · rw [hi] at hz; cases hz
            · rw [hu] at hz; simp at hz
        obtain ⟨d, hd⟩ := hd
        refine ⟨t1, d, rfl, hd, fun k e => ?_⟩
        subst e
        simp only [isIntT, hd] at hi
        cases hi
    · obtain ⟨L', g1, g2, g3', g4', g5'⟩ := newCells_plain hev hz hi (h.world hW) hp hy
      have := concs_inj g3 g3'
      subst this
      exact ⟨g1, g2⟩
  | true =>
    obtain ⟨L, Z, g1, g2, g3, g4, g5, g6, g7, g8⟩ := newCells_zeros hev hz hi h hy
    cases at1 with
    | none => cases hi
    | some t1 =>
      have hk : ∃ k, P.underlying t1 = some (.int k) := by
        simp only [isIntT] at hi
        split at hi
        · next k q => exact ⟨k, q⟩
        · cases hi
      obtain ⟨k, hk⟩ := hk
      refine ⟨L, .inr ⟨t1, k, Z, rfl, hk, g1, g2, fun W' => ?_, g4, g5⟩, g6, g7⟩
      have g3' := g3
      simp only [zeroValue, typeInfo] at g3 ⊢
      cases q : P.info? e with
      | none => simp [q] at g3
      | some i =>
        cases q2 : i.zero with
        | none => simp [q, q2] at g3
        | some V => simp [q, q2] at g3 ⊢; exact g3
end
end Go.Proofs.YtnnalcfdeldocaaGreatDoor.X
