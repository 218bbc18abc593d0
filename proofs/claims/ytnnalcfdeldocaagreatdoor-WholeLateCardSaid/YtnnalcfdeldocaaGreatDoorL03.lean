/- A walk by the kernel: cells are written, blocks are made. -/
import Derived.Test.YtnnalcfdeldocaaGreatDoorL02
import Derived.Laws.IdiomCopy
namespace Go.Proofs.YtnnalcfdeldocaaGreatDoor.X
open Go
set_option linter.unusedVariables false
set_option linter.unusedSimpArgs false
theorem setCell_heap {W : World} {b o : Nat} {C : Array Value} {e : Nat} {fz : Nat × Nat} (h : W.heap[b]? = some (.cells C e fz)) (v : Value) :
    (W.setCell ⟨b, o, none⟩ v).heap[b]? = some (.cells (C.setIfInBounds o v) e fz) ∧ (W.setCell ⟨b, o, none⟩ v).heap.size = W.heap.size ∧ (∀ j, j ≠ b → (W.setCell ⟨b, o, none⟩ v).heap[j]? = W.heap[j]?) := by
  refine ⟨?_, ?_, fun j hj => ?_⟩
  · simp [World.setCell, Array.getElem?_modify, h]
  · simp [World.setCell]
  · simp only [World.setCell, Array.getElem?_modify]
    rw [if_neg (fun q => hj q.symm)]
theorem setCells_heap {b e : Nat} {fz : Nat × Nat} : ∀ (vs : List Value) (o : Nat) {W : World} {C : Array Value}, W.heap[b]? = some (.cells C e fz) → o + vs.length ≤ C.size →
    ∃ C' : Array Value, (W.setCells b o vs).heap[b]? = some (.cells C' e fz) ∧ C'.size = C.size ∧ (∀ j, j < vs.length → C'[o + j]? = vs[j]?) ∧ (∀ j, (j < o ∨ o + vs.length ≤ j) → C'[j]? = C[j]?) ∧
      (W.setCells b o vs).heap.size = W.heap.size ∧ (∀ j, j ≠ b → (W.setCells b o vs).heap[j]? = W.heap[j]?) ∧ (W.setCells b o vs).os = W.os ∧ (W.setCells b o vs).tape = W.tape ∧ (W.setCells b o vs).output = W.output
  | [], o, W, C, h, hl => ⟨C, h, rfl, fun j hj => absurd hj (Nat.not_lt_zero j), fun _ _ => rfl, rfl, fun _ _ => rfl, rfl, rfl, rfl⟩
  | v :: r, o, W, C, h, hl => by
    obtain ⟨h1, h2, h3⟩ := setCell_heap (o := o) h v
    have hl' : o + 1 + r.length ≤ (C.setIfInBounds o v).size := by simp at hl ⊢; omega
    obtain ⟨C', g1, g2, g3, g4, g5, g6, g7, g8, g9⟩ := setCells_heap r (o + 1) h1 hl'
    refine ⟨C', g1, by rw [g2]; simp, fun j hj => ?_, fun j hj => ?_, g5.trans h2, fun j hj => (g6 j hj).trans (h3 j hj), g7, g8, g9⟩
    · cases j with
      | zero =>
        rw [g4 _ (.inl (by omega))]
        simp at hl
        simp [Array.getElem?_setIfInBounds]
        omega
      | succ j =>
        rw [show o + (j + 1) = o + 1 + j by omega, g3 j (by simpa using hj)]
        simp
    · rw [g4 j (by simp at hj; omega), Array.getElem?_setIfInBounds_ne (by simp at hj; omega)]
theorem one_ok {ν : Nu} {v : AV} {V : Value} (h : conc ν v = some V) (h1 : oneC v = true) : V.oneCell' = true := by
  cases v with
  | agg cs => cases h1
  | tup cs => cases h1
  | bool b => simp only [conc, Option.some.injEq] at h; subst h; rfl
  | int k n => simp only [conc, Option.some.injEq] at h; subst h; rfl
  | str s =>
    simp only [conc] at h
    split at h
    · cases h; rfl
    · cases h
  | ptr0 => simp only [conc, Option.some.injEq] at h; subst h; rfl
  | ptr k i => simp only [conc, Option.map_eq_some_iff] at h; obtain ⟨a, _, rfl⟩ := h; rfl
  | slice0 => simp only [conc, Option.some.injEq] at h; subst h; rfl
  | slice k i len cap =>
    cases cap with
    | known c => simp only [conc, Option.map_eq_some_iff] at h; obtain ⟨a, _, rfl⟩ := h; rfl
    | unk j =>
      simp only [conc, Option.bind_eq_some_iff] at h; obtain ⟨a, _, h2⟩ := h
      split at h2
      · cases h2; rfl
      · cases h2
  | map0 => simp only [conc, Option.some.injEq] at h; subst h; rfl
  | map k => simp only [conc, Option.map_eq_some_iff] at h; obtain ⟨a, _, rfl⟩ := h; rfl
  | fn f a b =>
    simp only [conc, Option.bind_eq_some_iff, Option.map_eq_some_iff] at h
    obtain ⟨x, _, y, _, rfl⟩ := h; rfl
  | yld k => simp only [conc, Option.map_eq_some_iff] at h; obtain ⟨a, _, rfl⟩ := h; rfl
  | fn0 => simp only [conc, Option.some.injEq] at h; subst h; rfl
  | iface0 => simp only [conc, Option.some.injEq] at h; subst h; rfl
  | iface t v => simp only [conc, Option.map_eq_some_iff] at h; obtain ⟨a, _, rfl⟩ := h; rfl
  | sym k c j => simp only [conc, Option.bind_eq_some_iff, Option.map_eq_some_iff] at h; obtain ⟨_, _, _, _, rfl⟩ := h; rfl
  | sstr s => simp only [conc, Option.map_eq_some_iff] at h; obtain ⟨a, _, rfl⟩ := h; rfl
theorem ones_ok {ν : Nu} : ∀ {l : List AV} {L : List Value}, concs ν l = some L → onesC l = true → ∀ V ∈ L, V.oneCell' = true
  | [], L, h, _, V, hV => by rw [concs_nil] at h; cases h; cases hV
  | v :: vs, L, h, h1, V, hV => by
    obtain ⟨x, y, a, b, rfl⟩ := concs_cons.1 h
    simp only [onesC] at h1
    cases q : oneC v with
    | false => rw [q] at h1; cases h1
    | true =>
      rw [q] at h1
      rcases List.mem_cons.1 hV with rfl | hV
      · exact one_ok a q
      · exact ones_ok b h1 V hV
section
variable {P : Program} {M : Nat → Prop} {B : Nat} {ν : Nu} {s s1 : St} {W : World}
theorem putE_some {k i : Nat} {xs : List AV} {u : Unit} (hev : putE k i xs s = some (u, s1)) : ∃ c e z w c', s.heap.get k = some (.cells c e z w) ∧ setSeg c i xs = some c' ∧ k < 1000000 ∧ onesC xs = true ∧ s1 = { s with heap := Tr.put 20 s.heap k (some (.cells c' e z w)), wr := Nat.lor s.wr (bit k) } := by
  unfold putE at hev
  cases q : s.heap.get k with
  | none => rw [q] at hev; cases hev
  | some b =>
    rw [q] at hev
    cases b with
    | cells c e z w =>
      simp only at hev
      cases q2 : setSeg c i xs with
      | none => rw [q2] at hev; cases hev
      | some c' =>
        rw [q2] at hev
        simp only at hev
        cases q3 : (Nat.blt k 1000000 && onesC xs) with
        | false => rw [q3] at hev; cases hev
        | true =>
          rw [q3] at hev
          simp only [Option.some.injEq, Prod.mk.injEq] at hev
          rw [Bool.and_eq_true] at q3
          exact ⟨c, e, z, w, c', rfl, q2, blt_iff.1 q3.1, q3.2, hev.2.symm⟩
    | _ => cases hev
/-- Cells that are written. -/
theorem putE_ok {k i : Nat} {xs : List AV} {u : Unit} (hev : putE k i xs s = some (u, s1)) (h : Sat M B ν s W) (hp : Pre M s s1) {inf : Inf} (hk : ν k = some inf) {Xs : List Value} (hx : concs ν xs = some Xs) :
    ∃ W1, (storeCells ⟨inf.blk, inf.off + i, none⟩ Xs).run P W = .ok () W1 ∧ Eff M B ν ν s s1 W W1 := by
  obtain ⟨c, e, z, w, c', hb, hset, hlt, hone, rfl⟩ := putE_some hev
  have hM : M k := hp k (h.dom k ⟨_, hb⟩) (.inr (by show (Nat.lor s.wr (bit k)).testBit k = true; rw [testBit_lor]; simp))
  obtain ⟨inf', C, fz, h1, h2, h3, h4, h5, h6⟩ := h.cells hM hb
  rw [hk] at h1; cases h1
  obtain ⟨g1, g2, g3, g4⟩ := setSeg_spec hset
  have hlen := concs_length hx
  have hin : ∀ j, j < c.length → inf.off + j < C.size := fun j hj => by
    obtain ⟨V, a, _⟩ := h4 j c[j] (List.getElem?_eq_getElem hj)
    exact (Array.getElem?_eq_some_iff.1 a).1
  have hfit : Xs ≠ [] → i + Xs.length ≤ c.length := fun hne => by
    have := g4 (fun q => hne (List.eq_nil_of_length_eq_zero (by rw [hlen, q]; rfl)))
    rw [hlen]; exact this
  cases hXs : Xs with
  | nil =>
    have hxs : xs = [] := List.eq_nil_of_length_eq_zero (by rw [← hlen, hXs]; rfl)
    subst hxs
    have hc : c' = c := by simp only [setSeg, Option.some.injEq] at hset; exact hset.symm
    subst hc
    refine ⟨W, rfl, Eff.write h hM hb hk hlt rfl rfl (fun j => testBit_lor _ _ _) rfl (fun _ _ => rfl) ?_ rfl rfl rfl⟩
    exact ⟨C, fz, h2, h3, h4, h5, h6⟩
  | cons X Xr =>
    rw [← hXs]
    have hf := hfit (by rw [hXs]; simp)
    have hCs : inf.off + i + Xs.length ≤ C.size := by
      have hpos : 0 < Xs.length := by rw [hXs]; simp
      have := hin (i + Xs.length - 1) (by omega)
      omega
    obtain ⟨C', r1, r2, r3, r4, r5, r6, r7, r8, r9⟩ := setCells_heap Xs (inf.off + i) h2 hCs
    have hrun := run_storeCells_cells (P := P) inf.blk (inf.off + i) Xs 0 W (fun j hj => by
      rw [cell_at h2, Array.getElem?_eq_getElem (by omega)]; rfl) (fun j hj => by
      simp only [World.frozen?, h2, Bool.and_eq_false_iff, decide_eq_false_iff_not]
      omega) (ones_ok hx hone)
    rw [Nat.add_zero] at hrun
    refine ⟨_, hrun, Eff.write h hM hb hk hlt rfl rfl (fun j => testBit_lor _ _ _) r5 r6 ?_ r7 r8 r9⟩
    refine ⟨C', fz, r1, by rw [r2]; exact h3, fun j v hv => ?_, fun q => ⟨(h5 q).1, by rw [r2, (h5 q).2, g1]⟩, fun q => by rw [r2, g1]; exact h6 q⟩
    by_cases hj : j < i ∨ i + xs.length ≤ j
    · rw [g3 j hj] at hv
      obtain ⟨V, a, b⟩ := h4 j v hv
      exact ⟨V, by rw [r4 _ (by omega)]; exact a, b⟩
    · have e1 : j = i + (j - i) := by omega
      rw [e1, g2 (j - i) (by omega)] at hv
      obtain ⟨V, a, b⟩ := concs_get hx hv
      exact ⟨V, by rw [e1, ← Nat.add_assoc, r3 _ (by omega)]; exact a, b⟩
theorem storeE_ok {t k i : Nat} {v : AV} {u : Unit} (hev : storeE P t k i v s = some (u, s1)) (h : Sat M B ν s W) (hp : Pre M s s1) {A V : Value} (hA : conc ν (.ptr k i) = some A) (hV : conc ν v = some V) :
    ∃ W1, (Instr.storeAt t A V).run P W = .ok () W1 ∧ Eff M B ν ν s s1 W W1 := by
  unfold storeE at hev
  cases q : sizeT P t with
  | none => rw [q] at hev; cases hev
  | some n =>
    rw [q] at hev
    simp only at hev
    cases q2 : Nat.beq n (lenL v.cells) with
    | false => rw [q2] at hev; cases hev
    | true =>
      rw [q2] at hev
      simp only at hev
      have hn : n = v.cells.length := by rw [← lenL_eq]; exact beq_iff.1 q2
      simp only [conc, Option.map_eq_some_iff] at hA
      obtain ⟨inf, hk, rfl⟩ := hA
      have hc := conc_cells hV
      obtain ⟨W1, h1, h2⟩ := putE_ok (P := P) hev h hp hk hc
      refine ⟨W1, ?_, h2⟩
      have hl := concs_length hc
      have hs : V.cells.size = n := by rw [hn, ← hl]; simp
      simp [Instr.storeAt, Instr.sureAddr, storeVar, run_sizeT q, hs, h1]
/-- A new block of cells. -/
theorem newB_ok {k : Nat} {c : List AV} {e z : Nat} {u : Bool} (hev : newB (.cells c e z u) s = some (k, s1)) (h : Sat M B ν s W) (hB : B ≤ W.heap.size) {C : Array Value} {fz : Nat × Nat} (hfz : fz.2 ≤ fz.1 ∨ C.size ≤ fz.1) (cap : Nat)
    (hc : ∀ (i : Nat) (v : AV), c[i]? = some v → ∃ V, C[i]? = some V ∧ conc ν v = some V) (hu0 : u = false → C.size = c.length) (hu1 : u = true → 0 < z ∧ cap * z ≤ C.size ∧ c.length ≤ cap * z)
    {W1 : World} (hW : W1.heap = W.heap.push (.cells C e fz)) (ho : W1.os = W.os) (ht : W1.tape = W.tape) (hpu : W1.output = W.output) :
    Eff M B ν (ν.add s.next ⟨W.heap.size, 0, cap⟩) s s1 W W1 ∧ k = s.next := by
  obtain ⟨rfl, h1, h2, rfl⟩ := newB_some.1 hev
  have hle := Nu.le_add h.noNext (⟨W.heap.size, 0, cap⟩ : Inf)
  refine ⟨Eff.alloc h h2 hB rfl rfl hW ⟨C, fz, ?_, hfz, fun i v hv => ?_, fun q => ⟨rfl, hu0 q⟩, fun q => ⟨(hu1 q).1, ?_, (hu1 q).2.2⟩⟩ ho ht hpu, rfl⟩
  · rw [hW]; simp
  · obtain ⟨V, a, b⟩ := hc i v hv
    exact ⟨V, by rw [Nat.zero_add]; exact a, conc_mono hle v V b⟩
  · rw [Nat.zero_add]; exact (hu1 q).2.1
/-- .. of known size. -/
theorem newB_known {k : Nat} {c : List AV} {e z : Nat} (hev : newB (.cells c e z false) s = some (k, s1)) (h : Sat M B ν s W) (hB : B ≤ W.heap.size) {Cs : List Value} (hc : concs ν c = some Cs) (cap : Nat)
    {W1 : World} (hW : W1.heap = W.heap.push (.cells Cs.toArray e (0, 0))) (ho : W1.os = W.os) (ht : W1.tape = W.tape) (hpu : W1.output = W.output) :
    Eff M B ν (ν.add s.next ⟨W.heap.size, 0, cap⟩) s s1 W W1 ∧ k = s.next :=
  newB_ok hev h hB (.inl (Nat.le_refl _)) cap (fun i v hv => by obtain ⟨V, a, b⟩ := concs_get hc hv; exact ⟨V, by simpa using a, b⟩) (fun _ => by simp [concs_length hc]) (fun q => by cases q) hW ho ht hpu
/-- .. of a size that is drawn. -/
theorem newB_unk {k : Nat} {c : List AV} {e z : Nat} (hev : newB (.cells c e z true) s = some (k, s1)) (h : Sat M B ν s W) (hB : B ≤ W.heap.size) {Cs Rs : List Value} (hc : concs ν c = some Cs) (cap : Nat) (hz : 0 < z) (hcap : cap * z = Cs.length + Rs.length) {fz : Nat × Nat} (hfz : fz.2 ≤ fz.1 ∨ Cs.length + Rs.length ≤ fz.1)
    {W1 : World} (hW : W1.heap = W.heap.push (.cells (Cs ++ Rs).toArray e fz)) (ho : W1.os = W.os) (ht : W1.tape = W.tape) (hpu : W1.output = W.output) :
    Eff M B ν (ν.add s.next ⟨W.heap.size, 0, cap⟩) s s1 W W1 ∧ k = s.next :=
  newB_ok hev h hB (hfz.imp id (fun q => by simpa using q)) cap (fun i v hv => by
    obtain ⟨V, a, b⟩ := concs_get hc hv
    have : i < Cs.length := (List.getElem?_eq_some_iff.1 a).1
    exact ⟨V, by simp [List.getElem?_append_left this, a], b⟩) (fun q => by cases q) (fun _ => ⟨hz, by simp [hcap], by rw [hcap, ← concs_length hc]; omega⟩) hW ho ht hpu
end
end Go.Proofs.YtnnalcfdeldocaaGreatDoor.X
