/- A walk by the kernel: append, as the model has it. A walk by the kernel: append, as the evaluator has it. A walk by the kernel: append. A walk by the kernel: append, whole. A walk by the kernel: what an operation notes only grows. -/
import Derived.Test.YtnnalcfdeldocaaGreatDoorL08
namespace Go.Proofs.YtnnalcfdeldocaaGreatDoor.X
open Go
set_option linter.unusedVariables false
set_option linter.unusedSimpArgs false
section
variable {P : Program} {M : Nat → Prop} {B : Nat} {ν : Nu} {s s1 s2 : St} {W W1 : World}
theorem wrap_small {n : Nat} (h : n < 1000000) : IntKind.i64.wrap (n : Int) = (n : Int) := by
  unfold IntKind.wrap
  simp [IntKind.signed, IntKind.bits]
  omega
/-- There is room. -/
theorem run_append_room {ats : Array TypeId} {ty t e n len cap : Nat} {i : TypeInfo} {Y : Value} {L : List Value} {base : Option Addr} (h0 : ats[0]? = some t) (ht : P.underlying t = some (.slice e)) (hi : P.info? e = some i)
    (hb : i.bytes < 1000000) (ha : Apd P ats[1]? e i.size n Y L W) (hL : L.length = n * i.size) (hroom : len + n ≤ cap) (hw : ∀ a, base = some a → (storeCells (a.add (len * i.size)) L).run P W = .ok () W1) (h1 : base = none → W1 = W) :
    (Builtin.append_ ats ty #[.slice base len cap, Y]).run P W = .ok (.slice base (len + n) cap) W1 := by
  rcases ha with ⟨hy, hf⟩ | ⟨t1, k, Z, hy, hd, rfl, hn, hZ, hz, hl⟩
  · obtain ⟨f1, f2⟩ := hf W rfl
    rcases hy with hy | ⟨t1, d, hy, hd, hk⟩
    · cases base with
      | none => simp [Builtin.append_, h0, hy, run_underlying ht, sizeOf, typeInfo, hi, f1, f2, hroom, h1 rfl]
      | some a => simp [Builtin.append_, h0, hy, run_underlying ht, sizeOf, typeInfo, hi, f1, f2, hroom, hw a rfl]
    · have hm : (d matches .int _) = false := by cases d <;> first | rfl | exact absurd rfl (hk _)
      cases base with
      | none => simp [Builtin.append_, h0, hy, run_underlying ht, run_underlying hd, sizeOf, typeInfo, hi, hm, f1, f2, hroom, h1 rfl]
      | some a => simp [Builtin.append_, h0, hy, run_underlying ht, run_underlying hd, sizeOf, typeInfo, hi, hm, f1, f2, hroom, hw a rfl]
  · have h1' : IntKind.i64.wrap (n : Int) = (n : Int) := wrap_small hn
    have h2 : ¬ ((n : Int) < 0) := by omega
    have h3 : ¬ (281474976710656 < (n : Int) * (i.bytes : Int)) := by
      have : n * i.bytes ≤ 1000000 * 1000000 := Nat.mul_le_mul (by omega) (by omega)
      have : ((n * i.bytes : Nat) : Int) ≤ ((1000000 * 1000000 : Nat) : Int) := by omega
      rw [Int.natCast_mul] at this
      omega
    have hx : (asInt (.int .i64 (n : Int))).run P W = .ok (n : Int) W := by simp [asInt, asIntOf]
    by_cases q : n * i.size = 0
    · have : L = [] := List.eq_nil_of_length_eq_zero (by rw [hL, q])
      subst this
      have hq : (n = 0 ∨ i.size = 0) = True := eq_true (Nat.mul_eq_zero.1 q)
      cases base with
      | none => simp [Builtin.append_, h0, hy, run_underlying ht, run_underlying hd, sizeOf, typeInfo, hi, hx, h1', h2, h3, hroom, h1 rfl, hq, q]
      | some a =>
        have := hw a rfl
        simp [Builtin.append_, h0, hy, run_underlying ht, run_underlying hd, sizeOf, typeInfo, hi, hx, h1', h2, h3, hroom, this, hq, q]
    · cases base with
      | none => simp [Builtin.append_, h0, hy, run_underlying ht, run_underlying hd, sizeOf, typeInfo, hi, hx, h1', h2, h3, hroom, h1 rfl, q, hZ]
      | some a =>
        have := hw a rfl
        rw [← hl] at this
        simp [Builtin.append_, h0, hy, run_underlying ht, run_underlying hd, sizeOf, typeInfo, hi, hx, h1', h2, h3, hroom, this, q, hZ]
/-- There is none. -/
theorem run_append_more {ats : Array TypeId} {ty t e n len cap : Nat} {i : TypeInfo} {Y Z : Value} {L O : List Value} {base : Option Addr} (h0 : ats[0]? = some t) (ht : P.underlying t = some (.slice e)) (hi : P.info? e = some i) (hz : i.zero = some Z)
    (hb0 : 0 < i.bytes) (hb : i.bytes < 1000000) (hlen : len < 1000000) (hn : n < 1000000) (ha : Apd P ats[1]? e i.size n Y L W) (hL : L.length = n * i.size) (hroom : cap < len + n)
    (ho : ∀ W' : World, W'.heap = W.heap → (Builtin.firstCells i.size len (.slice base len cap)).run P W' = .ok O.toArray W') :
    (Builtin.append_ ats ty #[.slice base len cap, Y]).run P W = .ok (.slice (some ⟨W.heap.size, 0, none⟩) (len + n) (grownCap W (len + n) cap e)) (W.drew.alloc (.cells ((O ++ L) ++ (Builtin.zeroCells Z.cells (grownCap W (len + n) cap e - (len + n))).toList).toArray e)) := by
  have hc : ¬ (len + n ≤ cap) := by omega
  have h63 : ¬ (9223372036854775807 < ((len : Int) + (n : Int))) := by omega
  have h48 : ¬ (281474976710656 < Builtin.nextslicecap (len + n) cap * i.bytes) := by
    have := growslice_fits (need := len + n) (old := cap) (bytes := i.bytes) (by omega) (by
      have : (len + n) * i.bytes ≤ 2000000 * 1000000 := Nat.mul_le_mul (by omega) (by omega)
      omega)
    omega
  have ho' := ho W.drew rfl
  rcases ha with ⟨hy, hf⟩ | ⟨t1, k, Z', hy, hd, rfl, hn, hZ, hz', hl⟩
  · obtain ⟨f1, f2⟩ := hf W rfl
    obtain ⟨f3, f4⟩ := hf W.drew rfl
    rcases hy with hy | ⟨t1, d, hy, hd, hk⟩
    · simp [Builtin.append_, h0, hy, run_underlying ht, sizeOf, typeInfo, zeroValue, hi, hz, f1, f2, f3, f4, hc, h63, h48, Question.forced, ho', newRow, grownCap]
      congr 2
      apply Array.ext'
      simp [List.append_assoc]
    · have hm : (d matches .int _) = false := by cases d <;> first | rfl | exact absurd rfl (hk _)
      simp [Builtin.append_, h0, hy, run_underlying ht, run_underlying hd, sizeOf, typeInfo, zeroValue, hi, hz, hm, f1, f2, f3, f4, hc, h63, h48, Question.forced, ho', newRow, grownCap]
      congr 2
      apply Array.ext'
      simp [List.append_assoc]
  · have h1' : IntKind.i64.wrap (n : Int) = (n : Int) := wrap_small hn
    have h2 : ¬ ((n : Int) < 0) := by omega
    have h3 : ¬ (281474976710656 < (n : Int) * (i.bytes : Int)) := by
      have : n * i.bytes ≤ 1000000 * 1000000 := Nat.mul_le_mul (by omega) (by omega)
      have : ((n * i.bytes : Nat) : Int) ≤ ((1000000 * 1000000 : Nat) : Int) := by omega
      rw [Int.natCast_mul] at this
      omega
    have hx : (asInt (.int .i64 (n : Int))).run P W = .ok (n : Int) W := by simp [asInt, asIntOf]
    have hZ' : Z' = Z := by
      have := hZ W
      simp [zeroValue, typeInfo, hi, hz] at this
      exact this.symm
    subst hZ'
    have h63' : ¬ (9223372036854775807 < ((len : Int) + max (n : Int) 0)) := by omega
    by_cases q : n * i.size = 0
    · have : L = [] := List.eq_nil_of_length_eq_zero (by rw [hL, q])
      subst this
      simp [Builtin.append_, h0, hy, run_underlying ht, run_underlying hd, sizeOf, typeInfo, zeroValue, hi, hz, hx, h1', h2, h3, hc, h63, h63', h48, Question.forced, ho', newRow, grownCap, q]
      congr 2
      apply Array.ext'
      simp [List.append_assoc]
    · simp [Builtin.append_, h0, hy, run_underlying ht, run_underlying hd, sizeOf, typeInfo, zeroValue, hi, hz, hx, h1', h2, h3, hc, h63, h63', h48, Question.forced, ho', newRow, grownCap, q]
      rw [← hl]
      congr 2
      apply Array.ext'
      simp [List.append_assoc]
end
end Go.Proofs.YtnnalcfdeldocaaGreatDoor.X
namespace Go.Proofs.YtnnalcfdeldocaaGreatDoor.X
open Go
set_option linter.unusedVariables false
set_option linter.unusedSimpArgs false
section
variable {P : Program} {M : Nat → Prop} {B : Nat} {ν ν1 : Nu} {s s1 s2 s3 : St} {W W1 : World}
theorem Eff.pre (hh : s2.heap = s.heap) (hn : s2.next = s.next) (h : Eff M B ν ν1 s2 s3 W W1) : Eff M B ν ν1 s s3 W W1 := by
  have hl : ∀ k, live s2 k ↔ live s k := fun k => by unfold live; rw [hh]
  refine ⟨by rw [← hn]; exact h.sat, h.ext, fun k i a b => ?_, fun b o hb hy => ?_, h.size, h.os, h.tape, h.output⟩
  · obtain ⟨h1, h2⟩ := h.new k i a b
    refine ⟨by rw [← hn]; exact h1, fun c => (h2 c).imp id ?_⟩
    rintro ⟨k0, i0, q1, q2, q3, q4⟩
    exact ⟨k0, i0, by rw [← hn]; exact q1, q2, (hl k0).1 q3, q4⟩
  · exact h.frame b o hb fun k0 i0 q1 q2 q3 q4 q5 => hy k0 i0 (by rw [← hn]; exact q1) ((hl k0).1 q2) q3 q4 q5
theorem Pre.same (h : Pre M s s3) (hn : s2.next = s.next) : Pre M s2 s3 := fun k hk => h k (by rw [← hn]; exact hk)
theorem Le.rdk (s : St) (k : Nat) : Le s { s with rd := Nat.lor s.rd (bit k) } :=
  ⟨Nat.le_refl _, fun j q => by simp only [testBit_lor, q, Bool.true_or], fun j q => q, fun _ j q => rfl, fun j _ q => q, fun d => d⟩
theorem LeM.newCells {e z : Nat} {y : AV} {at1 : Option TypeId} : LeM (newCells P e z y at1) := fun s a s1 hev => by
  unfold X.newCells X.newCells0 at hev
  repeat' split at hev
  all_goals first
    | (cases hev; done)
    | (cases hev; exact Le.refl _)
    | (cases hev; exact Le.rdk _ _)
theorem LeM.oldCells {z : Nat} {x : AV} : LeM (oldCells z x) := fun s a s1 hev => by
  unfold X.oldCells at hev
  repeat' split at hev
  all_goals first
    | (cases hev; done)
    | (cases hev; exact Le.refl _)
    | (cases hev; exact Le.rdk _ _)
theorem LeM.putE {k i : Nat} {xs : List AV} : LeM (putE k i xs) := fun s a s1 hev => by
  obtain ⟨c, e, z, w, c', hb, hset, hlt, hone, rfl⟩ := putE_some hev
  exact LeM.wrB k (.cells c' e z w) s () _ (wrB_some.2 ⟨⟨_, hb⟩, hlt, rfl⟩)
theorem oldCells_all {z : Nat} {x : AV} {X : Value} {l : List AV} (hev : oldCells z x s = some (l, s1)) (h : Sat M B ν s W) (hp : Pre M s s1) (hx : conc ν x = some X) :
    ∃ L, (∀ W' : World, W'.heap = W.heap → (Builtin.firstCells z (lenAV x) X).run P W' = .ok L.toArray W') ∧ concs ν l = some L ∧ L.length = lenAV x * z := by
  obtain ⟨L, g1, g2, g3, g4⟩ := oldCells_ok (P := P) hev h hp hx
  refine ⟨L, fun W' hW => ?_, g2, g3⟩
  obtain ⟨L', g1', g2', g3', g4'⟩ := oldCells_ok (P := P) hev (h.world hW) hp hx
  have := concs_inj g2 g2'
  subst this
  exact g1'
/-- A block of a size that is drawn, behind an append. -/
theorem grown_new {k : Nat} {old new : List AV} {e need cap : Nat} {i : TypeInfo} {O L : List Value} {Z : Value} (hev : newB (.cells (old ++ new) e i.size true) s = some (k, s1)) (h : Sat M B ν s W) (hB : B ≤ W.heap.size)
    (ho : concs ν old = some O) (hn : concs ν new = some L) (hz0 : 0 < i.size) (hzs : Z.cells.size = i.size) (hlen : O.length + L.length = need * i.size) :
    Eff M B ν (ν.add s.next ⟨W.heap.size, 0, grownCap W need cap e⟩) s s1 W (W.drew.alloc (.cells ((O ++ L) ++ (Builtin.zeroCells Z.cells (grownCap W need cap e - need)).toList).toArray e)) ∧ k = s.next := by
  have hge := grown_ge W need e cap
  have hzl : (Builtin.zeroCells Z.cells (grownCap W need cap e - need)).toList.length = (grownCap W need cap e - need) * i.size := by
    unfold Builtin.zeroCells; simp [hzs]
  refine newB_unk hev h hB (concs_append ho hn) (Rs := (Builtin.zeroCells Z.cells (grownCap W need cap e - need)).toList) (grownCap W need cap e) hz0 ?_ (fz := (0, 0)) (.inl (Nat.le_refl _)) rfl rfl rfl rfl
  rw [hzl, List.length_append, hlen, ← Nat.add_mul]
  congr 1
  omega
end
end Go.Proofs.YtnnalcfdeldocaaGreatDoor.X
namespace Go.Proofs.YtnnalcfdeldocaaGreatDoor.X
open Go
set_option linter.unusedVariables false
set_option linter.unusedSimpArgs false
section
variable {P : Program} {M : Nat → Prop} {B : Nat} {ν ν1 : Nu} {s s1 s2 s3 : St} {W W1 : World}
theorem zeroFit_ok {e n : Nat} (h : zeroFit P e n = true) : ∃ Z, (∀ i, P.info? e = some i → i.zero = some Z) ∧ Z.cells.size = n := by
  unfold zeroFit at h
  cases q : zeroT P e with
  | none => rw [q] at h; cases h
  | some z =>
    rw [q] at h
    simp only [beq_iff, lenL_eq] at h
    have q' := q
    unfold zeroT at q
    cases q1 : P.info? e with
    | none => rw [q1] at q; cases q
    | some i =>
      rw [q1] at q
      simp only at q
      cases q2 : i.zero with
      | none => rw [q2] at q; cases q
      | some Z =>
        rw [q2] at q
        refine ⟨Z, fun j hj => ?_, ?_⟩
        · cases hj; exact q2
        · have := concs_length (conc_cells (absV_ok (fun _ => none) Z z q))
          rw [← Array.length_toList, this, h]
/-- In place, at the end of a name that ends. -/
theorem append_take {k i len j n : Nat} {old new : List AV} {L : List Value} {e z : Nat} {c : List AV} {inf : Inf} (h : Sat M B ν s W) (hM : M k) (hb : s.heap.get k = some (.cells c e z true)) (hk : ν k = some inf) (hi : i = j * z) (hj : j + len ≤ inf.cap)
    (hroom : len + n ≤ inf.cap - j) (hold : seg c i (len * z) = some old ∨ (len = 0 ∧ old = [])) (hnew : concs ν new = some L) (hL : L.length = n * z) (hones : onesC new = true) (hlt : s.next < 1000000)
    (hs : s1.heap = Tr.put 20 (Tr.put 20 s.heap k none) s.next (some (.cells (old ++ new) e z true))) (hn : s1.next = s.next + 1) (hw : ∀ j, j ≠ s.next → s1.wr.testBit j = (s.wr.testBit j || decide (j = k))) :
    ∃ W1, (storeCells ⟨inf.blk, inf.off + i + len * z, none⟩ L).run P W = .ok () W1 ∧ Eff M B ν (ν.add s.next ⟨inf.blk, inf.off + i, inf.cap - j⟩) s s1 W W1 := by
  obtain ⟨inf', C, fz, h1, h2, h3, h4, h5, h6⟩ := h.cells hM hb
  rw [hk] at h1; cases h1
  obtain ⟨hz0, hcap, hcl⟩ := h6 rfl
  have hfit : inf.off + i + len * z + L.length ≤ C.size := by
    have : (j + (len + n)) * z ≤ inf.cap * z := Nat.mul_le_mul_right z (by omega)
    rw [Nat.add_mul, Nat.add_mul] at this
    omega
  obtain ⟨C', r1, r2, r3, r4, r5, r6, r7, r8, r9⟩ := setCells_heap L (inf.off + i + len * z) h2 hfit
  have hrun := run_storeCells_cells (P := P) inf.blk (inf.off + i + len * z) L 0 W (fun j hj => by
    rw [cell_at h2, Array.getElem?_eq_getElem (by omega)]; rfl) (fun j hj => by
    simp only [World.frozen?, h2, Bool.and_eq_false_iff, decide_eq_false_iff_not]
    omega) (ones_ok hnew hones)
  rw [Nat.add_zero] at hrun
  have hle := Nu.le_add h.noNext (⟨inf.blk, inf.off + i, inf.cap - j⟩ : Inf)
  have hol : old.length = len * z ∧ ∀ q, q < len * z → c[i + q]? = old[q]? := by
    rcases hold with ho | ⟨rfl, rfl⟩
    · exact seg_spec ho
    · exact ⟨by simp, fun q hq => by simp at hq⟩
  refine ⟨_, hrun, Eff.take h hM hb hk hlt hs hn hw rfl r5 r6 ?_ r7 r8 r9⟩
  refine ⟨C', fz, r1, by rw [r2]; exact h3, fun q v hv => ?_, fun q => (by cases q), fun _ => ⟨hz0, ?_, ?_⟩⟩
  · show ∃ V, C'[inf.off + i + q]? = some V ∧ _
    by_cases hq : q < len * z
    · rw [List.getElem?_append_left (by omega), ← hol.2 q hq] at hv
      obtain ⟨V, a, b⟩ := h4 _ _ hv
      exact ⟨V, by rw [r4 _ (.inl (by omega)), Nat.add_assoc]; exact a, conc_mono hle v V b⟩
    · rw [List.getElem?_append_right (by omega), hol.1] at hv
      obtain ⟨V, a, b⟩ := concs_get hnew hv
      have hq2 : q - len * z < L.length := (List.getElem?_eq_some_iff.1 a).1
      exact ⟨V, by rw [show inf.off + i + q = inf.off + i + len * z + (q - len * z) by omega, r3 _ hq2]; exact a, conc_mono hle v V b⟩
  · show inf.off + i + (inf.cap - j) * z ≤ C'.size
    rw [r2, Nat.mul_sub_right_distrib]
    have : j * z ≤ inf.cap * z := Nat.mul_le_mul_right z (by omega)
    omega
  · show (old ++ new).length ≤ (inf.cap - j) * z
    rw [List.length_append, hol.1, ← concs_length hnew, hL, ← Nat.add_mul]
    exact Nat.mul_le_mul_right z hroom
end
end Go.Proofs.YtnnalcfdeldocaaGreatDoor.X
namespace Go.Proofs.YtnnalcfdeldocaaGreatDoor.X
open Go
set_option linter.unusedVariables false
set_option linter.unusedSimpArgs false
section
variable {P : Program} {M : Nat → Prop} {B : Nat} {ν ν1 : Nu} {s s1 s2 s3 : St} {W W1 : World}
theorem appendE_ok {ats : List TypeId} {ty : TypeId} {x y v : AV} {X Y : Value} (hev : appendE P ats[0]? ats[1]? x y s = some (v, s1)) (h : Sat M B ν s W) (hB : B ≤ W.heap.size) (hp : Pre M s s1) (hx : conc ν x = some X) (hy : conc ν y = some Y) :
    Out M B ν s W ((Builtin.append_ ats.toArray ty #[X, Y]).run P W) v s1 := by
  unfold appendE at hev
  cases q0 : ats[0]? with
  | none => rw [q0] at hev; cases hev
  | some t =>
  have q0' : ats.toArray[0]? = some t := by rw [List.getElem?_toArray]; exact q0
  have q1' : ats.toArray[1]? = ats[1]? := by rw [List.getElem?_toArray]
  rw [q0] at hev
  simp only at hev
  cases qe : elemS P t with
  | none => rw [qe] at hev; cases hev
  | some e =>
  have ht := elemS_ok qe
  rw [qe] at hev
  simp only at hev
  cases qi : info P e with
  | none => rw [qi] at hev; cases hev
  | some i =>
  have hi := info_ok qi
  rw [qi] at hev
  simp only at hev
  split at hev
  · cases hev
  next qg =>
  simp only [Bool.and_eq_true, blt_iff] at qg
  obtain ⟨gz, gf, gs, gb0, gb⟩ := qg
  obtain ⟨Z, hZ, hZs⟩ := zeroFit_ok gf
  cases qn : newCells P e i.size y ats[1]? s with
  | none => rw [qn] at hev; cases hev
  | some r =>
  obtain ⟨⟨new, n⟩, sA⟩ := r
  rw [qn] at hev
  simp only at hev
  obtain ⟨a1, a2, a3⟩ := newCells_state qn
  have leA : Le s sA := LeM.newCells s _ sA qn
  have hA : Sat M B ν sA W := h.same a1 a2
  split at hev
  · cases hev
  next qn2 =>
  have hn6 := blt_iff.1 qn2
  have start : Le sA s1 → ∃ L, Apd P ats.toArray[1]? e i.size n Y L W ∧ concs ν new = some L ∧ L.length = n * i.size := fun l => by
    rw [q1']
    exact newCells_ok qn gz h (hp.left l) hy
  split at hev
  · -- nothing lay there
    have := conc_slice0 hx
    subst this
    cases n with
    | zero =>
      simp only [Option.some.injEq, Prod.mk.injEq] at hev
      obtain ⟨rfl, rfl⟩ := hev
      obtain ⟨L, g1, g2, g3⟩ := start (Le.refl _)
      exact ⟨_, W, ν, run_append_room q0' ht hi gb g1 g3 (Nat.le_refl _) (fun a q => by cases q) (fun _ => rfl), hx, Eff.same h a1 a2⟩
    | succ n =>
      simp only at hev
      cases qb : newB (.cells new e i.size true) sA with
      | none => rw [qb] at hev; cases hev
      | some r2 =>
        obtain ⟨k, s2⟩ := r2
        rw [qb] at hev
        simp only [Option.some.injEq, Prod.mk.injEq] at hev
        obtain ⟨rfl, rfl⟩ := hev
        obtain ⟨L, g1, g2, g3⟩ := start (LeM.newB _ sA _ _ qb)
        have hrun := run_append_more (ty := ty) (len := 0) (cap := 0) (base := none) (O := []) q0' ht hi (hZ i hi) gb0 gb (by omega) hn6 g1 g3 (by omega) (fun W' _ => by simp [Builtin.firstCells])
        obtain ⟨e1, rfl⟩ := grown_new (old := []) (O := []) (need := 0 + (n + 1)) (cap := 0) qb hA hB concs_nil g2 gs hZs (by rw [g3]; simp)
        have hge := grown_ge W (0 + (n + 1)) e 0
        refine ⟨_, _, _, hrun, ?_, e1.pre a1 a2⟩
        simp only [conc, Nu.add_eq, Option.bind_some, Nat.zero_add, Nat.sub_zero] at hge ⊢
        rw [if_pos hge]
  · next k o len cap =>
    split at hev
    · cases hev
    next ql =>
    have hl6 := blt_iff.1 ql
    have hx0 := hx
    obtain ⟨inf, c, hk, rfl, hc1, hc2⟩ := conc_slice hx
    split at hev
    · next c' =>
      have hcc := hc1 _ rfl
      subst hcc
      split at hev
      · next qr =>
        have hr := ble_iff.1 qr
        cases n with
        | zero =>
          simp only [Option.some.injEq, Prod.mk.injEq] at hev
          obtain ⟨rfl, rfl⟩ := hev
          obtain ⟨L, g1, g2, g3⟩ := start (Le.refl _)
          have hL : L = [] := List.eq_nil_of_length_eq_zero (by rw [g3, Nat.zero_mul])
          subst hL
          exact ⟨_, W, ν, run_append_room q0' ht hi gb g1 g3 hr (fun a q => by simp [storeCells]) (fun q => by cases q), hx, Eff.same h a1 a2⟩
        | succ n =>
          simp only at hev
          cases qp : putE k (o + len * i.size) new sA with
          | none => rw [qp] at hev; cases hev
          | some r2 =>
            obtain ⟨u, s2⟩ := r2
            rw [qp] at hev
            simp only [Option.some.injEq, Prod.mk.injEq] at hev
            obtain ⟨rfl, rfl⟩ := hev
            obtain ⟨L, g1, g2, g3⟩ := start (LeM.putE sA _ _ qp)
            obtain ⟨W1, w1, w2⟩ := putE_ok (P := P) qp hA (hp.same a2) hk g2
            refine ⟨_, W1, ν, run_append_room q0' ht hi gb g1 g3 hr (fun a q => ?_) (fun q => by cases q), ?_, w2.pre a1 a2⟩
            · cases q
              rw [add_none, Nat.add_assoc]
              exact w1
            · simp only [conc, hk, Option.map_some]
      · next qr =>
        have hr : ¬ (len + n ≤ c) := fun q => by rw [ble_iff.2 q] at qr; cases qr
        cases qo : oldCells i.size (.slice k o len (.known c)) sA with
        | none => rw [qo] at hev; cases hev
        | some r2 =>
          obtain ⟨old, s2⟩ := r2
          rw [qo] at hev
          simp only at hev
          cases qb : newB (.cells (old ++ new) e i.size true) s2 with
          | none => rw [qb] at hev; cases hev
          | some r3 =>
            obtain ⟨k2, s3⟩ := r3
            rw [qb] at hev
            simp only [Option.some.injEq, Prod.mk.injEq] at hev
            obtain ⟨rfl, rfl⟩ := hev
            have leO := LeM.oldCells sA _ _ qo
            have leN := LeM.newB _ s2 _ _ qb
            obtain ⟨o1, o2, o3⟩ := oldCells_state qo
            obtain ⟨L, g1, g2, g3⟩ := start (leO.trans leN)
            obtain ⟨O, f1, f2, f3⟩ := oldCells_all (P := P) qo hA ((hp.same a2).left leN) hx0
            have hrun := run_append_more (ty := ty) (base := some ⟨inf.blk, inf.off + o, none⟩) (cap := c) q0' ht hi (hZ i hi) gb0 gb hl6 hn6 g1 g3 (by omega) f1
            have hS2 : Sat M B ν s2 W := hA.same o1 o2
            obtain ⟨e1, rfl⟩ := grown_new (need := len + n) (cap := c) qb hS2 hB f2 g2 gs hZs (by rw [g3, f3, Nat.add_mul]; rfl)
            have hge := grown_ge W (len + n) e c
            refine ⟨_, _, _, hrun, ?_, e1.pre (o1.trans a1) (o2.trans a2)⟩
            simp only [conc, Nu.add_eq, Option.bind_some, Nat.zero_add, Nat.sub_zero]
            rw [if_pos hge]
    · next j =>
      obtain ⟨hj, rfl⟩ := hc2 _ rfl
      cases n with
      | zero =>
        simp only [Option.some.injEq, Prod.mk.injEq] at hev
        obtain ⟨rfl, rfl⟩ := hev
        obtain ⟨L, g1, g2, g3⟩ := start (Le.refl _)
        have hL : L = [] := List.eq_nil_of_length_eq_zero (by rw [g3, Nat.zero_mul])
        subst hL
        exact ⟨_, W, ν, run_append_room q0' ht hi gb g1 g3 (by omega) (fun a q => by simp [storeCells]) (fun q => by cases q), hx, Eff.same h a1 a2⟩
      | succ n =>
        simp only at hev
        split at hev
        · next c e' z' u hb =>
          split at hev
          · cases hev
          next qu =>
          simp only [Bool.and_eq_true, beq_iff] at qu
          obtain ⟨rfl, rfl, rfl, rfl⟩ := qu
          split at hev
          · next qr =>
            have hr := ble_iff.1 qr
            rw [lenL_eq] at hr
            cases qp : putE k (j * i.size + len * i.size) new sA with
            | none => rw [qp] at hev; cases hev
            | some r2 =>
              obtain ⟨u, s2⟩ := r2
              rw [qp] at hev
              simp only [Option.some.injEq, Prod.mk.injEq] at hev
              obtain ⟨rfl, rfl⟩ := hev
              obtain ⟨L, g1, g2, g3⟩ := start (LeM.putE sA _ _ qp)
              obtain ⟨W1, w1, w2⟩ := putE_ok (P := P) qp hA (hp.same a2) hk g2
              obtain ⟨_, _, _, _, _, _, _, _, _, hst⟩ := putE_some qp
              have hM : M k := by
                have : k < s.next := h.fresh k inf hk
                refine hp k this (.inr ?_)
                rw [hst]
                show (Nat.lor sA.wr (bit k)).testBit k = true
                rw [testBit_lor]; simp
              obtain ⟨inf', C, fz, h1, h2, h3, h4, h5, h6⟩ := hA.cells hM hb
              rw [hk] at h1; cases h1
              obtain ⟨hz0, hcap, hcl⟩ := h6 rfl
              have hroom : len + (n + 1) ≤ inf.cap - j := by
                have h7 : (j + (len + (n + 1))) * i.size ≤ inf.cap * i.size := by
                  rw [Nat.add_mul]; omega
                have := Nat.le_of_mul_le_mul_right h7 hz0
                omega
              refine ⟨_, W1, ν, run_append_room q0' ht hi gb g1 g3 hroom (fun a q => ?_) (fun q => by cases q), ?_, w2.pre a1 a2⟩
              · cases q
                rw [add_none, Nat.add_assoc]
                exact w1
              · simp only [conc, hk, Option.bind_some]
                rw [if_pos (by omega)]
          · split at hev
            · cases hev
            next q1 =>
            cases qo : oldCells i.size (.slice k (j * i.size) len (.unk j)) sA with
            | none => rw [qo] at hev; cases hev
            | some r2 =>
            obtain ⟨old, s2⟩ := r2
            rw [qo] at hev
            simp only at hev
            cases qk : killB k s2 with
            | none => rw [qk] at hev; cases hev
            | some r3 =>
            obtain ⟨u3, s3⟩ := r3
            rw [qk] at hev
            simp only at hev
            cases qb : newB (.cells (old ++ new) e' i.size true) s3 with
            | none => rw [qb] at hev; cases hev
            | some r4 =>
            obtain ⟨k2, s4⟩ := r4
            rw [qb] at hev
            simp only [Option.some.injEq, Prod.mk.injEq] at hev
            obtain ⟨rfl, rfl⟩ := hev
            have leO := LeM.oldCells sA _ _ qo
            have leK := LeM.killB k s2 _ _ qk
            have leN := LeM.newB _ s3 _ _ qb
            obtain ⟨o1, o2, o3⟩ := oldCells_state qo
            have hqo := qo
            obtain ⟨⟨cK, hcK⟩, hklt, rfl⟩ := killB_some.1 qk
            obtain ⟨L, g1, g2, g3⟩ := start (leO.trans (leK.trans leN))
            obtain ⟨O, f1, f2, f3⟩ := oldCells_all (P := P) qo hA ((hp.same a2).left (leK.trans leN)) hx0
            have hkn : k < s.next := h.fresh k inf hk
            have hM : M k := hp k hkn (.inr (leN.wr k (by show (Nat.lor s2.wr (bit k)).testBit k = true; rw [testBit_lor]; simp)))
            have hb0 : s.heap.get k = some (.cells c e' i.size true) := by rw [← a1]; exact hb
            by_cases hroom : len + (n + 1) ≤ inf.cap - j
            · have hseg : seg c (j * i.size) (len * i.size) = some old ∨ (len = 0 ∧ old = []) := by
                unfold oldCells at hqo
                simp only at hqo
                cases len with
                | zero => simp only [Option.some.injEq, Prod.mk.injEq] at hqo; exact .inr ⟨rfl, hqo.1.symm⟩
                | succ len =>
                  simp only [hb] at hqo
                  cases qs : seg c (j * i.size) ((len + 1) * i.size) with
                  | none => rw [qs] at hqo; cases hqo
                  | some r => rw [qs] at hqo; simp only [Option.some.injEq, Prod.mk.injEq] at hqo; exact .inl (by rw [hqo.1])
              obtain ⟨rfl, n1, n2, rfl⟩ := newB_some.1 qb
              have nx : s2.next = s.next := o2.trans a2
              obtain ⟨W1, w1, w2⟩ := append_take (P := P) (s1 := ({ heap := Tr.put 20 (Tr.put 20 s2.heap k none) s2.next (some (.cells (old ++ new) e' i.size true)), next := s2.next + 1, rd := s2.rd, wr := Nat.lor (Nat.lor s2.wr (bit k)) (bit s2.next) } : St)) h hM hb0 hk rfl hj hroom hseg g2 g3 q1 (by rw [← nx]; exact n2)
                (by rw [← nx, ← a1, ← o1]) (by rw [← nx]) (fun q hq => by
                  show (Nat.lor (Nat.lor s2.wr (bit k)) (bit s2.next)).testBit q = _
                  rw [testBit_lor, testBit_lor, o3, a3, nx]
                  simp [hq])
              refine ⟨_, W1, _, run_append_room q0' ht hi gb g1 g3 hroom (fun a q => ?_) (fun q => by cases q), ?_, w2⟩
              · cases q
                rw [add_none]
                exact w1
              · simp only [conc, nx, Nu.add_eq, Option.bind_some, Nat.zero_add, Nat.sub_zero, Nat.add_zero]
                rw [if_pos hroom]
            · have hrun := run_append_more (ty := ty) (base := some ⟨inf.blk, inf.off + j * i.size, none⟩) (cap := inf.cap - j) q0' ht hi (hZ i hi) gb0 gb hl6 hn6 g1 g3 (by omega) f1
              have nx : s2.next = s.next := o2.trans a2
              have hK : Eff M B ν ν s ({ s2 with heap := Tr.put 20 s2.heap k none, wr := Nat.lor s2.wr (bit k) } : St) W W := Eff.kill h hM hb0 hk hklt (by show Tr.put 20 s2.heap k none = _; rw [o1, a1]) nx (fun q => by
                show (Nat.lor s2.wr (bit k)).testBit q = _
                rw [testBit_lor, o3, a3]) rfl (fun _ _ => rfl) rfl rfl rfl
              obtain ⟨e1, rfl⟩ := grown_new (need := len + (n + 1)) (cap := inf.cap - j) qb hK.sat hB f2 g2 gs hZs (by rw [g3, f3, ← Nat.add_mul]; rfl)
              have hge := grown_ge W (len + (n + 1)) e' (inf.cap - j)
              refine ⟨_, _, _, hrun, ?_, hK.trans e1 (leA.trans (leO.trans leK)) leN h.fresh⟩
              simp only [conc, Nu.add_eq, Option.bind_some, Nat.zero_add, Nat.sub_zero]
              rw [if_pos hge]
        · cases hev
  · cases hev
end
end Go.Proofs.YtnnalcfdeldocaaGreatDoor.X
namespace Go.Proofs.YtnnalcfdeldocaaGreatDoor.X
open Go
set_option linter.unusedVariables false
set_option linter.unusedSimpArgs false
section
variable {P : Program}
theorem LeM.rdM (k : Nat) : LeM (rdM k) := fun s a s1 hev => by
  obtain ⟨g1, rfl⟩ := rdM_some hev
  exact Le.rdk _ _
theorem LeM.wrM (k : Nat) (es : List (AV × AV × Nat)) (c : Nat) : LeM (wrM k es c) := fun s a s1 hev => by
  unfold X.wrM at hev
  split at hev
  · next hb =>
    split at hev
    · cases hev
    · next hl =>
      cases hev
      exact LeM.wrB k (.map es c) s () _ (wrB_some.2 ⟨⟨_, hb⟩, blt_iff.1 hl, rfl⟩)
  · cases hev
theorem LeM.loadE (t : TypeId) (k i : Nat) : LeM (loadE P t k i) := fun s a s1 hev => by
  unfold X.loadE at hev
  repeat' split at hev
  all_goals first
    | (cases hev; done)
    | (cases hev; exact Le.rdk _ _)
theorem LeM.storeE (t : TypeId) (k i : Nat) (v : AV) : LeM (storeE P t k i v) := fun s a s1 hev => by
  unfold X.storeE at hev
  repeat' split at hev
  all_goals first
    | (cases hev; done)
    | exact LeM.putE _ _ _ hev
theorem LeM.convE (a d : TypeId) (x : AV) : LeM (convE P a d x) := fun s v s1 hev => by
  unfold X.convE at hev
  repeat' split at hev
  all_goals first
    | (cases hev; done)
    | (cases hev; exact Le.refl _)
    | (cases hev; exact Le.rdk _ _)
    | (rename_i q; cases hev; exact LeM.newB _ _ _ _ q)
theorem LeM.slice1 (t : TypeId) (x : AV) (lo hi mx : Option Nat) : LeM (slice1 P t x lo hi mx) := fun s v s1 hev => by
  unfold X.slice1 at hev
  repeat' split at hev
  all_goals first
    | (cases hev; done)
    | (cases hev; exact Le.refl _)
    | (rename_i q; cases hev; exact LeM.nameB _ _ _ q)
theorem LeM.sliceE (t : TypeId) (x : AV) (lo hi mx : Option Nat) : LeM (sliceE P t x lo hi mx) := fun s v s1 hev => by
  unfold X.sliceE at hev
  repeat' split at hev
  all_goals first
    | (cases hev; done)
    | exact LeM.slice1 _ _ _ _ _ _ _ _ hev
theorem LeM.lookupE (t : TypeId) (x k : AV) (ok : Bool) : LeM (lookupE P t x k ok) := fun s v s1 hev => by
  unfold X.lookupE at hev
  repeat' split at hev
  all_goals first
    | (cases hev; done)
    | (cases hev; exact Le.refl _)
    | (cases hev; exact LeM.rdM _ _ _ _ (by assumption))
theorem LeM.updateE (t : TypeId) (m k v : AV) : LeM (updateE P t m k v) := fun s u s1 hev => by
  unfold X.updateE at hev
  repeat' split at hev
  all_goals first
    | (cases hev; done)
    | (rename_i q; cases hev; exact (LeM.rdM _ _ _ _ (by assumption)).trans (LeM.wrM _ _ _ _ _ _ q))
theorem LeM.rangeE (t : TypeId) (x : AV) : LeM (rangeE P t x) := fun s u s1 hev => by
  unfold X.rangeE at hev
  repeat' split at hev
  all_goals first
    | (cases hev; done)
    | (rename_i q; cases hev; exact LeM.newB _ _ _ _ q)
    | (rename_i q; cases hev; exact (LeM.rdM _ _ _ _ (by assumption)).trans (LeM.newB _ _ _ _ q))
theorem LeM.nextE (x : AV) : LeM (nextE x) := fun s u s1 hev => by
  unfold X.nextE at hev
  split at hev
  · next k =>
    split at hev
    · cases hev; exact Le.rdk _ _
    · next m since seen last hb =>
      split at hev
      · cases hev
      · next es c s2 q =>
        have l2 := (Le.rdk s k).trans (LeM.rdM _ _ _ _ q)
        split at hev
        · cases hev; exact l2
        · split at hev
          · cases hev
          · split at hev
            · cases hev; exact l2
            · next f q3 =>
              split at hev
              · cases hev
              · next q2 =>
                rw [Bool.and_eq_true] at q2
                cases hev
                have hb2 : s2.heap.get k = some (.iter (some m) since seen last) := by
                  obtain ⟨g1, rfl⟩ := rdM_some q
                  exact hb
                exact l2.trans (LeM.wrB k _ s2 () _ (wrB_some.2 ⟨⟨_, hb2⟩, blt_iff.1 q2.2, rfl⟩))
            · cases hev
    · cases hev
  · cases hev
theorem LeM.entryE (x : AV) : LeM (entryE x) := fun s u s1 hev => by
  unfold X.entryE at hev
  repeat' split at hev
  all_goals first
    | (cases hev; done)
    | (cases hev; exact (Le.rdk s _).trans (LeM.rdM _ _ _ _ (by assumption)))
theorem LeM.makeSliceE (t : TypeId) (l c : AV) : LeM (makeSliceE P t l c) := fun s u s1 hev => by
  unfold X.makeSliceE at hev
  repeat' split at hev
  all_goals first
    | (cases hev; done)
    | (rename_i q; cases hev; exact LeM.newB _ _ _ _ q)
theorem LeM.allocE (e : TypeId) (v : AV) : LeM (allocE e v) := fun s u s1 hev => by
  unfold X.allocE at hev
  repeat' split at hev
  all_goals first
    | (cases hev; done)
    | (rename_i q; cases hev; exact LeM.newB _ _ _ _ q)
theorem LeM.buildSliceE (t : TypeId) (n : Nat) (ps : List (Nat × AV)) : LeM (buildSliceE P t n ps) := fun s u s1 hev => by
  unfold X.buildSliceE at hev
  repeat' split at hev
  all_goals first
    | (cases hev; done)
    | (rename_i q; cases hev; exact LeM.newB _ _ _ _ q)
theorem LeM.appendE (at0 at1 : Option TypeId) (x y : AV) : LeM (appendE P at0 at1 x y) := fun s u s1 hev => by
  unfold X.appendE at hev
  repeat' split at hev
  all_goals first
    | (cases hev; done)
    | (cases hev; exact LeM.newCells _ _ _ (by assumption))
    | (rename_i q; cases hev; exact (LeM.newCells _ _ _ (by assumption)).trans (LeM.newB _ _ _ _ q))
    | (rename_i q; cases hev; exact (LeM.newCells _ _ _ (by assumption)).trans (LeM.putE _ _ _ q))
    | (rename_i q; cases hev; exact (LeM.newCells _ _ _ (by assumption)).trans ((LeM.oldCells _ _ _ (by assumption)).trans (LeM.newB _ _ _ _ q)))
    | (rename_i q; cases hev; exact (LeM.newCells _ _ _ (by assumption)).trans ((LeM.oldCells _ _ _ (by assumption)).trans ((LeM.killB _ _ _ _ (by assumption)).trans (LeM.newB _ _ _ _ q))))
theorem LeM.builtinE (b : Builtin) (ats : List TypeId) (args : List AV) : LeM (builtinE P b ats args) := fun s u s1 hev => by
  unfold X.builtinE at hev
  split at hev
  · exact LeM.appendE _ _ _ _ _ _ _ hev
  all_goals
    repeat' split at hev
    all_goals first
      | (cases hev; done)
      | (cases hev; exact Le.refl _)
      | (cases hev; exact LeM.rdM _ _ _ _ (by assumption))
      | (rename_i q; cases hev; exact (LeM.rdM _ _ _ _ (by assumption)).trans (LeM.wrM _ _ _ _ _ _ q))
      | (rename_i q; cases hev; exact LeM.putE _ _ _ q)
theorem LeM.opE (T : Tr AV) (o : Op) : LeM (opE P T o) := fun s u s1 hev => by
  unfold X.opE at hev
  split at hev
  all_goals
    repeat' split at hev
    all_goals first
      | (cases hev; done)
      | (cases hev; exact Le.refl _)
      | exact LeM.allocE _ _ _ _ _ hev
      | exact LeM.buildSliceE _ _ _ _ _ _ hev
      | exact LeM.loadE _ _ _ _ _ _ hev
      | (rename_i q; cases hev; exact LeM.storeE _ _ _ _ _ _ _ q)
      | exact LeM.convE _ _ _ _ _ _ hev
      | (rename_i q; cases hev; exact LeM.newB _ _ _ _ q)
      | exact LeM.makeSliceE _ _ _ _ _ _ hev
      | exact LeM.sliceE _ _ _ _ _ _ _ _ hev
      | exact LeM.lookupE _ _ _ _ _ _ _ hev
      | exact LeM.updateE _ _ _ _ _ _ _ hev
      | exact LeM.rangeE _ _ _ _ _ hev
      | exact LeM.nextE _ _ _ _ hev
      | exact LeM.entryE _ _ _ _ hev
      | exact LeM.builtinE _ _ _ _ _ _ hev
end
end Go.Proofs.YtnnalcfdeldocaaGreatDoor.X
