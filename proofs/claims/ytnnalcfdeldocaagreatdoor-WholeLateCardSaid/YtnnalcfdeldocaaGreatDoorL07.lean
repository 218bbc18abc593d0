/- A walk by the kernel: rows that are made. A walk by the kernel: places, parts. A walk by the kernel: slices of slices and texts. A walk by the kernel: x[lo:hi:max]. A walk by the kernel: a map's keys. -/
import Derived.Test.YtnnalcfdeldocaaGreatDoorL06
import Derived.Laws.MakeOwn
namespace Go.Proofs.YtnnalcfdeldocaaGreatDoor.X
open Go
set_option linter.unusedVariables false
set_option linter.unusedSimpArgs false
section
variable {P : Program} {M : Nat → Prop} {B : Nat} {ν : Nu} {s s1 : St} {W : World}
theorem elemS_ok {t e : TypeId} (h : elemS P t = some e) : P.underlying t = some (.slice e) := by
  unfold elemS at h
  cases q : P.underlying t with
  | none => rw [q] at h; cases h
  | some d => rw [q] at h; cases d <;> cases h; rfl
theorem rep_nil {z : List AV} {Z : List Value} (hz : concs ν z = some Z) (n : Nat) : concs ν (rep n z []) = some (repV n Z) := by
  have := rep_conc hz n concs_nil
  simpa using this
theorem buildSliceE_ok {t : TypeId} {len : Nat} {ps : List (Nat × AV)} {Ps : List (Nat × Value)} {v : AV} (hev : buildSliceE P t len ps s = some (v, s1)) (h : Sat M B ν s W) (hB : B ≤ W.heap.size) (hp : PartsOk ν ps Ps) : Out M B ν s W ((Instr.buildSlice t len Ps.toArray).run P W) v s1 := by
  unfold buildSliceE at hev
  cases qe : elemS P t with
  | none => rw [qe] at hev; cases hev
  | some e =>
    rw [qe] at hev
    simp only at hev
    split at hev
    · next z zv qs qz =>
      split at hev
      · cases hev
      · next ql =>
        rw [Bool.and_eq_true] at ql
        have hl : zv.cells.length = z := by rw [← lenL_eq]; exact beq_iff.1 ql.1
        have hlt := blt_iff.1 ql.2
        split at hev
        · cases hev
        · next c qf =>
          cases qn : newB (.cells c e z false) s with
          | none => rw [qn] at hev; cases hev
          | some r =>
            obtain ⟨k, s2⟩ := r
            rw [qn] at hev
            simp only [Option.some.injEq, Prod.mk.injEq] at hev
            obtain ⟨rfl, rfl⟩ := hev
            obtain ⟨Z, r1, r2⟩ := run_zeroT qz W
            have hz := conc_cells (r2 ν)
            have hZ : Z.cells.size = z := by rw [← hl, ← concs_length hz]; simp
            obtain ⟨C', f1, f2⟩ := fillE_ok (place' := fun i => some (i * z, z)) (fun i x hx => hx) (C := (repV len Z.cells.toList).toArray) qf hp (by simpa using rep_nil hz len)
            obtain ⟨hE, rfl⟩ := newB_known qn (W1 := { W with heap := W.heap.push (.cells C' e (0, 0)) }) h hB f2 0 (by simp) rfl rfl rfl
            refine ⟨.slice (some ⟨W.heap.size, 0, none⟩) len len, _, _, ?_, by simp [conc, Nu.add_eq], hE⟩
            have hr : (if len * z = 0 then (Pure.pure #[] : Sem (Array Value)) else do Pure.pure (← zeroValue e).cells).run P W = .ok (if len * z = 0 then #[] else Z.cells) W := by
              split <;> simp [r1]
            have hrow : ((Array.range (len * z)).map fun i => (if len * z = 0 then #[] else Z.cells)[i % (if len * z = 0 then #[] else Z.cells).size]!) = (repV len Z.cells.toList).toArray := by
              by_cases q0 : len * z = 0
              · have : (repV len Z.cells.toList).length = 0 := by rw [repV_length]; simp [hZ]; simpa using q0
                rw [List.eq_nil_of_length_eq_zero this]
                simp [q0]
              · rw [if_neg q0]
                exact zeros_row Z.cells len z hZ
            have hbig : ¬ (len * z > 2 ^ 24) := by
              have : (2 : Nat) ^ 24 = 16777216 := by decide
              omega
            have hbig' : ¬ (16777216 < len * z) := by omega
            by_cases q0 : len * z = 0
            · simp only [q0, if_true] at hrow
              have e0 : (repV len Z.cells.toList).toArray = #[] := by rw [← hrow]; simp
              rw [e0] at f1
              have er : Array.map (fun (x : Nat) => (default : Value)) (Array.range 0) = #[] := by apply Array.ext'; simp
              simp [Instr.buildSlice, run_underlying (elemS_ok qe), run_sizeT qs, q0, er, f1, newRow]
            · simp only [q0, if_false] at hrow
              simp [Instr.buildSlice, run_underlying (elemS_ok qe), run_sizeT qs, q0, hbig', r1, hrow, f1, newRow]
    · cases hev
theorem info_ok {e : TypeId} {i : TypeInfo} (h : info P e = some i) : P.info? e = some i := h
theorem makeSliceE_ok {t : TypeId} {l c v : AV} (hev : makeSliceE P t l c s = some (v, s1)) (h : Sat M B ν s W) (hB : B ≤ W.heap.size) {L C : Value} (hL : conc ν l = some L) (hC : conc ν c = some C) : Out M B ν s W ((Instr.makeSlice t L C).run P W) v s1 := by
  unfold makeSliceE at hev
  cases qe : elemS P t with
  | none => rw [qe] at hev; cases hev
  | some e =>
    rw [qe] at hev
    simp only at hev
    split at hev
    · next l' c' z i ql qc qz qi =>
      split at hev
      · cases hev
      · next qb =>
        rw [Bool.and_eq_true, Bool.and_eq_true] at qb
        have h1 := ble_iff.1 qb.1.1
        have h2 := blt_iff.1 qb.1.2
        have h3 := blt_iff.1 qb.2
        split at hev
        · cases hev
        · next qz2 =>
          cases qn : newB (.cells (rep c' z.cells []) e i.size false) s with
          | none => rw [qn] at hev; cases hev
          | some r =>
            obtain ⟨k, s2⟩ := r
            rw [qn] at hev
            simp only [Option.some.injEq, Prod.mk.injEq] at hev
            obtain ⟨rfl, rfl⟩ := hev
            have nat : ∀ {x : AV} {n : Nat} {X : Value}, natOf x = some n → conc ν x = some X → ∃ k, X = .int k (n : Int) := fun {x n X} hn hx => by
              cases x with
              | int k m =>
                cases m with
                | ofNat m => simp only [natOf, Option.some.injEq] at hn; subst hn; simp only [conc, Option.some.injEq] at hx; exact ⟨k, hx.symm⟩
                | negSucc m => simp [natOf] at hn
              | _ => simp [natOf] at hn
            obtain ⟨kl, rfl⟩ := nat ql hL
            obtain ⟨kc, rfl⟩ := nat qc hC
            obtain ⟨Z, r1, r2⟩ := run_zeroT qz W
            have hz := conc_cells (r2 ν)
            have hZ : Z.cells.size = i.size := by rw [← beq_iff.1 qz2, lenL_eq, ← concs_length hz]; simp
            have hzero : i.zero = some Z := by
              simp only [zeroValue, typeInfo, Sem.run_bind, run_program, Result.andThen_ok, info_ok qi] at r1
              cases q : i.zero with
              | none => simp [q] at r1
              | some Z' => simp [q] at r1; rw [r1]
            obtain ⟨hE, rfl⟩ := newB_known qn (W1 := { W with heap := W.heap.push (.cells (repV c' Z.cells.toList).toArray e (0, 0)) }) h hB (rep_nil hz c') 0 rfl rfl rfl rfl
            refine ⟨.slice (some ⟨W.heap.size, 0, none⟩) l' c', _, _, ?_, by simp [conc, Nu.add_eq], hE⟩
            have hr := run_make (P := P) W t e i Z (elemS_ok qe) (info_ok qi) hzero kl kc (l' : Int) (c' : Int) (by omega) (by omega) (by
              have : ((i.bytes * c' : Nat) : Int) ≤ 281474976710656 := by omega
              rwa [Int.natCast_mul] at this) (by omega)
            rw [hr]
            simp only [Int.toNat_natCast]
            congr 1
            unfold World.alloc madeCells
            rw [zeros_row Z.cells c' i.size hZ]
    · cases hev
end
end Go.Proofs.YtnnalcfdeldocaaGreatDoor.X
namespace Go.Proofs.YtnnalcfdeldocaaGreatDoor.X
open Go
set_option linter.unusedVariables false
set_option linter.unusedSimpArgs false
section
variable {P : Program} {M : Nat → Prop} {B : Nat} {ν : Nu} {s s1 : St} {W : World}
theorem natOf_ok {x : AV} {n : Nat} {X : Value} (hn : natOf x = some n) (hx : conc ν x = some X) : ∃ k, X = .int k (n : Int) := by
  cases x with
  | int k m =>
    cases m with
    | ofNat m => simp only [natOf, Option.some.injEq] at hn; subst hn; simp only [conc, Option.some.injEq] at hx; exact ⟨k, hx.symm⟩
    | negSucc m => simp [natOf] at hn
  | _ => simp [natOf] at hn
theorem add_mul (b o i : Nat) : (⟨b, o, none⟩ : Addr).add i = ⟨b, o + i, none⟩ := add_none b o i
theorem indexAddrE_ok {t : TypeId} {x ix v : AV} (hev : indexAddrE P t x ix = some v) {X I : Value} (hX : conc ν x = some X) (hI : conc ν ix = some I) : ∃ V, (Instr.indexAt t X I).run P W = .ok V W ∧ conc ν v = some V := by
  unfold indexAddrE at hev
  cases qn : natOf ix with
  | none => rw [qn] at hev; cases hev
  | some n =>
    rw [qn] at hev
    simp only at hev
    obtain ⟨kI, rfl⟩ := natOf_ok qn hI
    split at hev
    · next len e k i q =>
      split at hev
      · cases hev
      · next ql =>
        have hl := blt_iff.1 ql
        cases qs : sizeT P e with
        | none => rw [qs] at hev; cases hev
        | some z =>
          rw [qs] at hev; cases hev
          obtain ⟨inf, h1, rfl⟩ := conc_ptr hX
          refine ⟨.pointer (some ⟨inf.blk, inf.off + i + n * z, none⟩), ?_, by simp [conc, h1, Nat.add_assoc]⟩
          have : (n : Int) < (len : Int) := by omega
          simp [Instr.indexAt, asIntOf, run_underlying q, Instr.sureAddr, run_sizeT qs, this, add_none, hl]
    · next e k i len cap q =>
      split at hev
      · cases hev
      · next ql =>
        have hl := blt_iff.1 ql
        cases qs : sizeT P e with
        | none => rw [qs] at hev; cases hev
        | some z =>
          rw [qs] at hev; cases hev
          obtain ⟨inf, c, h1, rfl, _⟩ := conc_slice hX
          refine ⟨.pointer (some ⟨inf.blk, inf.off + i + n * z, none⟩), ?_, by simp [conc, h1, Nat.add_assoc]⟩
          have : (n : Int) < (len : Int) := by omega
          simp [Instr.indexAt, asIntOf, run_underlying q, Instr.sureAddr, run_sizeT qs, this, add_none, hl]
    · cases hev
theorem fieldOf_ok {t f : Nat} {fl : Field} (h : fieldOf P t f = some fl) : ∃ fs, P.underlying t = some (.struct fs) ∧ fs[f]? = some fl := by
  unfold fieldOf at h
  cases q : P.underlying t with
  | none => rw [q] at h; cases h
  | some d => rw [q] at h; cases d <;> first | cases h | exact ⟨_, rfl, h⟩
theorem fieldAddr_ok {t f k i n : Nat} {fl : Field} (h : fieldOf P t f = some fl) (hs : sizeT P fl.type = some (n + 1)) {X : Value} (hX : conc ν (.ptr k i) = some X) : ∃ V, (Instr.fieldAt t X f).run P W = .ok V W ∧ conc ν (.ptr k (i + fl.offset)) = some V := by
  obtain ⟨fs, q, hf⟩ := fieldOf_ok h
  obtain ⟨inf, h1, rfl⟩ := conc_ptr hX
  refine ⟨.pointer (some ⟨inf.blk, inf.off + i + fl.offset, none⟩), ?_, by simp [conc, h1, Nat.add_assoc]⟩
  simp [Instr.fieldAt, run_underlying q, hf, Instr.sureAddr, fieldPlace, run_sizeT hs, add_none]
/-- A part of a value. -/
theorem part_ok {t off : Nat} {cs : List AV} {Cs : List Value} {v : AV} (hc : concs ν cs = some Cs) (hev : (match isAggT P t with
    | some true => match sizeT P t with
      | none => none
      | some z => match seg cs off z with
        | none => none
        | some r => some (AV.agg r)
    | some false => nth cs off
    | none => none) = some v) : ∃ V, (part t Cs.toArray off).run P W = .ok V W ∧ conc ν v = some V := by
  cases qa : isAggT P t with
  | none => rw [qa] at hev; cases hev
  | some b =>
    rw [qa] at hev
    cases b with
    | false => exact run_part qa hev hc
    | true =>
      simp only at hev
      cases qs : sizeT P t with
      | none => rw [qs] at hev; cases hev
      | some z =>
        rw [qs] at hev
        simp only at hev
        cases qg : seg cs off z with
        | none => rw [qg] at hev; cases hev
        | some r =>
          rw [qg] at hev; cases hev
          obtain ⟨h1, h2⟩ := seg_spec qg
          have hl := concs_length hc
          have hr : concs ν r = some ((Cs.drop off).take z) := by
            refine concs_of ?_ (fun j w hw => ?_)
            · rcases Nat.eq_zero_or_pos z with e | e
              · subst e; simp [h1]
              · have := h2 (z - 1) (by omega)
                rw [List.getElem?_eq_getElem (show z - 1 < r.length by omega)] at this
                have := (List.getElem?_eq_some_iff.1 this).1
                simp; omega
            · have hj : j < z := by rw [← h1]; exact (List.getElem?_eq_some_iff.1 hw).1
              obtain ⟨V, a, b⟩ := concs_get hc (by rw [h2 j hj]; exact hw : cs[off + j]? = some w)
              exact ⟨V, by rw [List.getElem?_take, if_pos hj, List.getElem?_drop]; exact a, b⟩
          refine ⟨.agg ((Cs.drop off).take z).toArray, ?_, by simp only [conc, hr, Option.map_some]⟩
          simp only [part, Sem.run_bind, run_isAggT qa, Result.andThen_ok, if_true, run_sizeT qs, Sem.run_pure]
          congr 2
          apply Array.ext'
          simp [Array.toList_extract]
theorem nthN_eq : ∀ (l : List Nat) (i : Nat), nthN l i = l[i]?
  | [], i => by simp [nthN]
  | v :: _, 0 => by simp [nthN]
  | _ :: vs, i + 1 => by rw [nthN, nthN_eq vs i, List.getElem?_cons_succ]
theorem indexE_ok {t : TypeId} {x ix v : AV} (hev : indexE P t x ix = some v) {X I : Value} (hX : conc ν x = some X) (hI : conc ν ix = some I) : ∃ V, (Instr.index t X I).run P W = .ok V W ∧ conc ν v = some V := by
  unfold indexE at hev
  cases qn : natOf ix with
  | none => rw [qn] at hev; cases hev
  | some n =>
    rw [qn] at hev
    simp only at hev
    obtain ⟨kI, rfl⟩ := natOf_ok qn hI
    split at hev
    · next len e cs q =>
      split at hev
      · cases hev
      · next ql =>
        have hl := blt_iff.1 ql
        cases qs : sizeT P e with
        | none => rw [qs] at hev; cases hev
        | some z =>
          rw [qs] at hev
          simp only at hev
          obtain ⟨Cs, hc, rfl⟩ := conc_agg hX
          obtain ⟨V, r1, r2⟩ := part_ok (P := P) (W := W) (t := e) (off := n * z) (v := v) hc (by
            cases qa : isAggT P e with
            | none => rw [qa] at hev; cases hev
            | some b => rw [qa] at hev; cases b <;> simp only [qs] <;> exact hev)
          refine ⟨V, ?_, r2⟩
          have : (n : Int) < (len : Int) := by omega
          simp [Instr.index, asIntOf, run_underlying q, run_sizeT qs, this, r1, hl]
    · next b q =>
      cases qi : nthN b n with
      | none => rw [qi] at hev; cases hev
      | some c =>
        rw [qi] at hev; cases hev
        obtain ⟨hb, rfl⟩ := conc_str hX
        rw [nthN_eq] at qi
        have hc : c < 256 := by
          unfold strOk at hb
          exact blt_iff.1 (List.all_eq_true.1 hb c (List.mem_of_getElem? qi))
        have hn : n < b.length := (List.getElem?_eq_some_iff.1 qi).1
        refine ⟨.int .u8 (c : Int), ?_, by simp [conc]⟩
        have hg : (bytesOf b)[n]? = some (UInt8.ofNat c) := by
          rw [getElem?_pos (bytesOf b) n (by rw [bytesOf_size]; exact hn)]
          congr 1
          have : b[n] = c := by rw [List.getElem?_eq_getElem hn] at qi; cases qi; rfl
          show ((b.map UInt8.ofNat).toArray)[n]'(by simpa using hn) = _
          simp [this]
        simp [Instr.index, asIntOf, run_underlying q, hg]
        omega
    · cases hev
theorem fieldE_ok {t f : Nat} {x v : AV} (hev : fieldE P t x f = some v) {X : Value} (hX : conc ν x = some X) : ∃ V, (Instr.field t X f).run P W = .ok V W ∧ conc ν v = some V := by
  unfold fieldE at hev
  split at hev
  · next fl cs hf =>
    obtain ⟨fs, q, hf'⟩ := fieldOf_ok hf
    obtain ⟨Cs, hc, rfl⟩ := conc_agg hX
    obtain ⟨V, r1, r2⟩ := part_ok (P := P) (W := W) (t := fl.type) (off := fl.offset) (v := v) hc (by
      cases qa : isAggT P fl.type with
      | none => rw [qa] at hev; cases hev
      | some b => rw [qa] at hev; cases b <;> exact hev)
    exact ⟨V, by simp [Instr.field, run_underlying q, hf', asAgg, r1], r2⟩
  · cases hev
end
end Go.Proofs.YtnnalcfdeldocaaGreatDoor.X
namespace Go.Proofs.YtnnalcfdeldocaaGreatDoor.X
open Go
set_option linter.unusedVariables false
set_option linter.unusedSimpArgs false
section
variable {P : Program} {M : Nat → Prop} {B : Nat} {ν : Nu} {s s1 : St} {W : World}
/-- A bound, as the model has it. -/
def BoundOk : Option Nat → Option Value → Prop
  | none, none => True
  | some n, some V => ∃ k, V = .int k (n : Int)
  | _, _ => False
theorem natOpt_ok {T : Tr AV} {a : Act} (ht : TRel ν T a.tmps) {o : Option Operand} {r : Option Nat} (h : natOpt T o = some r) : BoundOk r (o.map a.eval) := by
  cases o with
  | none => simp only [natOpt, Option.some.injEq] at h; subst h; trivial
  | some o =>
    simp only [natOpt] at h
    cases q : opv T o with
    | none => rw [q] at h; cases h
    | some v =>
      rw [q] at h
      simp only at h
      cases q2 : natOf v with
      | none => rw [q2] at h; cases h
      | some n => rw [q2] at h; cases h; exact natOf_ok q2 (opv_ok ht q)
theorem run_bound {n y : Nat} {V : Value} {c : BoundsCode} (h : ∃ k, V = .int k (n : Int)) (hn : n ≤ y) : (Instr.sliceBound V y c).run P W = .ok n W := by
  obtain ⟨k, rfl⟩ := h
  have h1 : (0 : Int) ≤ (n : Int) ∧ (n : Int) ≤ (y : Int) := ⟨by omega, by omega⟩
  simp [Instr.sliceBound, asIntOf, h1, hn]
theorem run_bounds {b : Bool} {len cap : Nat} {lo hi mx : Option Nat} {Lo Hi Mx : Option Value} (hl : BoundOk lo Lo) (hh : BoundOk hi Hi) (hm : BoundOk mx Mx) (h1 : lo.getD 0 ≤ hi.getD len) (h2 : hi.getD len ≤ mx.getD cap) (h3 : mx.getD cap ≤ cap) (h4 : mx ≠ none → hi ≠ none) :
    (Instr.sliceBounds b len cap Lo Hi Mx).run P W = .ok (lo.getD 0, hi.getD len, mx.getD cap) W := by
  cases mx with
  | none =>
    cases Mx with
    | some _ => exact hm.elim
    | none =>
      cases hi with
      | none =>
        cases Hi with
        | some _ => exact hh.elim
        | none =>
          cases lo with
          | none =>
            cases Lo with
            | some _ => exact hl.elim
            | none => simp [Instr.sliceBounds]
          | some l =>
            cases Lo with
            | none => exact hl.elim
            | some L =>
              simp only [Option.getD_none, Option.getD_some] at h1
              simp [Instr.sliceBounds, run_bound hl h1]
      | some hh' =>
        cases Hi with
        | none => exact hh.elim
        | some H =>
          simp only [Option.getD_none, Option.getD_some] at h1 h2
          cases lo with
          | none =>
            cases Lo with
            | some _ => exact hl.elim
            | none => simp [Instr.sliceBounds, run_bound hh h2]
          | some l =>
            cases Lo with
            | none => exact hl.elim
            | some L =>
              simp only [Option.getD_some] at h1
              simp [Instr.sliceBounds, run_bound hh h2, run_bound hl h1]
  | some m =>
    cases Mx with
    | none => exact hm.elim
    | some MM =>
      cases hi with
      | none => exact absurd rfl (h4 (by simp))
      | some hh' =>
        cases Hi with
        | none => exact hh.elim
        | some H =>
          simp only [Option.getD_some] at h1 h2 h3
          cases lo with
          | none =>
            cases Lo with
            | some _ => exact hl.elim
            | none => simp [Instr.sliceBounds, run_bound hm h3, run_bound hh h2]
          | some l =>
            cases Lo with
            | none => exact hl.elim
            | some L =>
              simp only [Option.getD_some] at h1
              simp [Instr.sliceBounds, run_bound hm h3, run_bound hh h2, run_bound hl h1]
/-- A slice of a slice, as the model has it. -/
theorem run_slice {t e z : TypeId} (q : P.underlying t = some (.slice e)) (qs : sizeT P e = some z) {a : Option Addr} {len cap : Nat} {lo hi mx : Option Nat} {Lo Hi Mx : Option Value} (hl : BoundOk lo Lo) (hh : BoundOk hi Hi) (hm : BoundOk mx Mx) (h1 : lo.getD 0 ≤ hi.getD len) (h2 : hi.getD len ≤ mx.getD cap) (h3 : mx.getD cap ≤ cap) (h4 : mx ≠ none → hi ≠ none) :
    (Instr.sliceAt t (.slice a len cap) Lo Hi Mx).run P W = .ok (.slice (if mx.getD cap = lo.getD 0 then a else a.map (·.add (lo.getD 0 * z))) (hi.getD len - lo.getD 0) (mx.getD cap - lo.getD 0)) W := by
  simp only [Instr.sliceAt, Sem.run_bind, run_underlying q, Result.andThen_ok, Instr.slice, run_bounds (b := true) hl hh hm h1 h2 h3 h4, run_sizeT qs, Sem.run_pure]
end
end Go.Proofs.YtnnalcfdeldocaaGreatDoor.X
namespace Go.Proofs.YtnnalcfdeldocaaGreatDoor.X
open Go
set_option linter.unusedVariables false
set_option linter.unusedSimpArgs false
section
variable {P : Program} {M : Nat → Prop} {B : Nat} {ν : Nu} {s s1 : St} {W : World}
theorem bytesOf_extract (b : List Nat) (l h : Nat) : (bytesOf b).extract l h = bytesOf ((b.take h).drop l) := by
  apply ByteArray.ext
  rw [ByteArray.data_extract]
  unfold bytesOf
  simp only [List.extract_toArray, List.extract_eq_take_drop, List.map_drop, List.map_take, List.drop_take]
theorem strOk_sub {b : List Nat} (h : strOk b = true) (l m : Nat) : strOk ((b.take m).drop l) = true := by
  unfold strOk at *
  rw [List.all_eq_true] at h ⊢
  exact fun x hx => h x (List.mem_of_mem_take (List.mem_of_mem_drop hx))
theorem run_slice_str {t : TypeId} (q : P.underlying t = some .string) {S : ByteArray} {lo hi : Option Nat} {Lo Hi : Option Value} (hl : BoundOk lo Lo) (hh : BoundOk hi Hi) (h1 : lo.getD 0 ≤ hi.getD S.size) (h2 : hi.getD S.size ≤ S.size) :
    (Instr.sliceAt t (.string S) Lo Hi none).run P W = .ok (.string (S.extract (lo.getD 0) (hi.getD S.size))) W := by
  simp only [Instr.sliceAt, Sem.run_bind, run_underlying q, Result.andThen_ok, Instr.slice, Option.isSome_none, Bool.false_eq_true, if_false, Sem.run_pure, run_bounds (P := P) (W := W) (b := false) (len := S.size) (cap := S.size) (mx := none) (Mx := none) hl hh trivial h1 h2 (Nat.le_refl _) (by simp)]
theorem slice1_ok {t : TypeId} {x v : AV} {X : Value} {lo hi mx : Option Nat} {Lo Hi Mx : Option Value} (hev : slice1 P t x lo hi mx s = some (v, s1)) (h : Sat M B ν s W) (hB : B ≤ W.heap.size) (hx : conc ν x = some X) (hl : BoundOk lo Lo) (hh : BoundOk hi Hi) (hm : BoundOk mx Mx) (h4 : mx ≠ none → hi ≠ none) :
    Out M B ν s W ((Instr.sliceAt t X Lo Hi Mx).run P W) v s1 := by
  unfold slice1 at hev
  cases x with
  | str b =>
    simp only at hev
    cases mx with
    | some _ => cases hev
    | none =>
      cases Mx with
      | some _ => exact hm.elim
      | none =>
        cases q : P.underlying t with
        | none => rw [q] at hev; cases hev
        | some d =>
          rw [q] at hev
          cases d <;> first | (cases hev; done) | skip
          simp only at hev
          split at hev
          · next g =>
            simp only [Option.some.injEq, Prod.mk.injEq] at hev
            obtain ⟨rfl, rfl⟩ := hev
            simp only [Bool.and_eq_true, Nat.ble_eq] at g
            obtain ⟨u1, rfl⟩ := conc_str hx
            refine Out.pure h (run_slice_str q hl hh (by rw [bytesOf_size]; exact g.1) (by rw [bytesOf_size]; exact g.2)) ?_
            rw [bytesOf_extract, bytesOf_size]
            exact conc_str_of (strOk_sub u1 _ _)
          · cases hev
  | slice0 =>
    simp only at hev
    split at hev
    · next g1 g2 g3 =>
      cases qe : elemS P t with
      | none => rw [qe] at hev; cases hev
      | some e =>
        rw [qe] at hev
        simp only at hev
        cases qz : sizeT P e with
        | none => rw [qz] at hev; cases hev
        | some z =>
          rw [qz] at hev
          simp only [Option.some.injEq, Prod.mk.injEq] at hev
          obtain ⟨rfl, rfl⟩ := hev
          have := conc_slice0 hx
          subst this
          have hr := run_slice (P := P) (W := W) (elemS_ok qe) qz (a := none) (len := 0) (cap := 0) hl hh hm (by rw [g1, g2]; exact Nat.le_refl _) (by rw [g1, g3]; exact Nat.le_refl _) (by rw [g3]; exact Nat.le_refl _) h4
          rw [g1, g2, g3] at hr
          exact Out.pure h hr (by simp [conc])
    · cases hev
  | slice k i len cap =>
    simp only at hev
    cases qe : elemS P t with
    | none => rw [qe] at hev; cases hev
    | some e =>
      rw [qe] at hev
      simp only at hev
      cases qz : sizeT P e with
      | none => rw [qz] at hev; cases hev
      | some z =>
        rw [qz] at hev
        simp only at hev
        obtain ⟨inf, c, hk, rfl, hc1, hc2⟩ := conc_slice hx
        have hu := elemS_ok qe
        cases mx with
        | some m =>
          cases cap with
          | known c' =>
            have := hc1 c' rfl
            subst this
            simp only at hev
            split at hev
            · next g =>
              simp only [Bool.and_eq_true, Nat.ble_eq] at g
              have hr := run_slice (P := P) (W := W) hu qz (a := some ⟨inf.blk, inf.off + i, none⟩) hl hh hm g.1 (by simpa using g.2.1) (by simpa using g.2.2) h4
              simp only [Option.getD_some] at hr
              cases q2 : Nat.beq m (lo.getD 0) with
              | true =>
                rw [q2] at hev
                simp only [Option.some.injEq, Prod.mk.injEq] at hev
                obtain ⟨rfl, rfl⟩ := hev
                rw [if_pos (Nat.eq_of_beq_eq_true q2)] at hr
                exact Out.pure h hr (by simp [conc, hk])
              | false =>
                rw [q2] at hev
                simp only [Option.some.injEq, Prod.mk.injEq] at hev
                obtain ⟨rfl, rfl⟩ := hev
                rw [if_neg (Nat.ne_of_beq_eq_false q2)] at hr
                exact Out.pure h hr (by simp [conc, hk, Addr.add, Nat.add_assoc])
            · cases hev
          | unk j =>
            obtain ⟨hj, rfl⟩ := hc2 j rfl
            simp only at hev
            split at hev
            · next g =>
              simp only [Bool.and_eq_true, Nat.ble_eq] at g
              have hr := run_slice (P := P) (W := W) hu qz (a := some ⟨inf.blk, inf.off + i, none⟩) (len := len) (cap := inf.cap - j) hl hh hm g.1 (by simpa using g.2.1) (by simp only [Option.getD_some]; omega) h4
              simp only [Option.getD_some] at hr
              cases q2 : Nat.beq m (lo.getD 0) with
              | true =>
                rw [q2] at hev
                simp only [Option.some.injEq, Prod.mk.injEq] at hev
                obtain ⟨rfl, rfl⟩ := hev
                rw [if_pos (Nat.eq_of_beq_eq_true q2)] at hr
                exact Out.pure h hr (by simp [conc, hk])
              | false =>
                rw [q2] at hev
                simp only [Option.some.injEq, Prod.mk.injEq] at hev
                obtain ⟨rfl, rfl⟩ := hev
                rw [if_neg (Nat.ne_of_beq_eq_false q2)] at hr
                exact Out.pure h hr (by simp [conc, hk, Addr.add, Nat.add_assoc])
            · cases hev
        | none =>
          cases Mx with
          | some _ => exact hm.elim
          | none =>
            cases cap with
            | known c' =>
              have := hc1 c' rfl
              subst this
              simp only at hev
              split at hev
              · next g =>
                simp only [Bool.and_eq_true, Nat.ble_eq] at g
                have hr := run_slice (P := P) (W := W) hu qz (a := some ⟨inf.blk, inf.off + i, none⟩) (len := len) (cap := c) (mx := none) hl hh hm g.1 (by simpa using g.2) (by simp) (by simp)
                simp only [Option.getD_none] at hr
                cases q2 : Nat.beq c (lo.getD 0) with
                | true =>
                  rw [q2] at hev
                  simp only [Option.some.injEq, Prod.mk.injEq] at hev
                  obtain ⟨rfl, rfl⟩ := hev
                  rw [if_pos (Nat.eq_of_beq_eq_true q2)] at hr
                  exact Out.pure h hr (by simp [conc, hk])
                | false =>
                  rw [q2] at hev
                  simp only [Option.some.injEq, Prod.mk.injEq] at hev
                  obtain ⟨rfl, rfl⟩ := hev
                  rw [if_neg (Nat.ne_of_beq_eq_false q2)] at hr
                  exact Out.pure h hr (by simp [conc, hk, Addr.add, Nat.add_assoc])
              · cases hev
            | unk j =>
              obtain ⟨hj, rfl⟩ := hc2 j rfl
              simp only at hev
              split at hev
              · next g =>
                simp only [Bool.and_eq_true, Nat.ble_eq] at g
                have hr := run_slice (P := P) (W := W) hu qz (a := some ⟨inf.blk, inf.off + i, none⟩) (len := len) (cap := inf.cap - j) (mx := none) hl hh hm g.1 (by simp only [Option.getD_none]; omega) (by simp) (by simp)
                simp only [Option.getD_none] at hr
                cases q2 : Nat.beq (lo.getD 0) 0 with
                | true =>
                  rw [q2] at hev
                  simp only [Option.some.injEq, Prod.mk.injEq] at hev
                  obtain ⟨rfl, rfl⟩ := hev
                  have q3 := Nat.eq_of_beq_eq_true q2
                  rw [q3] at hr
                  simp only [Nat.sub_zero, Nat.zero_mul, Option.map_some, Addr.add, Nat.add_zero, ite_self] at hr
                  refine Out.pure h hr ?_
                  simp only [conc, hk, Option.bind_some]
                  rw [if_pos (by omega)]
                | false =>
                  rw [q2] at hev
                  simp only at hev
                  cases q4 : Nat.blt (lo.getD 0) len with
                  | true =>
                    rw [q4] at hev
                    simp only [Option.some.injEq, Prod.mk.injEq] at hev
                    obtain ⟨rfl, rfl⟩ := hev
                    have q5 := blt_iff.1 q4
                    rw [if_neg (by omega)] at hr
                    refine Out.pure h hr ?_
                    simp only [conc, hk, Option.bind_some]
                    rw [if_pos (by omega)]
                    simp [Addr.add, Nat.add_assoc, Nat.sub_sub]
                  | false =>
                    rw [q4] at hev
                    simp only at hev
                    have q5 : ¬ lo.getD 0 < len := fun q => by rw [blt_iff.2 q] at q4; cases q4
                    have q6 : hi.getD len = len := by omega
                    have q7 : lo.getD 0 = len := by omega
                    cases qn : nameB s with
                    | none => rw [qn] at hev; cases hev
                    | some p =>
                      obtain ⟨n, s2⟩ := p
                      rw [qn] at hev
                      simp only [Option.some.injEq, Prod.mk.injEq] at hev
                      obtain ⟨rfl, rfl⟩ := hev
                      obtain ⟨rfl, hn1, rfl⟩ := nameB_some.1 qn
                      rw [q6, q7] at hr
                      rw [Nat.sub_self] at hr
                      have hb := h.lt k inf hk
                      refine ⟨_, W, ν.add s.next ⟨inf.blk, if inf.cap - j = len then inf.off + i else inf.off + i + len * z, inf.cap - j - len⟩, hr, ?_, Eff.name h ⟨hb.1, hb.2⟩ (fun ⟨c, l⟩ => by rw [hn1] at l; cases l) rfl rfl⟩
                      simp only [conc, Nu.add, if_true, Option.bind_some, Nat.zero_add, Nat.zero_le, Nat.sub_zero, Nat.add_zero]
                      split <;> simp [Addr.add]
              · cases hev
  | _ => cases hev
theorem sliceE_ok {t : TypeId} {x v : AV} {X : Value} {lo hi mx : Option Nat} {Lo Hi Mx : Option Value} (hev : sliceE P t x lo hi mx s = some (v, s1)) (h : Sat M B ν s W) (hB : B ≤ W.heap.size) (hx : conc ν x = some X) (hl : BoundOk lo Lo) (hh : BoundOk hi Hi) (hm : BoundOk mx Mx) :
    Out M B ν s W ((Instr.sliceAt t X Lo Hi Mx).run P W) v s1 := by
  unfold sliceE at hev
  split at hev
  · exact slice1_ok hev h hB hx hl hh hm (by simp)
  · exact slice1_ok hev h hB hx hl hh hm (by simp)
  · cases hev
end
end Go.Proofs.YtnnalcfdeldocaaGreatDoor.X
namespace Go.Proofs.YtnnalcfdeldocaaGreatDoor.X
open Go
set_option linter.unusedVariables false
set_option linter.unusedSimpArgs false
section
variable {P : Program} {M : Nat → Prop} {B : Nat} {ν : Nu} {s s1 : St} {W : World}
theorem mapT_ok {t kt et : TypeId} (h : mapT P t = some (kt, et)) : P.underlying t = some (.map kt et) := by
  unfold mapT at h
  cases q : P.underlying t with
  | none => rw [q] at h; cases h
  | some d => rw [q] at h; cases d <;> cases h; rfl
theorem sameNow_ok {kind : TypeDesc} {x y : AV} {r : Bool} (hev : eqPlain x y = some r) {X Y : Value} (hX : conc ν x = some X) (hY : conc ν y = some Y) : Instr.sameNow kind X Y = none ∨ Instr.sameNow kind X Y = some r := by
  unfold eqPlain at hev
  split at hev
  · next k a k' b =>
    split at hev
    · next q =>
      have := of_decide_eq_true q
      subst this
      cases hev
      simp only [conc, Option.some.injEq] at hX hY
      subst hX; subst hY
      cases kind <;> simp [Instr.sameNow]
    · cases hev
  · cases hev
    simp only [conc, Option.some.injEq] at hX hY
    subst hX; subst hY
    cases kind <;> simp [Instr.sameNow]
  · next a b =>
    cases hev
    obtain ⟨ha, rfl⟩ := conc_str hX
    obtain ⟨hb, rfl⟩ := conc_str hY
    cases kind <;> simp [Instr.sameNow]
    rw [← strEq_ok ha hb]
    unfold bytesOf
    change ((a.map UInt8.ofNat).toArray == (b.map UInt8.ofNat).toArray) = _
    simp
  · cases hev
/-- One key against another. -/
theorem eqKey_ok {kt : TypeId} {k k' : AV} {r : Bool} (hev : eqKey P kt k k' = some r) (hf : keyFit P kt k = true) {K K' : Value} (hK : conc ν k = some K) (hK' : conc ν k' = some K') (kind : TypeDesc) :
    (Op.equal kt K K').run P W = .ok r W ∧ (Instr.sameNow kind K K' = none ∨ Instr.sameNow kind K K' = some r) := by
  unfold eqKey at hev
  split at hev
  · next a b =>
    refine ⟨eqE_ok (d := 9998) hev hK hK', .inl ?_⟩
    simp only [conc, Option.map_eq_some_iff] at hK hK'
    obtain ⟨_, _, rfl⟩ := hK
    obtain ⟨_, _, rfl⟩ := hK'
    cases kind <;> rfl
  · next h =>
    refine ⟨?_, sameNow_ok hev hK hK'⟩
    refine eqPlain_fit (d := 9999) hev ?_ hK hK'
    unfold keyFit at hf
    split at hf
    · next q => exact .inl ⟨_, _, _, q, rfl⟩
    · next q => exact .inr (.inr ⟨_, q, rfl⟩)
    · next q => simp [eqPlain] at hev
    · cases hf
def FoundOk (ν : Nu) : Option (Nat × AV) → Option (Nat × Value) → Prop
  | none, none => True
  | some (i, v), some (j, V) => i = j ∧ conc ν v = some V
  | _, _ => False
theorem findK_ok {kt : TypeId} {k : AV} {K : Value} (hf : keyFit P kt k = true) (hK : conc ν k = some K) (kind : TypeDesc) : ∀ {es : List (AV × AV × Nat)} {ms : List MapEntry} {i : Nat} {r : Option (Nat × AV)}, findK P kt k es i = some r → EntsOk ν es ms → ∃ R, FoundOk ν r R ∧ (Instr.findAsking kt K ms i).run P W = .ok R W ∧ (Instr.findNow kind K ms i = none ∨ Instr.findNow kind K ms i = some R)
  | [], [], i, r, h, _ => by
    cases h
    exact ⟨none, trivial, by simp [Instr.findAsking], .inr rfl⟩
  | (k', v, b) :: es, m :: ms, i, r, h, ⟨⟨h1, h2, h3⟩, h4⟩ => by
    simp only [findK] at h
    cases q : eqKey P kt k k' with
    | none => rw [q] at h; cases h
    | some e =>
      rw [q] at h
      obtain ⟨he, hn⟩ := eqKey_ok (W := W) q hf hK h1 kind
      cases e with
      | true =>
        cases h
        refine ⟨some (i, m.val), ⟨rfl, h2⟩, by simp [Instr.findAsking, he], ?_⟩
        rcases hn with hn | hn
        · left; simp [Instr.findNow, hn]
        · right; simp [Instr.findNow, hn]
      | false =>
        obtain ⟨R, r1, r2, r3⟩ := findK_ok hf hK kind h h4
        refine ⟨R, r1, by simp [Instr.findAsking, he, r2], ?_⟩
        rcases hn with hn | hn
        · left; simp [Instr.findNow, hn]
        · simpa [Instr.findNow, hn] using r3
  | [], _ :: _, _, _, _, h => h.elim
  | _ :: _, [], _, _, _, h => h.elim
theorem findKey_ok {kt : TypeId} {k : AV} {K : Value} (hf : keyFit P kt k = true) (hK : conc ν k = some K) {es : List (AV × AV × Nat)} {ms : List MapEntry} {r : Option (Nat × AV)} (h : findK P kt k es 0 = some r) (he : EntsOk ν es ms) :
    ∃ R, FoundOk ν r R ∧ (Instr.findKey kt K ms).run P W = .ok R W := by
  obtain ⟨d, q⟩ : ∃ d, P.underlying kt = some d := by
    unfold keyFit at hf
    cases q : P.underlying kt with
    | none => rw [q] at hf; cases hf
    | some d => exact ⟨d, rfl⟩
  obtain ⟨R, r1, r2, r3⟩ := findK_ok (W := W) hf hK d h he
  refine ⟨R, r1, ?_⟩
  simp only [Instr.findKey, Sem.run_bind, run_underlying q, Result.andThen_ok]
  rcases r3 with r3 | r3
  · rw [r3]; exact r2
  · rw [r3]; simp
end
end Go.Proofs.YtnnalcfdeldocaaGreatDoor.X
