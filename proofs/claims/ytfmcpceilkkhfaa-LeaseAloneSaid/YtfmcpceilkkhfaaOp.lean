/- What came in, opened for the walk. -/
import Derived.Test.YtfmcpceilkkhfaaP0
import Derived.WalkKit
import Derived.ProofKit
import Derived.OpenShut
import Derived.ChangeOld
import Derived.Below
import Derived.SizedLaws
import Derived.Deep.Slices
import Derived.Lib.SmallJoins
namespace Go.Proofs.Ytfmcpceilkkhfaa.P
open Go.RowKit Go.Proofs.YtfmcpceilkkhfaaW.PrintWords Go.Proofs.YtfmcpceilkkhfaaW.PrintLast Go.Proofs.YtfmcpceilkkhfaaW.PrintMore
/-- A slice of whole numbers that came in: the list that it reads as. -/
theorem open_ints_C {H : Type} {enc : TypeId × Value → H} {P : Program} {W : World} {base : Nat} {spare : Nat → Bool} {held : Bool} {t e : TypeId} {k : IntKind} {a : Option Addr} {len cap : Nat} {d : DataW H} {ps : List MemPlace}
    (hu : P.underlying t = some (.slice e)) (he : P.underlying e = some (.int k)) (hc : P.cellsOf e = 1) (h : DataW.Trod enc P W base spare held t (.slice a len cap) d ps) :
    ∃ l : List Int, len = l.length ∧ (Kd.C (Kd.int k) W a l.length l ∧ l.length ≤ cap) ∧ ∀ x ∈ l, (Lit.int k x).wf = true := by
  obtain ⟨fuel, hf⟩ := h
  rcases Go.ChangeShapes.open_ints hu he hc hf with ⟨hcs, _⟩ | ⟨x, l, c, zs, hcs, _, hl, hm, hz, hx, hcell, hwz⟩
  · simp [Value.cells] at hcs
    obtain ⟨rfl, rfl, rfl⟩ := hcs
    exact ⟨[], rfl, ⟨Kd.C_nil _ _, Nat.le_refl _⟩, fun _ h => absurd h (by simp)⟩
  · simp [Value.cells] at hcs
    obtain ⟨rfl, rfl, rfl⟩ := hcs
    have hl2 : len ≤ zs.length := by
      rw [hz]
      split
      · exact hl
      · exact Nat.le_refl _
    have hlen : (zs.take len).length = len := by rw [List.length_take]; omega
    refine ⟨zs.take len, hlen.symm, ⟨?_, by omega⟩, fun y hy => hwz y (List.mem_of_mem_take hy)⟩
    refine Kd.C_of_reads (d := (0 : Int)) (h1 := fun _ => rfl) ⟨rfl, by simp only [maxLen] at hm; omega, fun _ => ⟨x, rfl, fun j hj => ?_⟩⟩
    rw [hlen] at hj
    rw [hcell j (by omega)]
    congr 2
    rw [List.getD_eq_getElem?_getD, List.getD_eq_getElem?_getD, List.getElem?_take_of_lt hj]
section
variable {H : Type} {enc : TypeId × Value → H} {P : Program} {W : World} {base : Nat} {spare : Nat → Bool} {held : Bool}
/-- What reads at type e is a value of the kind d, and is such as Q says. -/
def Opens (enc : TypeId × Value → H) (P : Program) (W : World) (base : Nat) (spare : Nat → Bool) (held : Bool) {α : Type} (d : Kd α) (e : TypeId) (Q : α → Prop) : Prop :=
  P.cellsOf e = d.sz ∧ ∀ fuel cs x, DataW.trod enc P W base spare held fuel e cs = some x → (∀ n ∈ x.1.weights P e, n ≤ reachBytes) → ∃ a, d.K W a cs ∧ Q a
theorem opens_int {e : TypeId} {k : IntKind} (hu : P.underlying e = some (.int k)) (hc : P.cellsOf e = 1) : Opens enc P W base spare held (Kd.int k) e (fun a => (Lit.int k a).wf = true) := by
  refine ⟨hc, fun fuel cs x h _ => ?_⟩
  obtain ⟨a, hcs, _, hw⟩ := DataW.trod_int hu h
  exact ⟨a, hcs, hw⟩
theorem mem_weightsEach0 {t : TypeId} {ts : List TypeId} {d : DataW H} {ds : List (DataW H)} {n : Nat} (h : n ∈ d.weights P t) : n ∈ DataW.weightsEach P (t :: ts) (d :: ds) := by
  simp only [DataW.weightsEach, List.mem_append]
  exact .inl h
theorem mem_weightsEach1 {t : TypeId} {ts : List TypeId} {d : DataW H} {ds : List (DataW H)} {n : Nat} (h : n ∈ DataW.weightsEach P ts ds) : n ∈ DataW.weightsEach P (t :: ts) (d :: ds) := by
  simp only [DataW.weightsEach, List.mem_append]
  exact .inr h
theorem split2 {cs : List Value} {a b : Nat} (h : cs.length = a + b) : cs = (cs.drop 0).take a ++ (cs.drop a).take b := by
  rw [List.drop_zero, List.take_of_length_le (show (cs.drop a).length ≤ b by rw [List.length_drop]; omega), List.take_append_drop]
theorem opens_struct2 {t : TypeId} {f0 f1 : Field} {α β : Type} {d0 : Kd α} {d1 : Kd β} {Q0 : α → Prop} {Q1 : β → Prop} (hu : P.underlying t = some (.struct #[f0, f1])) (h0 : Opens enc P W base spare held d0 f0.type Q0) (h1 : Opens enc P W base spare held d1 f1.type Q1) (hc : P.cellsOf t = d0.sz + d1.sz) (o0 : f0.offset = 0) (o1 : f1.offset = d0.sz) :
    Opens enc P W base spare held (Kd.pair d0 d1) t (fun x => Q0 x.1 ∧ Q1 x.2) := by
  refine ⟨hc, fun fuel cs x h hw => ?_⟩
  obtain ⟨y0, y1, n, rfl, hl, e0, e1⟩ := Go.ChangeShapes.trod_struct2 hu h
  have hwe : ∀ n ∈ DataW.weightsEach P [f0.type, f1.type] [y0.1, y1.1], n ≤ reachBytes := fun n hn => hw n (by simpa [DataW.weights, hu] using hn)
  rw [h0.1, o0] at e0
  rw [h1.1, o1] at e1
  obtain ⟨a, ka, qa⟩ := h0.2 _ _ _ e0 (fun n hn => hwe n (mem_weightsEach0 hn))
  obtain ⟨b, kb, qb⟩ := h1.2 _ _ _ e1 (fun n hn => hwe n (mem_weightsEach1 (mem_weightsEach0 hn)))
  exact ⟨(a, b), ⟨_, _, split2 (hl.trans hc), ka, kb⟩, qa, qb⟩
theorem opens_struct4 {t : TypeId} {f0 f1 f2 f3 : Field} {α β γ δ : Type} {d0 : Kd α} {d1 : Kd β} {d2 : Kd γ} {d3 : Kd δ} {Q0 : α → Prop} {Q1 : β → Prop} {Q2 : γ → Prop} {Q3 : δ → Prop} (hu : P.underlying t = some (.struct #[f0, f1, f2, f3]))
    (h0 : Opens enc P W base spare held d0 f0.type Q0) (h1 : Opens enc P W base spare held d1 f1.type Q1) (h2 : Opens enc P W base spare held d2 f2.type Q2) (h3 : Opens enc P W base spare held d3 f3.type Q3) (hc : P.cellsOf t = d0.sz + (d1.sz + (d2.sz + d3.sz))) (o0 : f0.offset = 0) (o1 : f1.offset = d0.sz) (o2 : f2.offset = d0.sz + d1.sz) (o3 : f3.offset = d0.sz + d1.sz + d2.sz) :
    Opens enc P W base spare held (Kd.pair d0 (Kd.pair d1 (Kd.pair d2 d3))) t (fun x => Q0 x.1 ∧ Q1 x.2.1 ∧ Q2 x.2.2.1 ∧ Q3 x.2.2.2) := by
  refine ⟨hc, fun fuel cs x h hw => ?_⟩
  obtain ⟨y0, y1, y2, y3, n, rfl, hl, e0, e1, e2, e3⟩ := Joins.trod_struct4 hu h
  have hwe : ∀ n ∈ DataW.weightsEach P [f0.type, f1.type, f2.type, f3.type] [y0.1, y1.1, y2.1, y3.1], n ≤ reachBytes := fun n hn => hw n (by simpa [DataW.weights, hu] using hn)
  rw [h0.1, o0] at e0
  rw [h1.1, o1] at e1
  rw [h2.1, o2] at e2
  rw [h3.1, o3] at e3
  obtain ⟨a, ka, qa⟩ := h0.2 _ _ _ e0 (fun n hn => hwe n (mem_weightsEach0 hn))
  obtain ⟨b, kb, qb⟩ := h1.2 _ _ _ e1 (fun n hn => hwe n (mem_weightsEach1 (mem_weightsEach0 hn)))
  obtain ⟨c, kc, qc⟩ := h2.2 _ _ _ e2 (fun n hn => hwe n (mem_weightsEach1 (mem_weightsEach1 (mem_weightsEach0 hn))))
  obtain ⟨d, kd, qd⟩ := h3.2 _ _ _ e3 (fun n hn => hwe n (mem_weightsEach1 (mem_weightsEach1 (mem_weightsEach1 (mem_weightsEach0 hn)))))
  have hl2 := hl.trans hc
  refine ⟨(a, b, c, d), ⟨_, _, split2 hl2, ka, ?_⟩, qa, qb, qc, qd⟩
  have hl3 : (cs.drop d0.sz).length = d1.sz + (d2.sz + d3.sz) := by rw [List.length_drop]; omega
  have hl4 : (cs.drop (d0.sz + d1.sz)).length = d2.sz + d3.sz := by rw [List.length_drop]; omega
  refine ⟨(cs.drop d0.sz).take d1.sz, (cs.drop (d0.sz + d1.sz)).take (d2.sz + d3.sz), ?_, kb, ?_⟩
  · rw [List.take_of_length_le (by omega), List.take_of_length_le (show (cs.drop (d0.sz + d1.sz)).length ≤ d2.sz + d3.sz by omega), show cs.drop (d0.sz + d1.sz) = (cs.drop d0.sz).drop d1.sz by rw [List.drop_drop], List.take_append_drop]
  · refine ⟨(cs.drop (d0.sz + d1.sz)).take d2.sz, (cs.drop (d0.sz + d1.sz + d2.sz)).take d3.sz, ?_, kc, kd⟩
    rw [List.take_of_length_le (by omega), List.take_of_length_le (show (cs.drop (d0.sz + d1.sz + d2.sz)).length ≤ d3.sz by rw [List.length_drop]; omega), show cs.drop (d0.sz + d1.sz + d2.sz) = (cs.drop (d0.sz + d1.sz)).drop d2.sz by rw [List.drop_drop], List.take_append_drop]
theorem opens_iso {α β : Type} {d : Kd α} (f : β → α) (g : α → β) (hg : ∀ a, f (g a) = a) {e : TypeId} {Q : α → Prop} (h : Opens enc P W base spare held d e Q) : Opens enc P W base spare held (Kd.iso d f) e (fun x => Q (f x)) := by
  refine ⟨h.1, fun fuel cs x hx hw => ?_⟩
  obtain ⟨a, ka, qa⟩ := h.2 fuel cs x hx hw
  exact ⟨g a, by show d.K W (f (g a)) cs; rw [hg]; exact ka, by show Q (f (g a)); rw [hg]; exact qa⟩
theorem mem_weightsAll {e : TypeId} {d : DataW H} {n : Nat} : ∀ {l : List (DataW H)}, d ∈ l → n ∈ d.weights P e → n ∈ DataW.weightsAll P e l
  | [], h, _ => absurd h (by simp)
  | x :: r, h, hn => by
    simp only [DataW.weightsAll, List.mem_append]
    rcases List.mem_cons.1 h with rfl | h
    · exact .inl hn
    · exact .inr (mem_weightsAll h hn)
/-- A slice of such: the list that it reads as. -/
theorem open_kd {t e : TypeId} {α : Type} {d : Kd α} {Q : α → Prop} (hu : P.underlying t = some (.slice e)) (ho : Opens enc P W base spare held d e Q) {fuel : Nat} {a : Option Addr} {len cap : Nat} {x : DataW H × List MemPlace}
    (h : DataW.trod enc P W base spare held fuel t [.slice a len cap] = some x) (hw : ∀ n ∈ x.1.weights P t, n ≤ reachBytes) :
    ∃ l : List α, len = l.length ∧ d.C W a l.length l ∧ l.length ≤ cap ∧ l.length * P.bytesOf e ≤ reachBytes ∧ ∀ y ∈ l, Q y := by
  rcases Go.Deep.open_slice hu h with ⟨hcs, _⟩ | ⟨ad, len', cap', m, n, D, Pl, hcs, _, hl, hm, hmm, rfl, hx⟩
  · simp at hcs
    obtain ⟨rfl, rfl, rfl⟩ := hcs
    exact ⟨[], rfl, Kd.C_nil _ _, Nat.le_refl _, by simp, fun _ h => absurd h (by simp)⟩
  · simp at hcs
    obtain ⟨rfl, rfl, rfl⟩ := hcs
    have hlm : len ≤ m := by rw [hmm]; split <;> omega
    have hw0 : ∀ n ∈ (m * P.bytesOf e :: (DataW.weightsAll P e ((List.range len).map D))), n ≤ reachBytes := fun n hn => hw n (by
      simp only [DataW.weights, hu, List.mem_cons, List.mem_append, List.length_map, List.length_range]
      rcases List.mem_cons.1 hn with h | h
      · left; rw [h]; congr 1; omega
      · right; left; exact h)
    have each : ∀ i : Fin len, ∃ y : α, (∃ cs', W.cells? base (ad.add (i.val * P.cellsOf e)) (P.cellsOf e) = some cs' ∧ d.K W y cs') ∧ Q y := fun i => by
      obtain ⟨cs', h1, h2⟩ := hx i.val (by omega)
      obtain ⟨y, ky, qy⟩ := ho.2 _ _ _ h2 (fun n hn => hw0 n (List.mem_cons_of_mem _ (mem_weightsAll (List.mem_map.2 ⟨i.val, List.mem_range.2 i.isLt, rfl⟩) hn)))
      exact ⟨y, ⟨cs', h1, ky⟩, qy⟩
    obtain ⟨f, hf⟩ := Classical.axiomOfChoice each
    refine ⟨List.ofFn f, by rw [List.length_ofFn], ?_, by rw [List.length_ofFn]; exact hl, ?_, fun y hy => ?_⟩
    · rw [List.length_ofFn]
      refine ⟨List.length_ofFn, by simp only [maxLen] at hm; omega, fun _ => ⟨ad, rfl, fun j p hp => ?_⟩⟩
      rw [List.getElem?_ofFn] at hp
      split at hp
      · rename_i hj
        cases hp
        obtain ⟨⟨cs', h1, h2⟩, _⟩ := hf ⟨j, hj⟩
        rw [ho.1] at h1
        refine ⟨cs', d.K_len h2, h2, fun i u hi => ?_⟩
        obtain ⟨_, hl5, h5⟩ := World.cells?_some h1
        have hi2 : i < d.sz := by rw [← hl5]; exact (List.getElem?_eq_some_iff.1 hi).1
        have h6 := h5 i hi2
        rw [hi] at h6
        have e5 : (ad.add (j * d.sz)).add i = ad.add (j * d.sz + i) := add_add _ _ _
        rw [e5] at h6
        exact h6
      · exact absurd hp (by simp)
    · rw [List.length_ofFn]
      exact Nat.le_trans (Nat.mul_le_mul_right _ hlm) (hw0 _ List.mem_cons_self)
    · rw [List.mem_ofFn] at hy
      obtain ⟨i, rfl⟩ := hy
      exact (hf i).2
end
section
variable {H : Type} {enc : TypeId × Value → H} {W : World} {base : Nat} {spare : Nat → Bool} {held : Bool}
theorem opens3 : Opens enc Try.prog W base spare held (Kd.int .i64) 3 (fun a => (Lit.int .i64 a).wf = true) := opens_int Try.underlying3 (by kernel_rfl)
theorem opens34 : Opens enc Try.prog W base spare held (Kd.pair (Kd.int .i64) (Kd.int .i64)) 34 (fun x => (Lit.int .i64 x.1).wf = true ∧ (Lit.int .i64 x.2).wf = true) := opens_struct2 Try.underlying34 opens3 opens3 (by kernel_rfl) rfl rfl
/-- One call of a lease or a hold: kind, node, moment, ballot. -/
structure O5 where
  kd : Int
  nd : Int
  n : Int
  b0 : Int
  b1 : Int
def k65 : Kd O5 := Kd.iso (Kd.pair (Kd.int .i64) (Kd.pair (Kd.int .i64) (Kd.pair (Kd.int .i64) (Kd.pair (Kd.int .i64) (Kd.int .i64))))) (fun x : O5 => (x.kd, x.nd, x.n, x.b0, x.b1))
theorem k65_open {w : World} {x : O5} {cs : List Value} (h : k65.K w x cs) : cs = [.int .i64 x.kd, .int .i64 x.nd, .int .i64 x.n, .int .i64 x.b0, .int .i64 x.b1] := by
  obtain ⟨_, _, rfl, rfl, _, _, rfl, rfl, _, _, rfl, rfl, _, _, rfl, rfl, rfl⟩ := h
  rfl
def o5wf (x : O5) : Prop := (Lit.int .i64 x.kd).wf = true ∧ (Lit.int .i64 x.nd).wf = true ∧ (Lit.int .i64 x.n).wf = true ∧ (Lit.int .i64 x.b0).wf = true ∧ (Lit.int .i64 x.b1).wf = true
theorem opens65 : Opens enc Try.prog W base spare held k65 65 o5wf := opens_iso _ (fun x => ⟨x.1, x.2.1, x.2.2.1, x.2.2.2.1, x.2.2.2.2⟩) (fun _ => rfl) (opens_struct4 Try.underlying65 opens3 opens3 opens3 opens34 (by kernel_rfl) rfl rfl rfl rfl)
open Go.ChangeShapes Go.WideShapes Go.ChangeAt in
theorem open_o5 {r : Reach} {bs : Nat} {v : Value} {d : DataW H} {p : List MemPlace} (hv : Value.okWide Try.prog W r bs 65 v) (h : DataW.Trod enc Try.prog W base spare held 65 v d p) (hw : ∀ n ∈ d.weights Try.prog 65, n ≤ reachBytes) :
    ∃ x : O5, v = .agg #[.int .i64 x.kd, .int .i64 x.nd, .int .i64 x.n, .int .i64 x.b0, .int .i64 x.b1] ∧ o5wf x := by
  obtain ⟨cs, rfl, hsz⟩ := okWide_struct Try.underlying65 hv
  obtain ⟨fuel, hf⟩ := h
  obtain ⟨x, hx, hq⟩ := opens65.2 fuel _ _ hf hw
  have e := k65_open hx
  refine ⟨x, ?_, hq⟩
  have e2 : cs.toList = [.int .i64 x.kd, .int .i64 x.nd, .int .i64 x.n, .int .i64 x.b0, .int .i64 x.b1] := by simpa [Value.cells] using e
  rw [← Array.toArray_toList (xs := cs), e2]
/-- How large a part of what came in is. -/
theorem weights_le {ts : List TypeId} {ds : List (DataW H)} {j : Nat} {t : TypeId} {d : DataW H} (h : (DataW.weightsEach Try.prog ts ds).all (· ≤ reachBytes) = true) (ht : ts[j]? = some t) (hd : ds[j]? = some d) : ∀ n ∈ d.weights Try.prog t, n ≤ reachBytes := fun n hn => by
  have := List.all_eq_true.1 h _ (DataW.weights_mem_each ht hd n hn)
  simpa using this
/-- A tick: the time, and how far each clock goes on. -/
def t44wf (x : S44) : Prop := (Lit.int .i64 x.f0).wf = true ∧ (x.f1.length * 8 ≤ 140737488351232 ∧ ∀ y ∈ x.f1, (Lit.int .i64 y).wf = true)
theorem opens22 : Opens enc Try.prog W base spare held (Kd.slice 3 (Kd.int .i64)) 22 (fun l => l.length * 8 ≤ 140737488351232 ∧ ∀ y ∈ l, (Lit.int .i64 y).wf = true) := by
  refine ⟨by kernel_rfl, fun fuel cs x h hw => ?_⟩
  obtain ⟨a, len, cap, rfl⟩ := Joins.slice_form Try.underlying22 h
  obtain ⟨l, rfl, h1, h2, h3, h4⟩ := open_kd Try.underlying22 opens3 h hw
  refine ⟨l, ⟨a, cap, rfl, h2, h1⟩, ?_, h4⟩
  have e : Try.prog.bytesOf 3 = 8 := by kernel_rfl
  rw [e] at h3
  exact Nat.le_trans h3 (by decide)
theorem opens44 : Opens enc Try.prog W base spare held k44 44 t44wf := opens_iso _ (fun x => ⟨x.1, x.2⟩) (fun _ => rfl) (opens_struct2 Try.underlying44 opens3 opens22 (by kernel_rfl) rfl rfl)
end
end Go.Proofs.Ytfmcpceilkkhfaa.P
