/- The frame of a call that writes to objects of its caller. -/
import Derived.Test.YtfmcpceilkkhfaaP0
namespace Go.Proofs.Ytfmcpceilkkhfaa.P
open Go.RowKit Go.Proofs.YtfmcpceilkkhfaaW.PrintWords Go.Proofs.YtfmcpceilkkhfaaW.PrintLast Go.Proofs.YtfmcpceilkkhfaaW.PrintMore
set_option linter.unusedVariables false
set_option linter.unusedSimpArgs false
structure Fr (S : Nat → Prop) (w w' : World) : Prop where
  os : w'.os = w.os
  tape : w'.tape = w.tape
  output : w'.output = w.output
  kept : Kept w w' S
theorem Fr.refl (S : Nat → Prop) (w : World) : Fr S w w := ⟨rfl, rfl, rfl, Kept.refl _ _⟩
theorem Fr.trans {S : Nat → Prop} {a b c : World} (h : Fr S a b) (k : Fr S b c) : Fr S a c := ⟨k.os.trans h.os, k.tape.trans h.tape, k.output.trans h.output, h.kept.then_ k.kept (fun _ h => .inl h)⟩
theorem Fr.of_below {S : Nat → Prop} {w w' : World} (h : Below w.heap.size w w') : Fr S w w' := ⟨h.os, h.tape, h.output, Kept.of_below h _⟩
theorem Fr.step {S : Nat → Prop} {a b c : World} (h : Fr S a b) (k : Below b.heap.size b c) : Fr S a c := h.trans (.of_below k)
theorem Fr.drewN {S : Nat → Prop} {w w' : World} (h : Fr S w w') (m : Nat) : Fr S w (w'.drewN m) := ⟨h.os, h.tape, h.output, h.kept.drewN m⟩
theorem Fr.drew {S : Nat → Prop} {w w' : World} (h : Fr S w w') : Fr S w w'.drew := ⟨h.os, h.tape, h.output, h.kept.drew⟩
theorem Fr.alloc {S : Nat → Prop} {w w' : World} (h : Fr S w w') (o : Obj) : Fr S w (w'.alloc o) := ⟨h.os, h.tape, h.output, h.kept.alloc o⟩
theorem Fr.setCell {S : Nat → Prop} {w w' : World} (h : Fr S w w') {p : Addr} (hp : S p.block) (u : Value) : Fr S w (w'.setCell p u) := ⟨h.os, h.tape, h.output, h.kept.setCell (.inl hp) u⟩
theorem Fr.mono {S S' : Nat → Prop} {w w' : World} (h : Fr S w w') (hs : ∀ k, S k → S' k) : Fr S' w w' := ⟨h.os, h.tape, h.output, h.kept.mono hs⟩
/-- What writes to none of the blocks below B keeps them. -/
theorem Fr.below {S : Nat → Prop} {B : Nat} {w0 w w' : World} (h : Fr S w w') (hs : ∀ k, S k → B ≤ k) (hB : B ≤ w.heap.size) (h0 : Below B w0 w) : Below B w0 w' :=
  h0.trans ⟨h.os, h.tape, h.output, h.kept.1, fun k hk => h.kept.2 k (by omega) (fun hS => by have := hs k hS; omega)⟩
/-- A reading that lies in the world before holds when blocks of B on alone are written. -/
theorem C_fr {α : Type} {d : Kd α} {S : Nat → Prop} {w0 w w' : World} {A : Option Addr} {n : Nat} {xs : List α} (h0 : Kd.C d w0 A n xs) (hb : Below w0.heap.size w0 w') : Kd.C d w' A n xs := Kd.C_below h0 hb
/-- One's own row of ints in one block, read and written. -/
def Row (W : World) (B b : Nat) (l : List Int) (c : Nat) : Prop := Kd.R (Kd.int .i64) 3 W B (fun k => k = b) (.slice (some ⟨b, 0, none⟩) l.length c) l
theorem Row.kept {W W' : World} {B b c : Nat} {l : List Int} {S : Nat → Prop} (h : Row W B b l c) (hk : Kept W W' S) (hb : ¬ S b) : Row W' B b l c := Kd.R_kept h hk (fun k e => by rw [e]; exact hb)
theorem Row.reads {W : World} {B b c : Nat} {l : List Int} (h : Row W B b l c) : l.length ≤ c ∧ Kd.C (Kd.int .i64) W (some ⟨b, 0, none⟩) l.length l := (Kd.R_reads' h).2
theorem Row.far {W : World} {B b c : Nat} {l : List Int} (h : Row W B b l c) {p : Addr} (hp : b ≠ p.block) (u : Value) : Row (W.setCell p u) B b l c := Kd.R_far h (fun k e => by rw [e]; exact hp) u
theorem Row.put {W : World} {B b c : Nat} {l : List Int} (h : Row W B b l c) (i x : Int) : Row (W.setCell ⟨b, i.toNat, none⟩ (.int .i64 x)) B b (l.set i.toNat x) c := by
  have h2 := (Kd.R_put h i x).1
  unfold Row
  rw [List.length_set]
  exact h2
theorem Row.of_R {W : World} {B B' b c : Nat} {l : List Int} {ok : Nat → Prop} (h : Kd.R (Kd.int .i64) 3 W B' ok (.slice (some ⟨b, 0, none⟩) l.length c) l) (hB : B ≤ b) : Row W B b l c := by
  have ho := Kd.own_of_R h
  refine Kd.R_of_own ?_ (fun k e => by injection e with e; exact e.symm)
  obtain ⟨h1, h2⟩ := ho
  refine ⟨h1, ?_⟩
  rcases h2 with h2 | ⟨g, cap, cur, hv, hg, r⟩
  · exact .inl h2
  · refine .inr ⟨g, cap, cur, hv, ?_, r⟩
    injection hv with hv _ _
    injection hv with hv
    injection hv with hv
    omega
/-- An own row of at least one int, as a call hands it back. -/
theorem Row.of_own {W : World} {B' : Nat} {v : Value} {l : List Int} {ok : Nat → Prop} (h : Kd.R (Kd.int .i64) 3 W B' ok v l) (hp : 0 < l.length) : ∃ b c, v = .slice (some ⟨b, 0, none⟩) l.length c ∧ B' ≤ b ∧ b < W.heap.size ∧ ∀ B, B ≤ b → Row W B b l c := by
  obtain ⟨b, c, rfl, hb, hl, _⟩ := Kd.R_form h hp
  exact ⟨b, c, rfl, hb, hl, fun B hB => Row.of_R h hB⟩
end Go.Proofs.Ytfmcpceilkkhfaa.P
