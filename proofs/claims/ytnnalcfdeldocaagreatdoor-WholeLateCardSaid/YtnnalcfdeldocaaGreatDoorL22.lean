/- A walk by the kernel: a check sum of bytes that are not known is a number that is not known. -/
import Derived.Test.YtnnalcfdeldocaaGreatDoorL17
import Derived.Test.YtnnalcfdeldocaaGreatDoorL21
namespace Go.Proofs.YtnnalcfdeldocaaGreatDoor.X
open Go
set_option linter.unusedVariables false
set_option linter.unusedSimpArgs false
def u8s : List AV → Bool
  | [] => true
  | .int .u8 _ :: vs => u8s vs
  | .sym .u8 _ _ :: vs => u8s vs
  | _ => false
def someSym : List AV → Bool
  | [] => false
  | .sym _ _ _ :: _ => true
  | _ :: vs => someSym vs
/-- frame.Sum of bytes of which one is not known. -/
def sumH (H : Hook) : Hook := fun f args s => match Nat.beq f 419 with
  | false => H f args s
  | true => match args with
    | [.slice k i len cap] => match s.heap.get k with
      | some (.cells c _ _ _) => match seg c i len with
        | none => H f args s
        | some r => match someSym r && (u8s r && Nat.blt len 1000000) with
          | false => H f args s
          | true => match nameB { s with rd := Nat.lor s.rd (bit k) } with
            | none => none
            | some (n, s1) => some (.sym .u32 0 n, s1)
      | _ => H f args s
    | _ => H f args s
section
variable {M : Nat → Prop} {B : Nat} {ν : Nu} {s s1 : St} {W W1 : World}
theorem Eff.below (h : Sat M B ν s W) (hb : Go.RowKit.Below W.heap.size W W1) : Eff M B ν ν s s W W1 := by
  refine ⟨⟨fun k b m e => ?_, fun k k' i i' m m' l l' => h.old.inj k k' i i' m m' l l', h.fresh, h.dom, fun k i e => ?_⟩, Nu.le_refl ν, fun k i a c => (by rw [a] at c; cases c), fun b o e _ => ?_, hb.size, hb.os, hb.tape, hb.output⟩
  · obtain ⟨inf, h1, h2⟩ := h.old.blk k b m e
    exact ⟨inf, h1, h2.keep fun o ho => by rw [hb.block _ (Array.getElem?_eq_some_iff.1 ho).1]; exact ho⟩
  · have := h.lt k i e
    exact ⟨this.1, Nat.lt_of_lt_of_le this.2 hb.size⟩
  · rw [hb.block _ (Array.getElem?_eq_some_iff.1 e).1]; exact e
theorem u8s_ok : ∀ {l : List AV}, u8s l = true → ∀ {j : Nat} {v : AV} {V : Value}, l[j]? = some v → conc ν v = some V → ∃ z : Int, V = .int .u8 z
  | [], _, j, v, V, h, _ => by simp at h
  | x :: xs, hu, j, v, V, h, hv => by
    have hx : (∃ n, x = .int .u8 n) ∨ (∃ c k, x = .sym .u8 c k) := by
      unfold u8s at hu
      split at hu
      · cases ‹x :: xs = []›
      · rename_i e; cases e; exact .inl ⟨_, rfl⟩
      · rename_i e; cases e; exact .inr ⟨_, _, rfl⟩
      · cases hu
    have ht : u8s xs = true := by
      rcases hx with ⟨n, rfl⟩ | ⟨c, k, rfl⟩ <;> exact hu
    cases j with
    | zero =>
      simp only [List.getElem?_cons_zero, Option.some.injEq] at h
      subst h
      rcases hx with ⟨n, rfl⟩ | ⟨c, k, rfl⟩
      · simp only [conc, Option.some.injEq] at hv; exact ⟨n, hv.symm⟩
      · obtain ⟨_, z, _, _, e⟩ := conc_sym hv; exact ⟨z, e⟩
    | succ j => exact u8s_ok ht (by simpa using h) hv
theorem sum_ok {H : Hook} (hH : HookOk Tryz.prog H) : HookOk Tryz.prog (sumH H) := by
  intro f args s v s1 hh
  unfold sumH at hh
  split at hh
  · exact hH _ _ _ _ _ hh
  · next q =>
    have q := beq_iff.1 q
    subst q
    split at hh
    · next k i len cap =>
      split at hh
      · next c e z u hb =>
        split at hh
        · exact hH _ _ _ _ _ hh
        · next r hr =>
          split at hh
          · exact hH _ _ _ _ _ hh
          · next hc =>
            split at hh
            · cases hh
            · next n s2 hn =>
              cases hh
              obtain ⟨rfl, hfr, rfl⟩ := nameB_some.1 hn
              rw [Bool.and_eq_true, Bool.and_eq_true, blt_iff] at hc
              obtain ⟨_, hu, hlen⟩ := hc
              refine ⟨?_, (Le.rdk s k).trans (LeM.nameB _ _ _ hn)⟩
              intro M B ν W Args hS hB hp hargs
              refine ⟨⟨_, Tryz.func419, rfl, by kernel_rfl⟩, fun R hR => ?_⟩
              have hMk : M k := hp k (hS.dom k ⟨_, hb⟩) (.inl (by show (Nat.lor s.rd (bit k)).testBit k = true; rw [testBit_lor]; simp))
              obtain ⟨inf, hk, C, fz, g1, g2, g3, g4, g5⟩ := hS.blk k _ hMk hb
              obtain ⟨X, Y, hX, hY, rfl⟩ := concs_cons.1 hargs
              rw [concs_nil] at hY
              cases hY
              obtain ⟨inf', cc, hk', rfl, _⟩ := conc_slice hX
              rw [hk] at hk'
              cases hk'
              obtain ⟨r1, r2⟩ := seg_spec hr
              have hC : ∀ j, j < len → ∃ z : Int, C[inf.off + i + j]? = some (.int .u8 z) := fun j hj => by
                have e1 : r[j]? = some r[j] := List.getElem?_eq_getElem (by omega)
                obtain ⟨V, v1, v2⟩ := g3 (i + j) _ ((r2 j hj).trans e1)
                obtain ⟨z, rfl⟩ := u8s_ok hu e1 v2
                exact ⟨z, by rw [Nat.add_assoc]; exact v1⟩
              have hcall := sum_some inf.blk (inf.off + i) len cc C _ fz W g1 hC hlen
              refine (callsIn_wide (n := 0)).2 (hcall.mono ?_)
              rintro e' w' ⟨⟨x, rfl, h0, h1⟩, hbel⟩
              have hS2 : Sat M B ν ({ s with rd := Nat.lor s.rd (bit k) } : St) W := hS.same rfl rfl
              have E1 := Eff.below hS2 hbel
              have hl := hS.lt k inf hk
              have E2 := Eff.name (s1 := { heap := s.heap, next := s.next + 1, rd := Nat.lor s.rd (bit k), wr := s.wr }) E1.sat (inf := ⟨inf.blk, 0, x.toNat⟩) ⟨hl.1, Nat.lt_of_lt_of_le hl.2 hbel.size⟩ (fun ⟨b, e⟩ => by rw [hfr] at e; cases e) rfl rfl
              have E3 := E1.trans E2 (Le.refl _) (LeM.nameB _ _ _ hn) hS2.fresh
              refine hR _ w' _ ?_ (Eff.pre (s2 := { s with rd := Nat.lor s.rd (bit k) }) rfl rfl E3)
              refine sym_mk (Nu.add_eq _ _ _) ?_
              simp only [symVal]
              rw [if_pos (by omega)]
              exact congrArg some (by show ((x.toNat : Nat) : Int) = x; omega)
      · exact hH _ _ _ _ _ hh
    · exact hH _ _ _ _ _ hh
end
end Go.Proofs.YtnnalcfdeldocaaGreatDoor.X
