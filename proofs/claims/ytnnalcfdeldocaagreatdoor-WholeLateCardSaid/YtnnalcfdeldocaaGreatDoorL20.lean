/- A walk by the kernel: slices.Sorted of maps.Keys answers at once: why it may. A walk by the kernel: slices.Sorted of maps.Keys: the hook's contract. A walk by the kernel: slices.Sorted of maps.Keys: the hook holds. -/
import Derived.Test.YtnnalcfdeldocaaGreatDoorL18
import Derived.Test.YtnnalcfdeldocaaGreatDoorL19
namespace Go.Proofs.YtnnalcfdeldocaaGreatDoor.X
open Go Go.RowKit Go.Maps Go.Sort Go.Shelf
set_option linter.unusedVariables false
set_option linter.unusedSimpArgs false
section
variable {M : Nat → Prop} {B : Nat} {ν : Nu} {s s1 : St} {W W1 : World}
/-- A new block, somewhere behind all that lay there. -/
theorem Eff.fresh (h : Sat M B ν s W) {b' : ABlk} {g cap : Nat} (hlt : s.next < 1000000) (hB : B ≤ W.heap.size)
    (hs : s1.heap = Tr.put 20 s.heap s.next (some b')) (hn : s1.next = s.next + 1)
    (hg1 : W.heap.size ≤ g) (hg2 : g < W1.heap.size) (hkeep : ∀ j, j < W.heap.size → W1.heap[j]? = W.heap[j]?) (h3 : BOk (ν.add s.next ⟨g, 0, cap⟩) ⟨g, 0, cap⟩ W1 b') (ho : W1.os = W.os) (ht : W1.tape = W.tape) (hp : W1.output = W.output) :
    Eff M B ν (ν.add s.next ⟨g, 0, cap⟩) s s1 W W1 := by
  have hg : ∀ j, s1.heap.get j = if j = s.next then some b' else s.heap.get j := fun j => by rw [hs]; exact Tr.get_put 20 _ _ _ _ (by omega)
  have hl : ∀ j, live s1 j → j ≠ s.next → live s j := fun j ⟨c, e⟩ q => by rw [hg, if_neg q] at e; exact ⟨c, e⟩
  have hle := Nu.le_add h.noNext (⟨g, 0, cap⟩ : Inf)
  have hn' : ∀ j i, ν.add s.next ⟨g, 0, cap⟩ j = some i → (j = s.next ∧ i = ⟨g, 0, cap⟩) ∨ (j ≠ s.next ∧ ν j = some i) := fun j i e => by
    unfold Nu.add at e
    by_cases q : j = s.next
    · rw [if_pos q] at e; cases e; exact .inl ⟨q, rfl⟩
    · rw [if_neg q] at e; exact .inr ⟨q, e⟩
  refine ⟨⟨fun j c m e => ?_, fun j j' i i' m m' l l' e e' q => ?_, fun j i e => ?_, fun j l => ?_, fun j i e => ?_⟩, hle, fun j i a c => ?_, fun c o' q r => ?_, by omega, ho, ht, hp⟩
  · have e0 := e
    rw [hg] at e
    by_cases q : j = s.next
    · subst q; rw [if_pos rfl] at e; cases e; exact ⟨_, Nu.add_eq _ _ _, h3⟩
    · rw [if_neg q] at e
      have hm : M j := m.resolve_right (fun q2 => by have := h.dom j ⟨c, e⟩; omega)
      obtain ⟨inf', a, d⟩ := h.blk j c hm e
      refine ⟨inf', hle _ _ a, (d.keep fun o q' => ?_).mono hle⟩
      rw [hkeep _ (h.lt j inf' a).2]
      exact q'
  · rcases hn' j i e with ⟨a, b⟩ | ⟨a, b⟩ <;> rcases hn' j' i' e' with ⟨a', b'⟩ | ⟨a', b'⟩
    · rw [a, a']
    · subst b; have := (h.lt j' i' b').2; simp only at q; omega
    · subst b'; have := (h.lt j i b).2; simp only at q; omega
    · have l1 := hl j l a
      have l2 := hl j' l' a'
      exact h.inj j j' i i' (m.resolve_right (fun q2 => by have := h.dom j l1; omega)) (m'.resolve_right (fun q2 => by have := h.dom j' l2; omega)) l1 l2 b b' q
  · rw [hn]
    rcases hn' j i e with ⟨a, b⟩ | ⟨a, b⟩
    · omega
    · have := h.fresh j i b; omega
  · rw [hn]
    by_cases q : j = s.next
    · omega
    · have := h.dom j (hl j l q); omega
  · rcases hn' j i e with ⟨a, b⟩ | ⟨a, b⟩
    · subst b; exact ⟨Nat.le_trans hB hg1, hg2⟩
    · have := h.lt j i b; omega
  · rcases hn' j i c with ⟨a', b⟩ | ⟨a', b⟩
    · subst b; exact ⟨by omega, fun _ => .inl hg1⟩
    · rw [a] at b; cases b
  · rw [hkeep _ (Array.getElem?_eq_some_iff.1 q).1]; exact q
end
-- the plain layer
theorem insN_perm (x : Nat) : ∀ l : List Nat, (insN x l).Perm (x :: l)
  | [] => .refl _
  | y :: ys => by
    unfold insN
    split
    · exact .refl _
    · exact ((insN_perm x ys).cons y).trans (.swap x y ys)
theorem sortN_perm : ∀ l : List Nat, (sortN l).Perm l
  | [] => .refl _
  | x :: xs => (insN_perm x _).trans ((sortN_perm xs).cons x)
theorem insN_sorted (x : Nat) : ∀ {l : List Nat}, l.Pairwise (· ≤ ·) → (insN x l).Pairwise (· ≤ ·)
  | [], _ => by simp [insN]
  | y :: ys, h => by
    have h' := List.pairwise_cons.1 h
    unfold insN
    split
    · next q =>
      have q := Nat.le_of_ble_eq_true q
      exact List.pairwise_cons.2 ⟨fun z hz => by
        rcases List.mem_cons.1 hz with rfl | hz
        · exact q
        · exact Nat.le_trans q (h'.1 z hz), h⟩
    · next q =>
      have q : ¬ x ≤ y := fun h => by rw [Nat.ble_eq_true_of_le h] at q; cases q
      refine List.pairwise_cons.2 ⟨fun z hz => ?_, insN_sorted x h'.2⟩
      rcases List.mem_cons.1 ((insN_perm x ys).mem_iff.1 hz) with rfl | hz
      · omega
      · exact h'.1 z hz
theorem sortN_sorted : ∀ l : List Nat, (sortN l).Pairwise (· ≤ ·)
  | [] => .nil
  | x :: xs => insN_sorted x (sortN_sorted xs)
theorem notIn_ok {x : Nat} : ∀ {l : List Nat}, notIn x l = true → x ∉ l
  | [], _ => by simp
  | y :: ys, h => by
    unfold notIn at h
    split at h
    · cases h
    · next q =>
      have q : x ≠ y := fun e => by rw [beq_iff.2 e] at q; cases q
      simp [q, notIn_ok h]
theorem apartN_ok : ∀ {l : List Nat}, apartN l = true → l.Nodup
  | [], _ => .nil
  | x :: xs, h => by
    unfold apartN at h
    split at h
    · next q => exact List.nodup_cons.2 ⟨notIn_ok q, apartN_ok h⟩
    · cases h
theorem allLt_ok {n : Nat} : ∀ {l : List Nat}, allLt n l = true → ∀ x ∈ l, x < n
  | [], _ => by simp
  | y :: ys, h => by
    unfold allLt at h
    split at h
    · next q =>
      intro x hx
      rcases List.mem_cons.1 hx with rfl | hx
      · exact blt_iff.1 q
      · exact allLt_ok h x hx
    · cases h
def encN (n : Nat) : Value := .int .i64 (.ofNat n)
theorem natsAV_concs {ν : Nu} : ∀ l : List Nat, concs ν (natsAV l) = some (l.map encN)
  | [] => concs_nil
  | n :: ns => concs_cons.2 ⟨_, _, by simp only [conc]; rfl, natsAV_concs ns, rfl⟩
theorem natsAV_length : ∀ l : List Nat, (natsAV l).length = l.length
  | [] => rfl
  | n :: ns => by simp [natsAV, natsAV_length ns]
theorem natKeys_cons {k v : AV} {b : Nat} {es : List (AV × AV × Nat)} {ks : List Nat} (h : natKeys ((k, v, b) :: es) = some ks) : ∃ n r, k = .int .i64 (.ofNat n) ∧ natKeys es = some r ∧ ks = n :: r := by
  cases k with
  | int q z =>
    cases q <;> cases z <;> simp only [natKeys, reduceCtorEq] at h
    rename_i n
    cases q : natKeys es with
    | none => rw [q] at h; cases h
    | some r => rw [q] at h; cases h; exact ⟨n, r, rfl, rfl, rfl⟩
  | _ => simp [natKeys] at h
theorem natKeys_ok {ν : Nu} : ∀ {es : List (AV × AV × Nat)} {ks : List Nat} {ms : List MapEntry}, natKeys es = some ks → EntsOk ν es ms → ms.map (·.key) = ks.map encN ∧ ms.map (·.born) = borns es
  | [], ks, ms, h, he => by
    simp only [natKeys, Option.some.injEq] at h
    subst h
    cases ms with
    | nil => exact ⟨rfl, rfl⟩
    | cons _ _ => exact he.elim
  | (k, v, b) :: es, ks, ms, h, he => by
    cases ms with
    | nil => exact he.elim
    | cons m ms =>
      obtain ⟨⟨h1, h2, h3⟩, h4⟩ := he
      obtain ⟨n, r, rfl, q, rfl⟩ := natKeys_cons h
      obtain ⟨i1, i2⟩ := natKeys_ok q h4
      simp only [conc, Option.some.injEq] at h1
      exact ⟨by simp [i1, ← h1, encN], by simp [i2, borns, ← h3]⟩
def anyR : Value → Option (DataW Unit × List MemPlace) := fun _ => some (.nil, [])
theorem keyOf_nat {n : Nat} (h : n < 4611686018427387904) : keyOf Tryz.prog 3 (encN n) = some (.int .i64 (.ofNat n)) := by
  have hw : (Lit.int .i64 (Int.ofNat n)).wf = true := by
    show (decide (IntKind.min .i64 ≤ Int.ofNat n) && decide (Int.ofNat n ≤ IntKind.max .i64)) = true
    have e1 : IntKind.min .i64 = -9223372036854775808 := by decide
    have e2 : IntKind.max .i64 = 9223372036854775807 := by decide
    rw [e1, e2, Bool.and_eq_true, decide_eq_true_eq, decide_eq_true_eq]
    show (-9223372036854775808 : Int) ≤ (n : Int) ∧ (n : Int) ≤ 9223372036854775807
    omega
  have hu : Tryz.prog.underlying 3 = some (.int .i64) := Tryz.underlying3
  simp only [keyOf, hu, mapKey, encN, hw, and_self, if_true]
end Go.Proofs.YtnnalcfdeldocaaGreatDoor.X
namespace Go.Proofs.YtnnalcfdeldocaaGreatDoor.X
open Go Go.RowKit Go.Maps Go.Sort Go.Shelf
set_option linter.unusedVariables false
set_option linter.unusedSimpArgs false
def numOf : Value → Int
  | .int _ n => n
  | _ => 0
def Small (n : Nat) : Prop := n < 4611686018427387904
theorem rd_nat {x : MapEntry} {n : Nat} (h : x.key = encN n) (hn : Small n) : Go.WideElems.rd Tryz.prog 3 anyR x = some (.int .i64 (.ofNat n), .nil) := by
  have hk := keyOf_nat hn
  unfold Go.WideElems.rd
  rw [h, hk]
  rfl
theorem owns_nat {W : World} {b : Nat} {ms : Array MapEntry} {ck : Nat} {ks : List Nat} (hb : W.heap[b]? = some (.map ms ck)) (hk : ms.toList.map (·.key) = ks.map encN) (hlt : ∀ k ∈ ks, k < 4611686018427387904) (hap : ks.Nodup) (hlen : ks.length ≤ 64)
    (hbn : (ms.toList.map (·.born)).Nodup) (hbl : ∀ x ∈ ms.toList.map (·.born), x < ck) :
    ∃ D : DataW Unit, W.ownsMap Tryz.prog 3 anyR b ms.size D ∧ Maps.size D = ks.length ∧ (Go.intKeys D).Perm (ks.map Int.ofNat) := by
  have hsz : ms.size = ks.length := by have := congrArg List.length hk; simpa using this
  have hread : ∀ x ∈ ms.toList, ∃ n, Small n ∧ x.key = encN n := fun x hx => by
    have : x.key ∈ ks.map encN := hk ▸ List.mem_map.2 ⟨x, hx, rfl⟩
    obtain ⟨n, hn, e⟩ := List.mem_map.1 this
    exact ⟨n, hlt n hn, e.symm⟩
  refine ⟨_, ⟨ms, ck, hb, ⟨by rw [hsz]; unfold maxLen; omega, ⟨fun x hx => hbl _ (List.mem_map.2 ⟨x, hx, rfl⟩), hbn, ?_⟩, fun x hx => ?_⟩, Nat.le_refl _, rfl⟩, ?_, ?_⟩
  · rw [hk]
    refine List.pairwise_map.2 (hap.imp fun {a b} hne e => hne ?_)
    simp only [encN, Value.int.injEq, true_and] at e
    exact Int.ofNat.inj e
  · obtain ⟨n, hn, e⟩ := hread x hx
    exact ⟨_, rd_nat e hn⟩
  · show (List.foldr DataW.insert [] _).length = _
    rw [length_sorted, List.length_map, Array.length_toList, hsz]
  · show (List.map (fun p => Go.intOf p.1) (List.foldr DataW.insert [] _)).Perm _
    refine ((Go.WideShapes.sorted_perm _).map _).trans ?_
    rw [List.map_map]
    have e1 : ms.toList.map ((fun p : Lit × DataW Unit => Go.intOf p.1) ∘ Go.WideElems.rg Tryz.prog 3 anyR) = (ms.toList.map (·.key)).map numOf := by
      rw [List.map_map]
      refine List.map_congr_left fun x hx => ?_
      obtain ⟨n, hn, e⟩ := hread x hx
      simp only [Function.comp_apply]
      have e0 := rd_nat e hn
      have e2 : Go.WideElems.rg Tryz.prog 3 anyR x = (.int .i64 (.ofNat n), .nil) := Go.WideElems.rg_of e0
      have e3 : numOf x.key = Int.ofNat n := by rw [e]; rfl
      rw [e2, e3]
      rfl
    rw [e1, hk, List.map_map]
    exact .refl _
theorem merge_nat {ss : List Int} {ks : List Nat} (h : ss.Perm (ks.map Int.ofNat)) : (ss.mergeSort fun x y => decide (x ≤ y)) = (sortN ks).map Int.ofNat := by
  have h1 : (ss.mergeSort leI) = ((sortN ks).map Int.ofNat).mergeSort leI := mergeSort_of_perm_i (h.trans ((sortN_perm ks).map _).symm)
  refine h1.trans (List.mergeSort_of_pairwise (List.pairwise_map.2 ((sortN_sorted ks).imp fun {a b} hab => ?_)))
  simp only [leI, decide_eq_true_eq]
  exact Int.ofNat_le.2 hab
theorem sorts (m : Nat) : AnyZI.SortsIn Tryz.prog sortedR Fence.wide m :=
  ⟨fun blk off cap ss W hH hblk hsz => callsIn_wide.2 (AnyM.slices_Sort_int sortL blk off cap ss W hH hblk hsz),
   fun p cap W => callsIn_wide.2 (AnyM.slices_Sort_int_none sortL p cap W)⟩
/-- slices.Sorted, handed maps.Keys of a map. -/
theorem sorted_nat {W : World} {c b nn : Nat} {D : DataW Unit} (hc : W.cell? ⟨c, 0, none⟩ = some (.map (some b))) (hcl : c < W.heap.size) (hown : W.ownsMap Tryz.prog 3 anyR b nn D) (hlen : Maps.size D ≤ 64) :
    CallsIn Fence.wide 5 Tryz.prog 226 #[.func (.func 328) #[] #[.pointer (some ⟨c, 0, none⟩)]] W fun e w' => ∃ (v : Value) (ss : List Int), e = .returned v ∧ ss.Perm (Go.intKeys D) ∧
      w'.ownsRow W.heap.size 3 1 v ss.length ((ss.mergeSort (fun x y => decide (x ≤ y))).map encZ) ∧ (v = .slice none 0 0 ↔ ss = []) ∧ Below W.heap.size W w' := by
  have hseq : SeqGives Fence.wide 2 Tryz.prog 328 #[.pointer (some ⟨c, 0, none⟩)] encZ (fun ss => ss.Perm (Go.intKeys D)) (Maps.size D) W :=
    AnyZI.keys_gives (ρ := keysR) { keysL with } Fence.wide _ trivial rfl (by omega) c b nn D _ hcl hc hown
  exact AnyZI.sorted_in sortedL Fence.wide 5 trivial trivial trivial trivial rfl (by omega) (sorts _) (enters_of Tryz.func327 (by kernel_rfl) rfl) 328 #[.pointer (some ⟨c, 0, none⟩)] trivial (enters_of Tryz.func328 (by kernel_rfl) rfl) _ _ (by unfold maxLen; omega) (by omega) _ hseq
end Go.Proofs.YtnnalcfdeldocaaGreatDoor.X
namespace Go.Proofs.YtnnalcfdeldocaaGreatDoor.X
open Go Go.RowKit Go.Maps Go.Sort Go.Shelf
set_option linter.unusedVariables false
set_option linter.unusedSimpArgs false
theorem sortH_some {f : Nat} {args : List AV} {s s1 : St} {v : AV} (h : sortH f args s = some (v, s1)) : ∃ b m e z es ck ks k, f = 226 ∧ args = [.fn 328 [] [.ptr b 0]] ∧ s.heap.get b = some (.cells [.map m] e z false) ∧ s.heap.get m = some (.map es ck) ∧ natKeys es = some ks ∧ 2 ≤ ks.length ∧ ks.length ≤ 64 ∧ ks.Nodup ∧ (∀ x ∈ ks, x < 4611686018427387904) ∧ (borns es).Nodup ∧ (∀ x ∈ borns es, x < ck) ∧
    newB (.cells (natsAV (sortN ks)) 3 1 true) { s with rd := Nat.lor (Nat.lor s.rd (bit b)) (bit m) } = some (k, s1) ∧ v = .slice k 0 ks.length (.unk 0) := by
  unfold sortH at h
  split at h
  · cases h
  · next q1 =>
    split at h
    · split at h
      · cases h
      · next q2 =>
        split at h
        · next q3 =>
          split at h
          · next q4 =>
            split at h
            · cases h
            · next q5 =>
              split at h
              · cases h
              · next q6 =>
                split at h
                · cases h
                · next q7 =>
                  cases h
                  rw [Bool.and_eq_true, Bool.and_eq_true, Bool.and_eq_true, Bool.and_eq_true, Bool.and_eq_true] at q6
                  obtain ⟨c1, c2, c3, c4, c5, c6⟩ := q6
                  have e1 := beq_iff.1 q1
                  have e2 := beq_iff.1 q2
                  subst e1 e2
                  exact ⟨_, _, _, _, _, _, _, _, rfl, rfl, q3, q4, q5, Nat.le_of_ble_eq_true c1, Nat.le_of_ble_eq_true c2, apartN_ok c3, allLt_ok c4, apartN_ok c5, allLt_ok c6, q7, rfl⟩
          · cases h
        · cases h
    · cases h
theorem sortH_ok : HookOk Tryz.prog sortH := by
  intro f args s v s1 hh
  obtain ⟨b, m, e, z, es, ck, ks, k, rfl, rfl, hb, hm, hk, h2, h12, hnd, hlt, hbn, hbl, hnew, rfl⟩ := sortH_some hh
  obtain ⟨rfl, hfr, hnx, rfl⟩ := newB_some.1 hnew
  have hle : Le s ({ s with rd := Nat.lor (Nat.lor s.rd (bit b)) (bit m) } : St) := (Le.rdk s b).trans (Le.rdk { s with rd := Nat.lor s.rd (bit b) } m)
  refine ⟨?_, hle.trans (LeM.newB _ _ _ _ hnew)⟩
  intro M B ν W Args hS hB hp hargs
  refine ⟨⟨_, Tryz.func226, rfl, by kernel_rfl⟩, fun R hR => ?_⟩
  have hMb : M b := hp b (hS.dom b ⟨_, hb⟩) (.inl (by show (Nat.lor (Nat.lor s.rd (bit b)) (bit m)).testBit b = true; rw [testBit_lor, testBit_lor]; simp))
  have hMm : M m := hp m (hS.dom m ⟨_, hm⟩) (.inl (by show (Nat.lor (Nat.lor s.rd (bit b)) (bit m)).testBit m = true; rw [testBit_lor]; simp))
  obtain ⟨ib, nb, C, fz, g1, g2, g3, g4, g5⟩ := hS.blk b _ hMb hb
  obtain ⟨o1, o2⟩ := g4 rfl
  obtain ⟨V, v1, v2⟩ := g3 0 _ rfl
  obtain ⟨im, nm, ms, w1, w2⟩ := hS.blk m _ hMm hm
  simp only [conc, nm, Option.map_some, Option.some.injEq] at v2
  subst v2
  rw [o1] at v1
  have hcell : W.cell? ⟨ib.blk, 0, none⟩ = some (.map (some im.blk)) := by
    simp only [World.cell?, g1]
    simpa using v1
  have hbl' := (hS.lt b ib nb).2
  obtain ⟨hkm, hbm⟩ := natKeys_ok hk w2
  obtain ⟨D, hown, hsize, hperm⟩ := owns_nat w1 hkm hlt hnd h12 (by rw [hbm]; exact hbn) (by rw [hbm]; exact hbl)
  have hA : Args = [.func (.func 328) #[] #[.pointer (some ⟨ib.blk, 0, none⟩)]] := by
    simp only [concs, conc, nb, Option.map_some, Option.bind_some, o1, Option.some.injEq] at hargs
    exact hargs.symm
  subst hA
  refine (callsIn_wide (n := 0)).2 (callsIn_wide.1 ((sorted_nat hcell hbl' hown (by omega)).mono ?_))
  rintro e' w' ⟨V, ss, rfl, hss, hrow, hnil, hbel⟩
  have hsl : ss.length = ks.length := by rw [(hss.trans hperm).length_eq, List.length_map]
  rw [merge_nat (hss.trans hperm)] at hrow
  rcases hrow.2 with ⟨_, hz⟩ | ⟨g, cap, cur, rfl, r1, r2, r3, r4, r5, r6⟩
  · omega
  · have hgl : g < w'.heap.size := (Array.getElem?_eq_some_iff.1 r2).1
    have hS2 : Sat M B ν ({ s with rd := Nat.lor (Nat.lor s.rd (bit b)) (bit m) } : St) W := hS.same rfl rfl
    refine hR _ w' (ν.add s.next ⟨g, 0, cap⟩) ?_ (Eff.pre (s2 := { s with rd := Nat.lor (Nat.lor s.rd (bit b)) (bit m) }) rfl rfl (Eff.fresh hS2 hnx hB rfl rfl r1 hgl hbel.block ?_ hbel.os hbel.tape hbel.output))
    · simp only [conc, Nu.add_eq, Option.bind_some, Nat.zero_add, Nat.add_zero, Nat.sub_zero]
      rw [if_pos (by rw [← hsl]; exact r3), hsl]
    · have hl : cur.toList.take ks.length = (sortN ks).map encN := by
        rw [hsl, Nat.mul_one, List.map_map] at r6
        exact r6
      have hsn : (sortN ks).length = ks.length := (sortN_perm ks).length_eq
      refine ⟨cur, (0, 0), r2, .inl (Nat.le_refl _), fun i v hv => ?_, fun q => (by cases q), fun _ => ⟨Nat.one_pos, by rw [Nat.zero_add, r5]; exact Nat.le_refl _, by rw [natsAV_length, hsn, Nat.mul_one, ← hsl]; exact r3⟩⟩
      obtain ⟨V, a1, a2⟩ := concs_get (natsAV_concs (sortN ks) (ν := ν.add s.next ⟨g, 0, cap⟩)) hv
      refine ⟨V, ?_, a2⟩
      rw [Nat.zero_add, ← Array.getElem?_toList]
      rw [← hl] at a1
      have hi : i < ks.length := by
        have := (List.getElem?_eq_some_iff.1 a1).1
        rw [List.length_take] at this
        omega
      rw [List.getElem?_take_of_lt hi] at a1
      exact a1
end Go.Proofs.YtnnalcfdeldocaaGreatDoor.X
