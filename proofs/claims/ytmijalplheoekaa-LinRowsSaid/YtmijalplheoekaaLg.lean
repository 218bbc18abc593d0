/- lives of layer 25. -/
import Derived.Test.YtmijalplheoekaaLf
namespace Go.Proofs.Ytmijalplheoekaa.P
open Go.RowKit Go.Maps Go.WideMaps Go.Proofs.YtmijalplheoekaaW.PrintWords Go.Proofs.YtmijalplheoekaaW.PrintLast Go.Proofs.YtmijalplheoekaaW.PrintMore
set_option linter.unusedVariables false
set_option linter.unusedSimpArgs false
def tT : ByteArray := ⟨#[116]⟩
def sA : S31 := ⟨true, tT, 1, 2, 1⟩
def sB : S31 := ⟨false, tT, 3, 4, 0⟩
theorem ck1 : checkC ([sA, sB].map toSn) (toks [tT]) 1 250 = 250 := by
  simp only [toks, toSn, sA, sB, tT, List.map_cons, List.map_nil, ByteArray.toList_eq]
  decide +kernel
theorem ck2 : checkC ([sA].map toSn) (toks [tT]) 1 250 = 0 := by
  simp only [toks, toSn, sA, sB, tT, List.map_cons, List.map_nil, ByteArray.toList_eq]
  decide +kernel
theorem ck3 : checkC ([sA].map toSn) (toks []) 1 250 = 250 := by
  simp only [toks, toSn, sA, sB, tT, List.map_cons, List.map_nil, ByteArray.toList_eq]
  decide +kernel
theorem ck4 : ([sA, sB].any fun x => wrongB (toks [tT]) (toSn x)) = false := by
  simp only [toks, toSn, sA, sB, tT, List.map_cons, List.map_nil, ByteArray.toList_eq]
  decide +kernel
theorem ck5 : first ([sA, sB].map toSn) tT.toList = 3 ∧ last ([sA, sB].map toSn) tT.toList 1 = 2 := by
  simp only [toks, toSn, sA, sB, tT, List.map_cons, List.map_nil, ByteArray.toList_eq]
  decide +kernel
def blkAB : Obj := .cells #[.bool true, .string tT, .int .i64 1, .int .i64 2, .int .i64 1, .bool false, .string tT, .int .i64 3, .int .i64 4, .int .i64 0] 31
theorem C_AB {W : World} {b : Nat} (h : W.heap[b]? = some blkAB) : Kd.C k31 W (some ⟨b, 0, none⟩) [sA, sB].length [sA, sB] := by
  refine ⟨rfl, by decide, fun _ => ⟨_, rfl, fun j p hp => ?_⟩⟩
  have hc : ∀ k v, (#[.bool true, .string tT, .int .i64 1, .int .i64 2, .int .i64 1, .bool false, .string tT, .int .i64 3, .int .i64 4, .int .i64 0] : Array Value)[k]? = some v → W.cell? ⟨b, k, none⟩ = some v := fun k v e => (blk_cell h k).trans e
  match j, hp with
  | 0, hp =>
    cases hp
    refine ⟨_, rfl, k31_mk W sA, fun i u hi => ?_⟩
    match i, hi with
    | 0, hi => cases hi; exact hc 0 _ rfl
    | 1, hi => cases hi; exact hc 1 _ rfl
    | 2, hi => cases hi; exact hc 2 _ rfl
    | 3, hi => cases hi; exact hc 3 _ rfl
    | 4, hi => cases hi; exact hc 4 _ rfl
    | i + 5, hi => simp at hi
  | 1, hp =>
    cases hp
    refine ⟨_, rfl, k31_mk W sB, fun i u hi => ?_⟩
    match i, hi with
    | 0, hi => cases hi; exact hc 5 _ rfl
    | 1, hi => cases hi; exact hc 6 _ rfl
    | 2, hi => cases hi; exact hc 7 _ rfl
    | 3, hi => cases hi; exact hc 8 _ rfl
    | 4, hi => cases hi; exact hc 9 _ rfl
    | i + 5, hi => simp at hi
  | j + 2, hp => simp at hp
theorem C_A {W : World} {b : Nat} (h : W.heap[b]? = some blkAB) : Kd.C k31 W (some ⟨b, 0, none⟩) [sA].length [sA] := by
  obtain ⟨h1, h2, h3⟩ := C_AB h
  refine ⟨rfl, by decide, fun _ => ?_⟩
  obtain ⟨ad, e, h4⟩ := h3 (by decide)
  refine ⟨ad, e, fun j p hp => ?_⟩
  match j, hp with
  | 0, hp => exact h4 0 p hp
  | j + 1, hp => simp at hp
theorem C_T {W : World} {b : Nat} (h : W.heap[b]? = some (.cells #[.string tT] 9 (0, 0))) : Kd.C Kd.string W (some ⟨b, 0, none⟩) [tT].length [tT] := by
  refine ⟨rfl, by decide, fun _ => ⟨_, rfl, fun j p hp => ?_⟩⟩
  match j, hp with
  | 0, hp =>
    cases hp
    refine ⟨[.string tT], rfl, rfl, fun i u hi => ?_⟩
    match i, hi with
    | 0, hi => cases hi; exact (blk_cell h 0).trans rfl
    | i + 1, hi => simp at hi
  | j + 1, hp => simp at hp
theorem tT_size : ∀ t ∈ [tT], t.size ≤ maxLen := fun t ht => by
  obtain rfl := List.mem_singleton.1 ht
  decide
theorem AB_size : ∀ x ∈ [sA, sB], x.f1.size ≤ maxLen := fun x hx => by
  rcases List.mem_cons.1 hx with rfl | hx
  · decide
  · obtain rfl := List.mem_singleton.1 hx
    decide
set_option maxHeartbeats 8000000 in
set_option maxRecDepth 100000 in
theorem lives.at (w : World) : Calls Try.prog 7 #[] w fun e w' => e = .returned (.bool true) ∧ Below w.heap.size w w' := by
  have HC : Aside0 (∀ (W : World) (b1 b2 : Nat), W.heap[b1]? = some blkAB → W.heap[b2]? = some (.cells #[.string tT] 9 (0, 0)) → Calls Try.prog 9 #[.slice (some ⟨b1, 0, none⟩) 2 2, .slice (some ⟨b2, 0, none⟩) 1 1] W fun e w' => e = .returned (.int .i64 250) ∧ Below W.heap.size W w') := ⟨fun W b1 b2 h1 h2 => by
    have := Check.at (some ⟨b1, 0, none⟩) 2 [sA, sB] (some ⟨b2, 0, none⟩) 1 [tT] W ⟨C_AB h1, C_T h2, by decide, by decide, by decide, AB_size, tT_size⟩
    rw [ck1] at this
    exact this⟩
  have HC2 : Aside0 (∀ (W : World) (b1 b2 : Nat), W.heap[b1]? = some blkAB → W.heap[b2]? = some (.cells #[.string tT] 9 (0, 0)) → Calls Try.prog 9 #[.slice (some ⟨b1, 0, none⟩) 1 2, .slice (some ⟨b2, 0, none⟩) 1 1] W fun e w' => e = .returned (.int .i64 0) ∧ Below W.heap.size W w') := ⟨fun W b1 b2 h1 h2 => by
    have := Check.at (some ⟨b1, 0, none⟩) 2 [sA] (some ⟨b2, 0, none⟩) 1 [tT] W ⟨C_A h1, C_T h2, by decide, by decide, by decide, fun x hx => AB_size x (List.mem_cons.2 (.inl (List.mem_singleton.1 hx))), tT_size⟩
    rw [ck2] at this
    exact this⟩
  have HC3 : Aside0 (∀ (W : World) (b1 : Nat), W.heap[b1]? = some blkAB → Calls Try.prog 9 #[.slice (some ⟨b1, 0, none⟩) 1 2, .slice none 0 0] W fun e w' => e = .returned (.int .i64 250) ∧ Below W.heap.size W w') := ⟨fun W b1 h1 => by
    have := Check.at (some ⟨b1, 0, none⟩) 2 [sA] none 0 [] W ⟨C_A h1, Kd.C_nil _ _, by decide, by decide, by decide, fun x hx => AB_size x (List.mem_cons.2 (.inl (List.mem_singleton.1 hx))), fun t ht => absurd ht (by simp)⟩
    rw [ck3] at this
    exact this⟩
  have HC4 : Aside0 (∀ (W : World) (b1 b2 : Nat), W.heap[b1]? = some blkAB → W.heap[b2]? = some (.cells #[.string tT] 9 (0, 0)) → Calls Try.prog 12 #[.slice (some ⟨b1, 0, none⟩) 2 2, .slice (some ⟨b2, 0, none⟩) 1 1] W fun e w' => e = .returned (.bool true) ∧ Below W.heap.size W w') := ⟨fun W b1 b2 h1 h2 => by
    have := Ids.at (some ⟨b1, 0, none⟩) 2 [sA, sB] (some ⟨b2, 0, none⟩) 1 [tT] W (C_AB h1) (C_T h2) (by decide) (by decide) AB_size tT_size
    rw [ck4] at this
    exact this⟩
  have HC5 : Aside0 (∀ (W : World) (b1 : Nat), W.heap[b1]? = some blkAB → Calls Try.prog 11 #[.slice (some ⟨b1, 0, none⟩) 2 2, .string tT, .int .i64 1] W fun e w' => e = .returned (.tuple #[.int .i64 3, .int .i64 2]) ∧ Below W.heap.size W w') := ⟨fun W b1 h1 => by
    have := Bounds.at (some ⟨b1, 0, none⟩) 2 [sA, sB] tT 1 W (C_AB h1) (by decide) (by decide)
    rw [ck5.1, ck5.2] at this
    exact this⟩
  obtain ⟨b1, eb1⟩ : ∃ b1, w.heap.size = b1 := ⟨_, rfl⟩
  obtain ⟨w1, ew1⟩ : ∃ w1, w.alloc blkAB = w1 := ⟨_, rfl⟩
  have X : Aside0 (w1.heap[b1]? = some blkAB) := ⟨by rw [← ew1, ← eb1]; exact blk_new _ _⟩
  have HB : Aside0 (Below w.heap.size w w1) := ⟨by rw [← ew1]; exact below_alloc (Below.refl _ _) _⟩
  have ew2 : w.alloc (.cells #[.bool true, .string ⟨#[116]⟩, .int .i64 1, .int .i64 2, .int .i64 1, .bool false, .string ⟨#[116]⟩, .int .i64 3, .int .i64 4, .int .i64 0] 31) = w1 := ew1
  have HBo : Aside0 (w.heap.size = b1) := ⟨eb1⟩
  clear ew1
  go_enter Try.func7, Try.ntmps7
  go_upto_region 2 with (fail)
  try simp only [ew2, eb1]
  clear ew2 eb1
  go_wp2_with fail
  refine (HC5.out _ b1 X.out).mono ?_
  rintro e w2 ⟨rfl, hb⟩
  replace X := Aside0.mk (blk_below X.out hb)
  replace HB := Aside0.mk (below_step HB.out hb)
  clear hb
  go_wp2_with fail
  refine (HC.out _ b1 _ (blk_alloc X.out _) (blk_new _ _)).mono ?_
  rintro e w3 ⟨rfl, hb⟩
  replace X := Aside0.mk (blk_below (blk_alloc X.out _) hb)
  replace HB := Aside0.mk (below_step (below_alloc HB.out _) hb)
  clear hb
  go_wp2_with fail
  refine (HC2.out _ b1 _ (blk_alloc X.out _) (blk_new _ _)).mono ?_
  rintro e w4 ⟨rfl, hb⟩
  replace X := Aside0.mk (blk_below (blk_alloc X.out _) hb)
  replace HB := Aside0.mk (below_step (below_alloc HB.out _) hb)
  clear hb
  go_wp2_with fail
  refine (HC3.out _ b1 X.out).mono ?_
  rintro e w5 ⟨rfl, hb⟩
  replace X := Aside0.mk (blk_below X.out hb)
  replace HB := Aside0.mk (below_step HB.out hb)
  clear hb
  go_wp2_with fail
  refine (HC4.out _ b1 _ (blk_alloc X.out _) (blk_new _ _)).mono ?_
  rintro e w6 ⟨rfl, hb⟩
  replace HB := Aside0.mk (below_step (below_alloc HB.out _) hb)
  clear hb
  go_wp2
  go_ret
  exact ⟨rfl, by first | exact HB.out | (rw [← HBo.out]; exact HB.out)⟩
end Go.Proofs.Ytmijalplheoekaa.P
