/- LinSerial: what its loop keeps, in plain words, and the box of the sight under way. -/
import Derived.Test.YtmijalplheoekaaLg
namespace Go.Proofs.Ytmijalplheoekaa.P
open Go.RowKit Go.Maps Go.WideMaps Go.Proofs.YtmijalplheoekaaW.PrintWords Go.Proofs.YtmijalplheoekaaW.PrintLast Go.Proofs.YtmijalplheoekaaW.PrintMore
set_option linter.unusedVariables false
set_option linter.unusedSimpArgs false
def prS (x : S31) : Bool × List UInt8 := (x.f0, x.f1.toList)
def calls300 (l : List S31) : List (Bool × List UInt8) := (l.take 300).map prS
/-- What LinSerial's loop keeps before call number j. -/
structure SL (l : List S31) (j : Nat) (T : List ByteArray) (S : List S31) : Prop where
  eq : serial ((calls300 l).drop j) j (toks T) (S.map toSn) = serial (calls300 l) 0 [] []
  lt : T.length ≤ j
  ls : S.length ≤ j
  nd : (toks T).Nodup
  st : ∀ t ∈ T, t.size ≤ maxLen
  ss : ∀ s ∈ S, s.f1.size ≤ maxLen
theorem SL.nil (l : List S31) : SL l 0 [] [] := ⟨rfl, Nat.le_refl _, Nat.le_refl _, List.nodup_nil, fun _ h => absurd h (by simp), fun _ h => absurd h (by simp)⟩
theorem calls300_length (l : List S31) : (calls300 l).length = min l.length 300 := by
  unfold calls300
  rw [List.length_map, List.length_take]
  omega
theorem calls300_drop {l : List S31} {j : Nat} (h : j < l.length) (h3 : j < 300) : (calls300 l).drop j = prS (rd_T31 l (j : Int)) :: (calls300 l).drop (j + 1) := by
  have hl : j < (calls300 l).length := by rw [calls300_length]; omega
  rw [List.drop_eq_getElem_cons hl]
  congr 1
  have e : (calls300 l)[j] = prS l[j] := by simp [calls300]
  rw [e]
  unfold rd_T31
  rw [Int.toNat_natCast, List.getD_eq_getElem?_getD, List.getElem?_eq_getElem h]
  rfl
theorem serial_cons (p : Bool × List UInt8) (r : List (Bool × List UInt8)) (i : Nat) (T : List (List UInt8)) (S : List (Sn (List UInt8))) : serial (p :: r) i T S = if num p.2 T = 0 ∧ p.1 = true then serial r (i + 1) (T ++ [p.2]) (S ++ [⟨p.1, p.2, 2 * (i : Int) + 1, 2 * (i : Int) + 2, (T.length : Int) + 1⟩])
    else serial r (i + 1) T (S ++ [⟨p.1, p.2, 2 * (i : Int) + 1, 2 * (i : Int) + 2, num p.2 T⟩]) := rfl
theorem SL.more {l : List S31} {j : Nat} {T : List ByteArray} {S : List S31} (h : SL l j T S) (hl : ∀ x ∈ l, x.f1.size ≤ maxLen) (hj : j < l.length) (h3 : j < 300) {c : Bool} {t : ByteArray} (ec : (rd_T31 l (j : Int)).f0 = c) (et : (rd_T31 l (j : Int)).f1 = t)
    {n : Int} (en : num t.toList (toks T) = n) (hn : ¬ (n = 0 ∧ c = true)) : SL l (j + 1) T (S ++ [⟨c, t, 2 * (j : Int) + 1, 2 * (j : Int) + 2, n⟩]) := by
  refine ⟨?_, by have := h.lt; omega, by rw [List.length_append, List.length_singleton]; have := h.ls; omega, h.nd, h.st, fun s hs => ?_⟩
  · have e := h.eq
    rw [calls300_drop hj h3] at e
    rw [serial_cons, if_neg (by show ¬ (num (prS _).2 _ = 0 ∧ (prS _).1 = true); unfold prS; rw [ec, et, en]; exact hn)] at e
    rw [← e, List.map_append, List.map_singleton]
    unfold prS toSn
    rw [ec, et, en]
  · rcases List.mem_append.1 hs with q | q
    · exact h.ss s q
    · rw [List.mem_singleton] at q
      rw [q, ← et]
      exact hl (rd_T31 l (j : Int)) (rd31_mem (by omega) (by omega))
theorem SL.add {l : List S31} {j : Nat} {T : List ByteArray} {S : List S31} (h : SL l j T S) (hl : ∀ x ∈ l, x.f1.size ≤ maxLen) (hj : j < l.length) (h3 : j < 300) {t : ByteArray} (ec : (rd_T31 l (j : Int)).f0 = true) (et : (rd_T31 l (j : Int)).f1 = t)
    (en : num t.toList (toks T) = 0) : SL l (j + 1) (T ++ [t]) (S ++ [⟨true, t, 2 * (j : Int) + 1, 2 * (j : Int) + 2, (T.length : Int) + 1⟩]) := by
  refine ⟨?_, by rw [List.length_append, List.length_singleton]; have := h.lt; omega, by rw [List.length_append, List.length_singleton]; have := h.ls; omega, ?_, fun s hs => ?_, fun s hs => ?_⟩
  · have e := h.eq
    rw [calls300_drop hj h3] at e
    rw [serial_cons, if_pos (by show (num (prS _).2 _ = 0 ∧ (prS _).1 = true); unfold prS; rw [ec, et, en]; exact ⟨rfl, rfl⟩)] at e
    rw [← e, List.map_append, List.map_singleton]
    unfold prS toSn toks
    rw [ec, et, List.map_append, List.map_singleton, List.length_map]
  · unfold toks
    rw [List.map_append, List.map_singleton, List.nodup_append]
    refine ⟨h.nd, by simp, fun a ha b hb e => ?_⟩
    rw [List.mem_singleton] at hb
    exact num_zero.1 en (by rw [← hb, ← e]; exact ha)
  · rcases List.mem_append.1 hs with q | q
    · exact h.st s q
    · rw [List.mem_singleton] at q
      rw [q, ← et]
      exact hl (rd_T31 l (j : Int)) (rd31_mem (by omega) (by omega))
  · rcases List.mem_append.1 hs with q | q
    · exact h.ss s q
    · rw [List.mem_singleton] at q
      rw [q, ← et]
      exact hl (rd_T31 l (j : Int)) (rd31_mem (by omega) (by omega))
theorem SL.okay {l : List S31} {j : Nat} {T : List ByteArray} {S : List S31} (h : SL l j T S) (hj : min l.length 300 ≤ j) : Okay (S.map toSn) (toks T) := by
  have e := h.eq
  rw [List.drop_eq_nil_of_le (by rw [calls300_length]; exact hj)] at e
  have := serial_okay (calls300 l) (by rw [calls300_length]; omega)
  rw [← e] at this
  exact this
/-- The number of a token among the first q, q + 1 tokens: none stands twice. -/
theorem num_take {T : List ByteArray} (hn : (toks T).Nodup) (t : ByteArray) {q : Nat} (h : q < T.length) :
    num t.toList ((toks T).take (q + 1)) = if (rdOf ByteArray.empty T (q : Int)).toList = t.toList then (q : Int) + 1 else num t.toList ((toks T).take q) := by
  have hl : q < (toks T).length := by unfold toks; rw [List.length_map]; exact h
  have e : (toks T)[q] = (rdOf ByteArray.empty T (q : Int)).toList := by rw [rdOf_get h]; simp [toks]
  rw [List.take_succ_eq_append_getElem hl, e]
  have hnot : (toks T)[q] ∉ (toks T).take q := fun hm => by
    have h1 : (toks T).take q ++ [(toks T)[q]] = (toks T).take (q + 1) := (List.take_succ_eq_append_getElem hl).symm
    have h2 := hn.sublist (List.take_sublist (q + 1) (toks T))
    rw [← h1, List.nodup_append] at h2
    exact h2.2.2 _ hm _ (List.mem_singleton_self _) rfl
  rw [e] at hnot
  by_cases k : (rdOf ByteArray.empty T (q : Int)).toList = t.toList
  · rw [if_pos k, k, num_app_new (by rw [← k]; exact hnot), List.length_take, Nat.min_eq_left (by omega)]
  · rw [if_neg k]
    by_cases z : num t.toList ((toks T).take q) = 0
    · rw [z, num_zero]
      intro hm
      rcases List.mem_append.1 hm with q1 | q1
      · exact num_zero.1 z q1
      · rw [List.mem_singleton] at q1; exact k q1.symm
    · exact num_app_old z
/-- The box of a sight: its block, new; the rows of tokens and of sights beside it. -/
structure BX (w W : World) (bo : Nat) (c : Bool) (t : ByteArray) (b e id : Int) (vT vS : Value) (T : List ByteArray) (S : List S31) : Prop where
  bl : Below w.heap.size w W
  nw : w.heap.size ≤ bo
  box : W.heap[bo]? = some (.cells #[.bool c, .string t, .int .i64 b, .int .i64 e, .int .i64 id] 31 (0, 0))
  rT : Kd.string.R 9 W w.heap.size (fun _ => True) vT T
  rS : k31.R 31 W w.heap.size (fun k => k ≠ bo) vS S
theorem BX.drew {w W : World} {bo : Nat} {c : Bool} {t : ByteArray} {b e id : Int} {vT vS : Value} {T : List ByteArray} {S : List S31} (h : BX w W bo c t b e id vT vS T S) : BX w W.drew bo c t b e id vT vS T S :=
  ⟨h.bl.drew, h.nw, h.box, Kd.R_drew h.rT, Kd.R_drew h.rS⟩
theorem BX.setId {w W : World} {bo : Nat} {c : Bool} {t : ByteArray} {b e id : Int} {vT vS : Value} {T : List ByteArray} {S : List S31} (h : BX w W bo c t b e id vT vS T S) (x : Int) : BX w (W.setCell ⟨bo, 4, none⟩ (.int .i64 x)) bo c t b e x vT vS T S :=
  ⟨below_set h.bl h.nw, h.nw, by simpa using blk_set h.box 4 (.int .i64 x), Kd.R_set h.rT h.box (by decide) 4 _, Kd.R_far (p := ⟨bo, 4, none⟩) h.rS (fun k hk => hk) _⟩
theorem info9 : (Try.prog.info? 9).map (fun i => (i.zero, i.size, i.bytes)) = some (some (.string (⟨#[]⟩ : ByteArray)), 1, 16) := by kernel_rfl
theorem info31s : (Try.prog.info? 31).map (fun i => (i.zero, i.size, i.bytes)) = some (some (.agg #[.bool false, .string (⟨#[]⟩ : ByteArray), .int .i64 0, .int .i64 0, .int .i64 0]), 5, 48) := by kernel_rfl
end Go.Proofs.Ytmijalplheoekaa.P
