/- FrameCuts: of frames that are cut off anywhere all that are whole are told, in order, and no others. -/
import Derived.Test.YtlmpdlmamopbeaaFl
namespace Go.Proofs.Ytlmpdlmamopbeaa.P
open Go.RowKit Go.Proofs.YtlmpdlmamopbeaaW.PrintWords Go.Proofs.YtlmpdlmamopbeaaW.PrintLast Go.Proofs.YtlmpdlmamopbeaaW.PrintMore
set_option linter.unusedVariables false
set_option linter.unusedSimpArgs false
theorem rd_take {x : List Int} {m i : Nat} (h : i < m) : rd (x.take m) (i : Int) = rd x (i : Int) := by
  unfold rd
  rw [Int.toNat_natCast, List.getD_eq_getElem?_getD, List.getD_eq_getElem?_getD, List.getElem?_take_of_lt h]
theorem numL_take {x : List Int} {m : Nat} (h : 4 ≤ m) : numL (x.take m) = numL x := by
  unfold numL
  have h0 : rd (x.take m) 0 = rd x 0 := rd_take (x := x) (m := m) (i := 0) (by omega)
  have h1 : rd (x.take m) 1 = rd x 1 := rd_take (x := x) (m := m) (i := 1) (by omega)
  have h2 : rd (x.take m) 2 = rd x 2 := rd_take (x := x) (m := m) (i := 2) (by omega)
  have h3 : rd (x.take m) 3 = rd x 3 := rd_take (x := x) (m := m) (i := 3) (by omega)
  rw [h0, h1, h2, h3]
theorem numL_frB (s : ByteArray) (hs : s.size ≤ 65536) (r : List Int) : numL (frB s ++ r) = s.size := by
  unfold frB headL
  rw [bytesOf_length]
  simp only [List.append_assoc]
  exact numL_word (by omega) _
theorem firstL_part (s : ByteArray) (hs : s.size ≤ 65536) (r : List Int) {m : Nat} (hm : m < 8 + s.size) : firstL ((frB s ++ r).take m) = none := by
  have hl : ((frB s ++ r).take m).length = m := by rw [List.length_take, List.length_append, frB_length]; omega
  unfold firstL
  by_cases q : m < 8
  · rw [if_pos (by omega)]
  · rw [if_neg (by omega), numL_take (by omega), numL_frB s hs, if_pos (.inr (by omega))]
theorem totS_take_succ {l : List ByteArray} {j : Nat} (h : j < l.length) : totS (l.take (j + 1)) = totS (l.take j) + (8 + l[j].size) := by
  rw [List.take_succ_eq_append_getElem h, totS_append, totS_cons, totS_nil]; omega
theorem cut_scan {l : List ByteArray} (hs : ∀ s ∈ l, s.size ≤ 65536) {j k : Nat} (hj : j ≤ l.length) (h1 : totS (l.take j) ≤ k) (h2 : j = l.length ∨ k < totS (l.take (j + 1))) : scanS ((catF l).take k) = l.take j := by
  have e : catF l = catF (l.take j) ++ catF (l.drop j) := by rw [← catF_append, List.take_append_drop]
  have e2 : (catF l).take k = catF (l.take j) ++ (catF (l.drop j)).take (k - totS (l.take j)) := by
    rw [e, List.take_append, catF_length, List.take_of_length_le (by rw [catF_length]; exact h1)]
  rw [e2, scan_cat _ (fun s q => hs s (List.mem_of_mem_take q))]
  have e3 : scanS ((catF (l.drop j)).take (k - totS (l.take j))) = [] := by
    refine scanS_none ?_
    rcases h2 with h2 | h2
    · rw [List.drop_eq_nil_of_le (by omega)]
      show firstL (List.take _ []) = none
      rw [List.take_nil]
      unfold firstL
      rw [if_pos (by decide)]
    · by_cases q : j < l.length
      · rw [totS_take_succ q] at h2
        rw [List.drop_eq_getElem_cons q, catF_cons]
        exact firstL_part _ (hs _ (List.getElem_mem q)) _ (by omega)
      · rw [List.drop_eq_nil_of_le (by omega)]
        show firstL (List.take _ []) = none
        rw [List.take_nil]
        unfold firstL
        rw [if_pos (by decide)]
  rw [e3, List.append_nil]
/-- Where the frames end. -/
def endsL (l : List ByteArray) (j : Nat) : List Int := (List.range j).map fun i => ((totS (l.take (i + 1)) : Nat) : Int)
theorem endsL_length (l : List ByteArray) (j : Nat) : (endsL l j).length = j := by simp [endsL]
theorem endsL_succ (l : List ByteArray) (j : Nat) : endsL l (j + 1) = endsL l j ++ [((totS (l.take (j + 1)) : Nat) : Int)] := by simp [endsL, List.range_succ]
theorem rd_endsL {l : List ByteArray} {j i : Nat} (h : i < j) : rd (endsL l j) (i : Int) = ((totS (l.take (i + 1)) : Nat) : Int) := by
  unfold rd
  rw [Int.toNat_natCast, List.getD_eq_getElem?_getD, List.getElem?_eq_getElem (by rw [endsL_length]; exact h)]
  simp [endsL]
theorem info3i : (Try.prog.info? 3).map (fun i => (i.zero, i.size, i.bytes)) = some (some (.int .i64 0), 1, 8) := by kernel_rfl
abbrev RI (W : World) (base : Nat) (v : Value) (xs : List Int) : Prop := (Kd.int .i64).R 3 W base (fun _ => True) v xs
set_option maxHeartbeats 4000000 in
set_option maxRecDepth 100000 in
theorem FrameCuts.at (A0 : Option Addr) (c0 : Nat) (l : List ByteArray) (a2 : Int) (w : World) (hr : Kd.C Kd.string w A0 l.length l) (hc : l.length ≤ c0) (hl : sizesS l ≤ 1048576) (ha : -9223372036854775808 ≤ a2 ∧ a2 ≤ 9223372036854775807) :
    Calls Try.prog 5 #[.slice A0 l.length c0, .int .i64 a2] w fun e w' => e = .returned (.bool true) ∧ Below w.heap.size w w' := by
  have HR := Aside0.mk hr
  have HC := Aside0.mk hc
  have HL := Aside0.mk hl
  have HA := Aside0.mk ha
  have HLl : Aside0 (l.length ≤ 1048576) := ⟨Nat.le_trans (len_sizes l) hl⟩
  have HTl : Aside0 (totS l ≤ 8388608) := ⟨by have := tot_sizes l; omega⟩
  clear hr hc hl ha
  have HB := Aside0.mk (Below.refl w.heap.size w)
  go_enter Try.func5, Try.ntmps5
  go_wp2
  go_loopg [5, 6, 7] l.length (fun kq v5 v6 v7 wc => ∃ (x : Int) (A5 : Option Addr) (n5 c5 : Nat) (A6 : Option Addr) (n6 c6 : Nat), v5 = .slice A5 n5 c5 ∧ v6 = .slice A6 n6 c6 ∧ v7 = .int .i64 x ∧ Aside0 (PutI l w.heap.size x kq A5 n5 c5 wc) ∧ Aside0 (∃ j : Nat, x = (j : Int) ∧ n6 = j ∧ RI wc w.heap.size (.slice A6 n6 c6) (endsL l j)) ∧ Aside0 (Below w.heap.size w wc))
  case atStart => exact ⟨0, none, 0, 0, none, 0, 0, rfl, rfl, rfl, ⟨0, rfl, by omega, rfl, Kd.R_nil _ _ _ _ _, fun s h => absurd h (by simp)⟩, ⟨0, rfl, rfl, Kd.R_nil _ _ _ _ _⟩, HB⟩
  case round =>
    clear HB
    obtain ⟨x, A5, n5, c5, A6, n6, c6, rfl, rfl, rfl, HJ, HE, HB⟩ := hrel
    cases gk with
    | succ m =>
      have c0b : decide (x < (l.length : Int)) = true := decide_eq_true (by obtain ⟨j, e, hj, _⟩ := HJ.out; omega)
      have hx1 : IntKind.i64.wrap (x + 1) = x + 1 := by rw [i64_w]; unfold wrap64; obtain ⟨j, e, hj, _⟩ := HJ.out; have := HLl.out; omega
      have c1 : 0 ≤ x := by obtain ⟨j, e, hj, _⟩ := HJ.out; omega
      have c2 : x < (l.length : Int) := by obtain ⟨j, e, hj, _⟩ := HJ.out; omega
      have HX : Aside0 (x < (l.length : Int)) := ⟨c2⟩
      obtain ⟨ad, e129, hx129⟩ := Kd.at_string (Kd.C_below HR.out HB.out) x c1 c2
      cases e129
      replace c1 := eq_true c1
      replace c2 := eq_true c2
      by_cases q : 65536 < (rdOf ByteArray.empty l x).size
      · have HQ := Aside0.mk q
        have k1 : decide ((65536 : Int) < ((rdOf ByteArray.empty l x).size : Int)) = true := decide_eq_true (by omega)
        clear q
        go_wp2_with fail
        refine (Put.long A5 c5 n5 _ HQ.out wr).mono ?_
        rintro e w2 ⟨rfl, hb⟩
        have HB2 : Aside0 (Below w.heap.size w w2) := ⟨below_step HB.out hb⟩
        have hx2 := pw_cell_below hb hx129
        clear hb hx129
        go_wp2_with fail
        refine (lives.at _).mono ?_
        rintro e w3 ⟨rfl, hb⟩
        have HB3 : Aside0 (Below w.heap.size w w3) := ⟨below_step HB2.out hb⟩
        have hx3 := pw_cell_below hb hx2
        clear hb hx2
        go_wp2
        go_ret
        exact ⟨rfl, HB3.out⟩
      · have HQ : Aside0 ((rdOf ByteArray.empty l x).size ≤ 65536) := ⟨by omega⟩
        clear q
        go_wp2_with fail
        refine (HJ.out.put HB.out.size HQ.out HL.out).mono ?_
        rintro e w2 ⟨A7, n7, c7, rfl, hj, hb⟩
        have HJ7 := Aside0.mk hj
        have HE7 : Aside0 (∃ j : Nat, x = (j : Int) ∧ n6 = j ∧ RI w2 w.heap.size (.slice A6 n6 c6) (endsL l j)) := ⟨by
          obtain ⟨j, e, hn, hrow⟩ := HE.out
          exact ⟨j, e, hn, Kd.R_below hrow hb⟩⟩
        have HB7 : Aside0 (Below w.heap.size w w2) := ⟨below_step HB.out hb⟩
        obtain ⟨EN, HEN⟩ : ∃ EN, Aside0 (RI w2 w.heap.size (.slice A6 n6 c6) EN ∧ EN = endsL l n6 ∧ x = (n6 : Int)) := by
          obtain ⟨j, e, hn, hrow⟩ := HE7.out
          subst hn
          exact ⟨_, ⟨hrow, rfl, e⟩⟩
        have HN7 : Aside0 ((n7 : Int) = ((totS (l.take (n6 + 1)) : Nat) : Int)) := ⟨by
          obtain ⟨j, e, hj2, hn, _⟩ := HJ7.out
          have := HEN.out.2.2
          rw [hn, show j = n6 + 1 by omega]⟩
        clear hj hb HE7
        go_wp2_with (((with_reducible refine gate_builtin (b := .append) (xs := #[.tmp 41, .tmp 44]) rfl ?_); at_builtin; refine Kd.R_append (Kd.int .i64) (w0 := w) w.heap.size rfl (.tmp 41) (.tmp 44) 38 3 (.int .i64 0) 8 rfl Try.underlying38 info3i rfl (by decide) (by decide) (.slice A6 n6 c6) EN (n7 : Int) [.int .i64 (n7 : Int)] (fun _ => True) (fun _ => False) rfl rfl rfl (fun _ h => h.elim) (fun _ _ => trivial) HEN.out.1 HB7.out HB7.out.size ?hl ?_; (case hl => rw [HEN.out.2.1, endsL_length]; have := HLl.out; have := HEN.out.2.2; have := HX.out; omega); intro v3 w3 ho hb hg hat; have H3 := Aside0.mk ho; have HB8 := Aside0.mk hb; have HJ8 : Aside0 (PutI l w.heap.size (x + 1) m A7 n7 c7 w3) := ⟨by
          obtain ⟨j, e, hj, hn, hrow, hsm⟩ := HJ7.out
          exact ⟨j, e, hj, hn, Kd.R_over hrow HEN.out.1 (by decide) hg, hsm⟩⟩; clear ho hb hg hat))
        obtain ⟨A8, c8, rfl⟩ := Kd.R_slice H3.out
        go_roundg m
        case measure => omega
        case rel => exact ⟨x + 1, A7, n7, c7, A8, _, c8, rfl, rfl, rfl, HJ8, ⟨n6 + 1, by have := HEN.out.2.2; omega, by rw [List.length_append, HEN.out.2.1, endsL_length]; rfl, by
          have h := H3.out
          rw [HEN.out.2.1, HN7.out, ← endsL_succ] at h
          rw [HEN.out.2.1, HN7.out, ← endsL_succ]
          exact h⟩, HB8⟩
    | zero =>
      have c0b : decide (x < (l.length : Int)) = false := decide_eq_false (by obtain ⟨j, e, hj, _⟩ := HJ.out; omega)
      obtain ⟨e5, hrow, hsm⟩ := HJ.out.all
      have HRow := Aside0.mk hrow
      have HSm := Aside0.mk hsm
      have HEn : Aside0 (n6 = l.length ∧ RI wr w.heap.size (.slice A6 n6 c6) (endsL l l.length)) := ⟨by
        obtain ⟨j, e, hn, hr2⟩ := HE.out
        obtain ⟨j2, e2, hj2, _⟩ := HJ.out
        have : j = l.length := by omega
        subst this
        exact ⟨hn, hr2⟩⟩
      have HN5 : Aside0 (n5 = totS l ∧ totS l ≤ 8388608 ∧ (catF l).length = n5) := ⟨e5, HTl.out, by rw [catF_length, e5]⟩
      clear HJ HE hrow hsm e5
      obtain ⟨rfl, _⟩ : n6 = l.length ∧ True := ⟨HEn.out.1, trivial⟩
      rw [HN5.out.2.2] at HRow
      have e1 : IntKind.i64.wrap ((n5 : Int) + 1) = (n5 : Int) + 1 := by rw [i64_w]; unfold wrap64; have := HN5.out; omega
      obtain ⟨k0, ek0⟩ : ∃ k0, a2.tmod ((n5 : Int) + 1) = k0 := ⟨_, rfl⟩
      have d3 : ((n5 : Int) + 1 = 0) = False := by apply eq_false; omega
      have HK0 : Aside0 (-(n5 : Int) ≤ k0 ∧ k0 ≤ n5) := ⟨by
        have h1 := Int.tmod_lt_of_pos a2 (show (0 : Int) < (n5 : Int) + 1 by omega)
        have h2 := Int.tmod_lt_of_pos (-a2) (show (0 : Int) < (n5 : Int) + 1 by omega)
        rw [Int.neg_tmod] at h2
        omega⟩
      go_upto_region 12 with (fail)
      clear ek0 d3
      go_upto_if 52 with (fail)
      go_cut [10] from 52 to 57 (fun v10 wc => ∃ kk : Int, v10 = .int .i64 kk ∧ Aside0 (0 ≤ kk ∧ kk ≤ (n5 : Int)) ∧ Aside0 (Below wr.heap.size wr wc))
      case first =>
        by_cases q : k0 < 0
        · have HQ := Aside0.mk q
          have es : IntKind.i64.wrap (k0 + n5) = k0 + n5 := by rw [i64_w]; unfold wrap64; have := HK0.out; have := HN5.out; omega
          have es2 : IntKind.i64.wrap (k0 + n5 + 1) = k0 + n5 + 1 := by rw [i64_w]; unfold wrap64; have := HK0.out; have := HN5.out; omega
          go_wp2
          go_meet
          case rel => exact ⟨k0 + n5 + 1, rfl, ⟨by have := HQ.out; have := HK0.out; omega⟩, ⟨Below.refl _ _⟩⟩
        · have HQ := Aside0.mk q
          go_wp2
          go_meet
          case rel => exact ⟨k0, rfl, ⟨by have := HQ.out; have := HK0.out; omega⟩, ⟨Below.refl _ _⟩⟩
      case rest =>
        obtain ⟨kk, rfl, HK, HBc⟩ := hcut
        clear HK0
        go_wp2
        go_loopg [11] l.length (fun kq v11 wz => ∃ y : Int, v11 = .int .i64 y ∧ Aside0 (∃ j : Nat, y = (j : Int) ∧ j + kq = l.length ∧ ((totS (l.take j) : Nat) : Int) ≤ kk) ∧ Aside0 (Below w.heap.size w wz) ∧ Aside0 (RI wz w.heap.size (.slice A6 l.length c6) (endsL l l.length)) ∧ Aside0 (RB wz w.heap.size (.slice A5 n5 c5) (catF l)))
        case atStart => exact ⟨0, rfl, ⟨0, rfl, by omega, by have := HK.out.1; simpa [totS] using this⟩, ⟨below_step HB.out HBc.out⟩, ⟨Kd.R_below HEn.out.2 HBc.out⟩, ⟨RB.below HRow.out HBc.out⟩⟩
        case round =>
          clear HB HEn HRow HBc
          obtain ⟨y, rfl, HY, HB, HEn, HRow⟩ := hrel
          have done : ∀ j : Nat, y = (j : Int) → j ≤ l.length → ((totS (l.take j) : Nat) : Int) ≤ kk → (j = l.length ∨ kk < ((totS (l.take (j + 1)) : Nat) : Int)) → scanS ((catF l).take kk.toNat) = l.take j := fun j e h1 h2 h3 => cut_scan HSm.out h1 (by have := HK.out; omega) (by have := HK.out; omega)
          cases gk with
          | zero =>
            have d0 : decide (y < (l.length : Int)) = false := decide_eq_false (by obtain ⟨j, e, hj, _⟩ := HY.out; omega)
            have HFin : Aside0 (∃ j : Nat, y = (j : Int) ∧ j ≤ l.length ∧ scanS ((catF l).take kk.toNat) = l.take j) := ⟨by
              obtain ⟨j, e, hj, hle⟩ := HY.out
              exact ⟨j, e, by omega, done j e (by omega) hle (.inl (by omega))⟩⟩
            clear HY done
            obtain ⟨jj, hyj, hjl, hsc⟩ := HFin.out
            have HYj := Aside0.mk hyj
            have HJl : Aside0 (jj ≤ l.length ∧ (l.take jj).length = jj) := ⟨hjl, by rw [List.length_take]; omega⟩
            obtain ⟨tj, etj⟩ : ∃ tj, totS (l.take jj) = tj := ⟨_, rfl⟩
            have HTj : Aside0 (totS (l.take jj) = tj) := ⟨etj⟩
            obtain ⟨i5, hi5, _, hsz5, _⟩ := info_parts info5
            obtain ⟨hcut5, hA5, hC5⟩ := print_take_of (P := Try.prog) (Value.int .u8) 0 22 5 .i64 Try.underlying22 hi5 hsz5 A5 c5 (catF l) kk HK.out.1 (by rw [HN5.out.2.2]; exact HK.out.2) (by rw [HN5.out.2.2]; exact (Kd.R_reads' HRow.out).2.1)
            have hkl : ((catF l).take kk.toNat).length = kk.toNat := by rw [List.length_take, HN5.out.2.2]; have := HK.out; omega
            have HScan : Aside0 (Calls Try.prog 14 #[.slice A5 kk.toNat c5] wr fun e w' => ∃ (A : Option Addr) (c : Nat), e = .returned (.tuple #[.slice A jj c, .int .i64 (tj : Int)]) ∧ Kd.string.R 9 w' wr.heap.size (fun _ => True) (.slice A jj c) (l.take jj) ∧ Below wr.heap.size wr w') := ⟨by
              have h := Scan.plain A5 c5 ((catF l).take kk.toNat) wr (Kd.C_of_reads (enc := Value.int .u8) (h1 := fun _ => rfl) (hA5 _ (Kd.reads_of_C (Kd.R_reads' HRow.out).2.2))) ((catF_bts l).take _) (by rw [hkl]; have := HK.out; have := HN5.out; omega)
              rw [hkl, hsc, HJl.out.2, etj] at h
              exact h⟩
            rw [HN5.out.2.2, hkl] at hcut5
            have hk5 : (kk.toNat ≤ c5) = True := eq_true (by have := (Kd.R_reads' HRow.out).2.1; have := HK.out; have := HN5.out; omega)
            obtain ⟨i9, hi9, _, hsz9, _⟩ := info_parts info9
            obtain ⟨hcut9, hA9, hC9⟩ := print_take_of (P := Try.prog) Value.string ByteArray.empty 30 9 .i64 Try.underlying30 hi9 hsz9 A0 c0 l y (by omega) (by omega) HC.out
            rw [show y.toNat = jj by omega] at hcut9 hA9 hC9
            have HA9 : Aside0 (∀ W, Below w.heap.size w W → Kd.C Kd.string W A0 (l.take jj).length (l.take jj)) := ⟨fun W hb => Kd.C_of_reads (enc := Value.string) (h1 := fun _ => rfl) (hA9 _ (Kd.reads_of_C (Kd.C_below HR.out hb)))⟩
            have HC9 : Aside0 (jj ≤ c0) := ⟨Nat.le_trans hjl HC.out⟩
            rw [HJl.out.2] at hcut9
            clear hi5 hsz5 hA5 hC5 hkl hi9 hsz9 hA9 hC9 hjl hsc etj hyj
            go_wp2_with fail
            refine HScan.out.mono ?_
            rintro e w3 ⟨A7, c7, rfl, h7, hb⟩
            have H7 := Aside0.mk h7
            have HE3 := Aside0.mk (Kd.R_below HEn.out hb)
            have HB3 : Aside0 (Below w.heap.size w w3) := ⟨below_step HB.out hb⟩
            clear h7 hb HScan hcut5 HRow
            go_wp2_with fail
            refine (lives.at _).mono ?_
            rintro e w4 ⟨rfl, hb⟩
            have H8 : Aside0 (Kd.string.R 9 w4 wr.heap.size (fun _ => True) (.slice A7 jj c7) (l.take jj)) := ⟨Kd.R_below H7.out hb⟩
            have HE4 := Aside0.mk (Kd.R_below HE3.out hb)
            have HB4 : Aside0 (Below w.heap.size w w4) := ⟨below_step HB3.out hb⟩
            have HSame : Aside0 (Calls Try.prog 16 #[.slice A7 jj c7, .slice A0 jj c0] w4 fun e w' => e = .returned (.bool true) ∧ Below w4.heap.size w4 w') := ⟨by
              have hm := (Kd.R_reads' H8.out).2
              have h := same_at A7 c7 A0 c0 (l.take jj) w4 hm.2 (by rw [HJl.out.2]; exact hm.1) (HA9.out _ HB4.out) (by rw [HJl.out.2]; exact HC9.out) (by rw [HJl.out.2]; have := HJl.out; have := HLl.out; omega)
              rw [HJl.out.2] at h
              exact h⟩
            clear hb H7 HE3 HB3 HA9
            go_wp2_with fail
            refine HSame.out.mono ?_
            rintro e w5 ⟨rfl, hb⟩
            have HB5 : Aside0 (Below w.heap.size w w5) := ⟨below_step HB4.out hb⟩
            by_cases z : y = 0
            · subst z
              have : tj = 0 := by rw [← HTj.out, show jj = 0 by have := HYj.out; omega]; rfl
              subst this
              clear hb HSame
              go_wp2
              go_ret
              exact ⟨rfl, HB5.out⟩
            · have hre := (Kd.R_reads' (Kd.R_below HE4.out hb)).2.2
              rw [endsL_length] at hre
              have hyj := HYj.out
              have hy0 : 0 ≤ y := by omega
              have c1 : 0 ≤ y - 1 := by omega
              have c2 : y - 1 < (l.length : Int) := by have := HJl.out; omega
              obtain ⟨adE, eE, hxE⟩ := Kd.at_int hre (y - 1) c1 c2
              cases eE
              have hev : rd (endsL l l.length) (y - 1) = (tj : Int) := by
                have := rd_endsL (l := l) (j := l.length) (i := jj - 1) (by have := HJl.out; omega)
                rw [show jj - 1 + 1 = jj by omega, HTj.out] at this
                rw [show y - 1 = ((jj - 1 : Nat) : Int) by omega]
                exact this
              rw [hev, show (y - 1).toNat = y.toNat - 1 by omega] at hxE
              have c3 : (1 ≤ y) = True := eq_true (by omega)
              have c4 : (y < (l.length : Int) + 1) = True := eq_true (by omega)
              have c5 : (y ≤ (l.length : Int)) = True := eq_true (by omega)
              have z1 : (y == 0) = false := by rw [beq_eq_false_iff_ne]; omega
              have z2 : decide (0 < y) = true := decide_eq_true (by omega)
              have z3 : (0 < y) = True := eq_true (by omega)
              have es : IntKind.i64.wrap (y - 1) = y - 1 := by rw [i64_w]; unfold wrap64; have := HJl.out; have := HLl.out; omega
              clear hre hev hb HSame z hyj hy0
              replace c1 := eq_true c1
              replace c2 := eq_true c2
              go_wp2
              go_ret
              exact ⟨rfl, HB5.out⟩
          | succ m2 =>
            have d0 : decide (y < (l.length : Int)) = true := decide_eq_true (by obtain ⟨j, e, hj, _⟩ := HY.out; omega)
            have c1 : 0 ≤ y := by obtain ⟨j, e, hj, _⟩ := HY.out; omega
            have c2 : y < (l.length : Int) := by obtain ⟨j, e, hj, _⟩ := HY.out; omega
            have hre := (Kd.R_reads' HEn.out).2.2
            rw [endsL_length] at hre
            obtain ⟨adE, eE, hxE⟩ := Kd.at_int hre y c1 c2
            cases eE
            obtain ⟨ev, eev⟩ : ∃ ev, rd (endsL l l.length) y = ev := ⟨_, rfl⟩
            have HEv : Aside0 (∀ j : Nat, y = (j : Int) → ev = ((totS (l.take (j + 1)) : Nat) : Int)) := ⟨fun j e => by rw [← eev, e]; exact rd_endsL (by omega)⟩
            rw [eev] at hxE
            have hy1 : IntKind.i64.wrap (y + 1) = y + 1 := by rw [i64_w]; unfold wrap64; have := HLl.out; omega
            clear hre eev
            replace c1 := eq_true c1
            replace c2 := eq_true c2
            by_cases q : ev ≤ kk
            · have HQ := Aside0.mk q
              clear done
              go_wp2
              go_roundg m2
              case measure => omega
              case rel => exact ⟨y + 1, rfl, ⟨by
                obtain ⟨j, e, hj, hle⟩ := HY.out
                exact ⟨j + 1, by omega, by omega, by rw [← HEv.out j e]; exact HQ.out⟩⟩, HB, HEn, HRow⟩
            · have HFin : Aside0 (∃ j : Nat, y = (j : Int) ∧ j ≤ l.length ∧ scanS ((catF l).take kk.toNat) = l.take j) := ⟨by
                obtain ⟨j, e, hj, hle⟩ := HY.out
                exact ⟨j, e, by omega, done j e (by omega) hle (.inr (by rw [← HEv.out j e]; omega))⟩⟩
              clear HY done
              obtain ⟨jj, hyj, hjl, hsc⟩ := HFin.out
              have HYj := Aside0.mk hyj
              have HJl : Aside0 (jj ≤ l.length ∧ (l.take jj).length = jj) := ⟨hjl, by rw [List.length_take]; omega⟩
              obtain ⟨tj, etj⟩ : ∃ tj, totS (l.take jj) = tj := ⟨_, rfl⟩
              have HTj : Aside0 (totS (l.take jj) = tj) := ⟨etj⟩
              obtain ⟨i5, hi5, _, hsz5, _⟩ := info_parts info5
              obtain ⟨hcut5, hA5, hC5⟩ := print_take_of (P := Try.prog) (Value.int .u8) 0 22 5 .i64 Try.underlying22 hi5 hsz5 A5 c5 (catF l) kk HK.out.1 (by rw [HN5.out.2.2]; exact HK.out.2) (by rw [HN5.out.2.2]; exact (Kd.R_reads' HRow.out).2.1)
              have hkl : ((catF l).take kk.toNat).length = kk.toNat := by rw [List.length_take, HN5.out.2.2]; have := HK.out; omega
              have HScan : Aside0 (Calls Try.prog 14 #[.slice A5 kk.toNat c5] wr fun e w' => ∃ (A : Option Addr) (c : Nat), e = .returned (.tuple #[.slice A jj c, .int .i64 (tj : Int)]) ∧ Kd.string.R 9 w' wr.heap.size (fun _ => True) (.slice A jj c) (l.take jj) ∧ Below wr.heap.size wr w') := ⟨by
                have h := Scan.plain A5 c5 ((catF l).take kk.toNat) wr (Kd.C_of_reads (enc := Value.int .u8) (h1 := fun _ => rfl) (hA5 _ (Kd.reads_of_C (Kd.R_reads' HRow.out).2.2))) ((catF_bts l).take _) (by rw [hkl]; have := HK.out; have := HN5.out; omega)
                rw [hkl, hsc, HJl.out.2, etj] at h
                exact h⟩
              rw [HN5.out.2.2, hkl] at hcut5
              have hk5 : (kk.toNat ≤ c5) = True := eq_true (by have := (Kd.R_reads' HRow.out).2.1; have := HK.out; have := HN5.out; omega)
              obtain ⟨i9, hi9, _, hsz9, _⟩ := info_parts info9
              obtain ⟨hcut9, hA9, hC9⟩ := print_take_of (P := Try.prog) Value.string ByteArray.empty 30 9 .i64 Try.underlying30 hi9 hsz9 A0 c0 l y (by omega) (by omega) HC.out
              rw [show y.toNat = jj by omega] at hcut9 hA9 hC9
              have HA9 : Aside0 (∀ W, Below w.heap.size w W → Kd.C Kd.string W A0 (l.take jj).length (l.take jj)) := ⟨fun W hb => Kd.C_of_reads (enc := Value.string) (h1 := fun _ => rfl) (hA9 _ (Kd.reads_of_C (Kd.C_below HR.out hb)))⟩
              have HC9 : Aside0 (jj ≤ c0) := ⟨Nat.le_trans hjl HC.out⟩
              rw [HJl.out.2] at hcut9
              clear hi5 hsz5 hA5 hC5 hkl hi9 hsz9 hA9 hC9 hjl hsc etj hyj
              go_wp2_with fail
              refine HScan.out.mono ?_
              rintro e w3 ⟨A7, c7, rfl, h7, hb⟩
              have H7 := Aside0.mk h7
              have HE3 := Aside0.mk (Kd.R_below HEn.out hb)
              have HB3 : Aside0 (Below w.heap.size w w3) := ⟨below_step HB.out hb⟩
              clear h7 hb HScan hcut5 HRow
              go_wp2_with fail
              refine (lives.at _).mono ?_
              rintro e w4 ⟨rfl, hb⟩
              have H8 : Aside0 (Kd.string.R 9 w4 wr.heap.size (fun _ => True) (.slice A7 jj c7) (l.take jj)) := ⟨Kd.R_below H7.out hb⟩
              have HE4 := Aside0.mk (Kd.R_below HE3.out hb)
              have HB4 : Aside0 (Below w.heap.size w w4) := ⟨below_step HB3.out hb⟩
              have HSame : Aside0 (Calls Try.prog 16 #[.slice A7 jj c7, .slice A0 jj c0] w4 fun e w' => e = .returned (.bool true) ∧ Below w4.heap.size w4 w') := ⟨by
                have hm := (Kd.R_reads' H8.out).2
                have h := same_at A7 c7 A0 c0 (l.take jj) w4 hm.2 (by rw [HJl.out.2]; exact hm.1) (HA9.out _ HB4.out) (by rw [HJl.out.2]; exact HC9.out) (by rw [HJl.out.2]; have := HJl.out; have := HLl.out; omega)
                rw [HJl.out.2] at h
                exact h⟩
              clear hb H7 HE3 HB3 HA9
              go_wp2_with fail
              refine HSame.out.mono ?_
              rintro e w5 ⟨rfl, hb⟩
              have HB5 : Aside0 (Below w.heap.size w w5) := ⟨below_step HB4.out hb⟩
              by_cases z : y = 0
              · subst z
                have : tj = 0 := by rw [← HTj.out, show jj = 0 by have := HYj.out; omega]; rfl
                subst this
                clear hb HSame
                go_wp2
                go_ret
                exact ⟨rfl, HB5.out⟩
              · have hre := (Kd.R_reads' (Kd.R_below HE4.out hb)).2.2
                rw [endsL_length] at hre
                have hyj := HYj.out
                have hy0 : 0 ≤ y := by omega
                have c1 : 0 ≤ y - 1 := by omega
                have c2 : y - 1 < (l.length : Int) := by have := HJl.out; omega
                obtain ⟨adE, eE, hxE⟩ := Kd.at_int hre (y - 1) c1 c2
                cases eE
                have hev : rd (endsL l l.length) (y - 1) = (tj : Int) := by
                  have := rd_endsL (l := l) (j := l.length) (i := jj - 1) (by have := HJl.out; omega)
                  rw [show jj - 1 + 1 = jj by omega, HTj.out] at this
                  rw [show y - 1 = ((jj - 1 : Nat) : Int) by omega]
                  exact this
                rw [hev, show (y - 1).toNat = y.toNat - 1 by omega] at hxE
                have c3 : (1 ≤ y) = True := eq_true (by omega)
                have c4 : (y < (l.length : Int) + 1) = True := eq_true (by omega)
                have c5 : (y ≤ (l.length : Int)) = True := eq_true (by omega)
                have z1 : (y == 0) = false := by rw [beq_eq_false_iff_ne]; omega
                have z2 : decide (0 < y) = true := decide_eq_true (by omega)
                have z3 : (0 < y) = True := eq_true (by omega)
                have es : IntKind.i64.wrap (y - 1) = y - 1 := by rw [i64_w]; unfold wrap64; have := HJl.out; have := HLl.out; omega
                clear hre hev hb HSame z hyj hy0
                replace c1 := eq_true c1
                replace c2 := eq_true c2
                go_wp2
                go_ret
                exact ⟨rfl, HB5.out⟩
theorem wf_range {x : Int} (h : (Lit.int .i64 x).wf = true) : -9223372036854775808 ≤ x ∧ x ≤ 9223372036854775807 := by
  simp only [Lit.wf, IntKind.min, IntKind.max, IntKind.signed, IntKind.bits, Bool.and_eq_true, decide_eq_true_eq, if_true] at h
  omega
theorem pannierlaw02_FrameCuts.walked (w : World) (A0 : Option Addr) (c0 : Nat) (l : List ByteArray) (hr : Kd.C Kd.string w A0 l.length l) (hc : l.length ≤ c0) (hs : ∀ s ∈ l, s.size ≤ maxLen) (hl : sizesS l ≤ 1048576) (a2 : Int) (ha : (Lit.int .i64 a2).wf = true) :
    Calls Try.prog 5 #[.slice A0 l.length c0, .int .i64 a2] w fun e w' => e = .returned (.bool true) ∧ Below w.heap.size w w' := FrameCuts.at A0 c0 l a2 w hr hc hl (wf_range ha)
end Go.Proofs.Ytlmpdlmamopbeaa.P
