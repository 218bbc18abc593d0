/- FrameTurned: one bit of a frame that is turned, behind its first four bytes, ends the frames ahead of it. -/
import Derived.Test.YtlmpdlmamopbeaaFn
namespace Go.Proofs.Ytlmpdlmamopbeaa.P
open Go.RowKit Go.Proofs.YtlmpdlmamopbeaaW.PrintWords Go.Proofs.YtlmpdlmamopbeaaW.PrintLast Go.Proofs.YtlmpdlmamopbeaaW.PrintMore
set_option linter.unusedVariables false
set_option linter.unusedSimpArgs false
/-- Where the frames begin. -/
def begL (l : List ByteArray) (j : Nat) : List Int := (List.range j).map fun i => ((totS (l.take i) : Nat) : Int)
theorem begL_length (l : List ByteArray) (j : Nat) : (begL l j).length = j := by simp [begL]
theorem begL_succ (l : List ByteArray) (j : Nat) : begL l (j + 1) = begL l j ++ [((totS (l.take j) : Nat) : Int)] := by simp [begL, List.range_succ]
theorem rd_begL {l : List ByteArray} {j i : Nat} (h : i < j) : rd (begL l j) (i : Int) = ((totS (l.take i) : Nat) : Int) := by
  unfold rd
  rw [Int.toNat_natCast, List.getD_eq_getElem?_getD, List.getElem?_eq_getElem (by rw [begL_length]; exact h)]
  simp [begL]
set_option maxHeartbeats 4000000 in
set_option maxRecDepth 100000 in
theorem FrameTurned.at (A0 : Option Addr) (c0 : Nat) (l : List ByteArray) (a2 a3 : Int) (w : World) (hr : Kd.C Kd.string w A0 l.length l) (hc : l.length ≤ c0) (hl : sizesS l ≤ 1048576) (ha : -9223372036854775808 ≤ a2 ∧ a2 ≤ 9223372036854775807) (ha3 : -9223372036854775808 ≤ a3 ∧ a3 ≤ 9223372036854775807) :
    Calls Try.prog 6 #[.slice A0 l.length c0, .int .i64 a2, .int .i64 a3] w fun e w' => e = .returned (.bool true) ∧ Below w.heap.size w w' := by
  have HR := Aside0.mk hr
  have HC := Aside0.mk hc
  have HL := Aside0.mk hl
  have HA := Aside0.mk ha
  have HLl : Aside0 (l.length ≤ 1048576) := ⟨Nat.le_trans (len_sizes l) hl⟩
  have HTl : Aside0 (totS l ≤ 8388608) := ⟨by have := tot_sizes l; omega⟩
  have HA3 := Aside0.mk ha3
  clear hr hc hl ha ha3
  have HB := Aside0.mk (Below.refl w.heap.size w)
  go_enter Try.func6, Try.ntmps6
  go_wp2
  go_loopg [7, 8, 9] l.length (fun kq v7 v8 v9 wc => ∃ (x : Int) (A5 : Option Addr) (n5 c5 : Nat) (A6 : Option Addr) (n6 c6 : Nat), v7 = .slice A5 n5 c5 ∧ v8 = .slice A6 n6 c6 ∧ v9 = .int .i64 x ∧ Aside0 (PutI l w.heap.size x kq A5 n5 c5 wc) ∧ Aside0 (∃ j : Nat, x = (j : Int) ∧ n6 = j ∧ RI wc w.heap.size (.slice A6 n6 c6) (begL l j)) ∧ Aside0 (Below w.heap.size w wc))
  case atStart => exact ⟨0, none, 0, 0, none, 0, 0, rfl, rfl, rfl, ⟨0, rfl, by omega, rfl, Kd.R_nil _ _ _ _ _, fun s h => absurd h (by simp)⟩, ⟨0, rfl, rfl, Kd.R_nil _ _ _ _ _⟩, HB⟩
  case round =>
    clear HB
    obtain ⟨x, A5, n5, c5, A6, n6, c6, rfl, rfl, rfl, HJ, HE, HB⟩ := hrel
    cases gk with
    | succ m =>
      have c0b : decide (x < (l.length : Int)) = true := decide_eq_true (by obtain ⟨j, e, hj, _⟩ := HJ.out; omega)
      have hx1 : IntKind.i64.wrap (x + 1) = x + 1 := by rw [i64_w]; unfold wrap64; obtain ⟨j, e, hj, _⟩ := HJ.out; have := HLl.out; omega
      have c1 : 0 ≤ x := by obtain ⟨j, e, hj, _⟩ := HJ.out; omega
      have c2 : x < (l.length : Int) := by obtain ⟨j, e, hj, _⟩ := HJ.out; omega
      have HX : Aside0 (x < (l.length : Int)) := ⟨c2⟩
      obtain ⟨ad, e129, hx129⟩ := Kd.at_string (Kd.C_below HR.out HB.out) x c1 c2
      cases e129
      replace c1 := eq_true c1
      replace c2 := eq_true c2
      by_cases q : 65536 < (rdOf ByteArray.empty l x).size
      · have HQ := Aside0.mk q
        have k1 : decide ((65536 : Int) < ((rdOf ByteArray.empty l x).size : Int)) = true := decide_eq_true (by omega)
        clear q
        go_wp2_with fail
        refine (Put.long A5 c5 n5 _ HQ.out wr).mono ?_
        rintro e w2 ⟨rfl, hb⟩
        have HB2 : Aside0 (Below w.heap.size w w2) := ⟨below_step HB.out hb⟩
        have hx2 := pw_cell_below hb hx129
        clear hb hx129
        go_wp2_with fail
        refine (lives.at _).mono ?_
        rintro e w3 ⟨rfl, hb⟩
        have HB3 : Aside0 (Below w.heap.size w w3) := ⟨below_step HB2.out hb⟩
        have hx3 := pw_cell_below hb hx2
        clear hb hx2
        go_wp2
        go_ret
        exact ⟨rfl, HB3.out⟩
      · have HQ : Aside0 ((rdOf ByteArray.empty l x).size ≤ 65536) := ⟨by omega⟩
        clear q
        go_wp2_with fail
        refine (HJ.out.put HB.out.size HQ.out HL.out).mono ?_
        rintro e w2 ⟨A7, n7, c7, rfl, hj, hb⟩
        have HJ7 := Aside0.mk hj
        have HE7 : Aside0 (∃ j : Nat, x = (j : Int) ∧ n6 = j ∧ RI w2 w.heap.size (.slice A6 n6 c6) (begL l j)) := ⟨by
          obtain ⟨j, e, hn, hrow⟩ := HE.out
          exact ⟨j, e, hn, Kd.R_below hrow hb⟩⟩
        have HB7 : Aside0 (Below w.heap.size w w2) := ⟨below_step HB.out hb⟩
        obtain ⟨EN, HEN⟩ : ∃ EN, Aside0 (RI w2 w.heap.size (.slice A6 n6 c6) EN ∧ EN = begL l n6 ∧ x = (n6 : Int)) := by
          obtain ⟨j, e, hn, hrow⟩ := HE7.out
          subst hn
          exact ⟨_, ⟨hrow, rfl, e⟩⟩
        have HN7 : Aside0 ((n5 : Int) = ((totS (l.take n6) : Nat) : Int)) := ⟨by
          obtain ⟨j, e, hj2, hn, _⟩ := HJ.out
          have := HEN.out.2.2
          rw [hn, show j = n6 by omega]⟩
        clear hj hb HE7
        go_wp2_with (((with_reducible refine gate_builtin (b := .append) (xs := #[.tmp 44, .tmp 47]) rfl ?_); at_builtin; refine Kd.R_append (Kd.int .i64) (w0 := w) w.heap.size rfl (.tmp 44) (.tmp 47) 38 3 (.int .i64 0) 8 rfl Try.underlying38 info3i rfl (by decide) (by decide) (.slice A6 n6 c6) EN (n5 : Int) [.int .i64 (n5 : Int)] (fun _ => True) (fun _ => False) rfl rfl rfl (fun _ h => h.elim) (fun _ _ => trivial) HEN.out.1 HB7.out HB7.out.size ?hl ?_; (case hl => rw [HEN.out.2.1, begL_length]; have := HLl.out; have := HEN.out.2.2; have := HX.out; omega); intro v3 w3 ho hb hg hat; have H3 := Aside0.mk ho; have HB8 := Aside0.mk hb; have HJ8 : Aside0 (PutI l w.heap.size (x + 1) m A7 n7 c7 w3) := ⟨by
          obtain ⟨j, e, hj, hn, hrow, hsm⟩ := HJ7.out
          exact ⟨j, e, hj, hn, Kd.R_over hrow HEN.out.1 (by decide) hg, hsm⟩⟩; clear ho hb hg hat))
        obtain ⟨A8, c8, rfl⟩ := Kd.R_slice H3.out
        go_roundg m
        case measure => omega
        case rel => exact ⟨x + 1, A7, n7, c7, A8, _, c8, rfl, rfl, rfl, HJ8, ⟨n6 + 1, by have := HEN.out.2.2; omega, by rw [List.length_append, HEN.out.2.1, begL_length]; rfl, by
          have h := H3.out
          rw [HEN.out.2.1, HN7.out, ← begL_succ] at h
          rw [HEN.out.2.1, HN7.out, ← begL_succ]
          exact h⟩, HB8⟩
    | zero =>
      have c0b : decide (x < (l.length : Int)) = false := decide_eq_false (by obtain ⟨j, e, hj, _⟩ := HJ.out; omega)
      obtain ⟨e5, hrow, hsm⟩ := HJ.out.all
      have HRow := Aside0.mk hrow
      have HSm := Aside0.mk hsm
      have HEn : Aside0 (n6 = l.length ∧ RI wr w.heap.size (.slice A6 n6 c6) (begL l l.length)) := ⟨by
        obtain ⟨j, e, hn, hr2⟩ := HE.out
        obtain ⟨j2, e2, hj2, _⟩ := HJ.out
        have : j = l.length := by omega
        subst this
        exact ⟨hn, hr2⟩⟩
      have HN5 : Aside0 (n5 = totS l ∧ totS l ≤ 8388608 ∧ (catF l).length = n5) := ⟨e5, HTl.out, by rw [catF_length, e5]⟩
      clear HJ HE hrow hsm e5
      obtain ⟨rfl, _⟩ : n6 = l.length ∧ True := ⟨HEn.out.1, trivial⟩
      rw [HN5.out.2.2] at HRow
      by_cases z : (l.length : Int) = 0
      · have z1 : ((l.length : Int) == 0) = true := by rw [z]; rfl
        clear z
        go_wp2_with fail
        refine (lives.at _).mono ?_
        rintro e w3 ⟨rfl, hb⟩
        have HB3 : Aside0 (Below w.heap.size w w3) := ⟨below_step HB.out hb⟩
        clear hb
        go_wp2
        go_ret
        exact ⟨rfl, HB3.out⟩
      have z1 : ((l.length : Int) == 0) = false := by rw [beq_eq_false_iff_ne]; exact z
      obtain ⟨k0, ek0⟩ : ∃ k0, a2.tmod (l.length : Int) = k0 := ⟨_, rfl⟩
      have HNz : Aside0 (0 < l.length) := ⟨by omega⟩
      have d3 : (l.length = 0) = False := by apply eq_false; have := HNz.out; omega
      have HK0 : Aside0 (-(l.length : Int) < k0 ∧ k0 < l.length) := ⟨by
        have := HNz.out
        have h1 := Int.tmod_lt_of_pos a2 (show (0 : Int) < (l.length : Int) by omega)
        have h2 := Int.tmod_lt_of_pos (-a2) (show (0 : Int) < (l.length : Int) by omega)
        rw [Int.neg_tmod] at h2
        omega⟩
      clear z
      go_upto_region 14 with (fail)
      clear ek0 d3
      go_upto_if 59 with (fail)
      go_cut [12] from 59 to 63 (fun v12 wc => ∃ kk : Int, v12 = .int .i64 kk ∧ Aside0 (0 ≤ kk ∧ kk < (l.length : Int)) ∧ Aside0 (Below wr.heap.size wr wc))
      case first =>
        by_cases q : k0 < 0
        · have HQ := Aside0.mk q
          have es : IntKind.i64.wrap (k0 + l.length) = k0 + l.length := by rw [i64_w]; unfold wrap64; have := HK0.out; have := HLl.out; omega
          go_wp2
          go_meet
          case rel => exact ⟨k0 + l.length, rfl, ⟨by have := HQ.out; have := HK0.out; omega⟩, ⟨Below.refl _ _⟩⟩
        · have HQ := Aside0.mk q
          go_wp2
          go_meet
          case rel => exact ⟨k0, rfl, ⟨by have := HQ.out; have := HK0.out; omega⟩, ⟨Below.refl _ _⟩⟩
      case rest =>
        obtain ⟨kk, rfl, HK, HBc⟩ := hcut
        clear HK0
        have c1 : 0 ≤ kk := HK.out.1
        have c2 : kk < (l.length : Int) := HK.out.2
        obtain ⟨ad, e129, hx129⟩ := Kd.at_string (Kd.C_below HR.out (below_step HB.out HBc.out)) kk c1 c2
        cases e129
        obtain ⟨s, es⟩ : ∃ s, rdOf ByteArray.empty l kk = s := ⟨_, rfl⟩
        have HS : Aside0 (∃ h : kk.toNat < l.length, l[kk.toNat] = s) := ⟨by omega, by
          have := rdS_get (l := l) (j := kk.toNat) (by omega)
          rw [Int.toNat_of_nonneg c1] at this
          rw [← this, es]⟩
        rw [es] at hx129
        have HSz : Aside0 (s.size ≤ 65536) := ⟨by obtain ⟨h, e⟩ := HS.out; rw [← e]; exact HSm.out _ (List.getElem_mem h)⟩
        have w1 : IntKind.i64.wrap (4 + (s.size : Int)) = 4 + (s.size : Int) := by rw [i64_w]; unfold wrap64; have := HSz.out; omega
        have w2 : IntKind.i64.wrap (8 * (4 + (s.size : Int))) = 8 * (4 + (s.size : Int)) := by rw [i64_w]; unfold wrap64; have := HSz.out; omega
        clear es
        replace c1 := eq_true c1
        replace c2 := eq_true c2
        obtain ⟨n0, en0⟩ : ∃ n0, a3.tmod (8 * (4 + (s.size : Int))) = n0 := ⟨_, rfl⟩
        have d3 : (8 * (4 + (s.size : Int)) = 0) = False := by apply eq_false; omega
        have d4 : (4 + (s.size : Int) = 0) = False := by apply eq_false; omega
        have HN0 : Aside0 (-(8 * (4 + (s.size : Int))) < n0 ∧ n0 < 8 * (4 + (s.size : Int))) := ⟨by
          have h1 := Int.tmod_lt_of_pos a3 (show (0 : Int) < 8 * (4 + (s.size : Int)) by omega)
          have h2 := Int.tmod_lt_of_pos (-a3) (show (0 : Int) < 8 * (4 + (s.size : Int)) by omega)
          rw [Int.neg_tmod] at h2
          omega⟩
        go_upto_region 18 with (fail)
        clear en0 d3 d4 w1 w2
        go_upto_if 75 with (fail)
        go_cut [14] from 75 to 78 (fun v14 wd => ∃ nn : Int, v14 = .int .i64 nn ∧ Aside0 (0 ≤ nn ∧ nn < 8 * (4 + (s.size : Int))) ∧ Aside0 (Below wc.heap.size wc wd))
        case first =>
          by_cases q : n0 < 0
          · have HQ := Aside0.mk q
            have es : IntKind.i64.wrap (n0 + 8 * (4 + (s.size : Int))) = n0 + 8 * (4 + (s.size : Int)) := by rw [i64_w]; unfold wrap64; have := HN0.out; have := HSz.out; omega
            go_wp2
            go_meet
            case rel => exact ⟨n0 + 8 * (4 + (s.size : Int)), rfl, ⟨by have := HQ.out; have := HN0.out; omega⟩, ⟨Below.refl _ _⟩⟩
          · have HQ := Aside0.mk q
            go_wp2
            go_meet
            case rel => exact ⟨n0, rfl, ⟨by have := HQ.out; have := HN0.out; omega⟩, ⟨Below.refl _ _⟩⟩
        case rest =>
          obtain ⟨nn, rfl, HNN, HBd⟩ := hcut
          have HBr : Aside0 (Below wr.heap.size wr wc) := ⟨below_step HBc.out HBd.out⟩
          have HB2 : Aside0 (Below w.heap.size w wc) := ⟨below_step HB.out HBr.out⟩
          have HEn2 : Aside0 (RI wc w.heap.size (.slice A6 l.length c6) (begL l l.length)) := ⟨Kd.R_below HEn.out.2 HBr.out⟩
          have HRow2 : Aside0 (RB wc w.heap.size (.slice A5 n5 c5) (catF l)) := ⟨RB.below HRow.out HBr.out⟩
          clear HN0 HEn HRow HBc HBd HBr HB hx129
          have hre := (Kd.R_reads' HEn2.out).2.2
          rw [begL_length] at hre
          obtain ⟨adE, eE, hxE⟩ := Kd.at_int hre kk (of_eq_true c1) (of_eq_true c2)
          obtain rfl := eE
          obtain ⟨t, et⟩ : ∃ t, totS (l.take kk.toNat) = t := ⟨_, rfl⟩
          have hev : rd (begL l l.length) kk = (t : Int) := by
            have := rd_begL (l := l) (j := l.length) (i := kk.toNat) (by have := HK.out; omega)
            rw [Int.toNat_of_nonneg HK.out.1, et] at this
            exact this
          rw [hev] at hxE
          have HT : Aside0 (totS (l.take kk.toNat) = t ∧ t + 8 + s.size ≤ n5) := ⟨et, by
            obtain ⟨h, e⟩ := HS.out
            have h1 := totS_take_succ h
            have h2 := totS_take l (kk.toNat + 1)
            rw [e] at h1
            have := HN5.out.1
            omega⟩
          obtain ⟨qn, eq_⟩ : ∃ qn, Int.tdiv nn 8 = qn := ⟨_, rfl⟩
          obtain ⟨en, ee⟩ : ∃ en, Int.tmod nn 8 = en := ⟨_, rfl⟩
          have HQn : Aside0 (0 ≤ qn ∧ qn < 4 + (s.size : Int)) := ⟨by rw [← eq_, Int.tdiv_eq_ediv_of_nonneg HNN.out.1]; have := HNN.out; omega⟩
          have HEe : Aside0 (0 ≤ en ∧ en < 8) := ⟨by rw [← ee, Int.tmod_eq_emod_of_nonneg HNN.out.1]; omega⟩
          have w1 : IntKind.i64.wrap ((t : Int) + 4) = (t : Int) + 4 := by rw [i64_w]; unfold wrap64; have := HT.out; have := HN5.out; omega
          have w2 : IntKind.i64.wrap ((t : Int) + 4 + qn) = (t : Int) + 4 + qn := by rw [i64_w]; unfold wrap64; have := HT.out; have := HN5.out; have := HQn.out; omega
          have w3 : IntKind.i64.wrap qn = qn := by rw [i64_w]; unfold wrap64; have := HQn.out; have := HSz.out; omega
          clear hre hev et
          obtain ⟨pl, epl⟩ : ∃ pl, (t : Int) + 4 + qn = pl := ⟨_, rfl⟩
          have HPl : Aside0 (0 ≤ pl ∧ pl < (n5 : Int) ∧ pl.toNat = totS (l.take kk.toNat) + 4 + qn.toNat) := ⟨by have := HT.out; have := HQn.out; omega⟩
          have k5 : decide ((n5 : Int) ≤ pl) = false := decide_eq_false (by have := HPl.out; omega)
          obtain ⟨g, cap, egc, _, _, _⟩ := Kd.R_form HRow2.out (by rw [HN5.out.2.2]; have := HPl.out; omega)
          rw [HN5.out.2.2] at egc
          rw [egc]
          rw [egc] at HRow2
          obtain ⟨hcell, hfr⟩ := Kd.R_celln (0 : Int) HRow2.out pl HPl.out.1 HPl.out.2.1
          obtain ⟨bv0, ebv⟩ : ∃ bv0, rd (catF l) pl = bv0 := ⟨_, rfl⟩
          have hrd : rdOf (0 : Int) (catF l) pl = bv0 := ebv
          rw [hrd] at hcell
          have HBv : Aside0 (0 ≤ bv0 ∧ bv0 < 256 ∧ rd (catF l) pl = bv0) := ⟨by rw [← ebv]; have := rd_bts (catF_bts l) pl; exact ⟨this.1, this.2, rfl⟩⟩
          obtain ⟨pw, epw, hpw, hpne⟩ := turn_byte (x := bv0) (e := en) ⟨HBv.out.1, HBv.out.2.1⟩ HEe.out
          obtain ⟨bv, ebv2⟩ : ∃ bv, Go.bits .xor .u8 bv0 pw = bv := ⟨_, rfl⟩
          rw [ebv2] at hpw hpne
          have HBv2 : Aside0 ((0 ≤ bv ∧ bv < 256) ∧ bv ≠ bv0) := ⟨hpw, hpne⟩
          have i1 : (0 ≤ pl) = True := eq_true HPl.out.1
          have i2 : (pl < (n5 : Int)) = True := eq_true HPl.out.2.1
          have j1 : (0 ≤ en) = True := eq_true HEe.out.1
          have j2 : (en ≤ 8) = True := eq_true (by have := HEe.out; omega)
          have HPut := Aside0.mk (Kd.R_putg HRow2.out pl bv)
          clear ebv hrd hpw hpne
          rw [epl] at w2
          have HGb : Aside0 (w.heap.size ≤ g) := ⟨Kd.R_base HRow2.out g rfl⟩
          go_upto_region 23 with (fail)
          refine start_ (n := 12) (S := fun w' => w'.cell? ⟨g, pl.toNat, none⟩ = some (.int .u8 bv0)) (ds := [11]) #[false, false, false, false, false, false, false, false, false, false, false, false] (by kernel_rfl) rfl rfl (hcell) (fun hHeld => ?_)
          refine pure_ (i := 0) (N := some 91) (v := ?_) (a' := ?_) #[true, false, false, false, false, false, false, false, false, false, false, false] rfl rfl (by kernel_rfl) (fun _ _ _ h => h) (Or.inl ⟨by rfl, ?_⟩) ?_ ?_
          rotate_left
          · intro w'
            go_simp
            with_reducible rfl
          rotate_left
          · simp only [Act.put, List.setIfInBounds_toArray, List.set_cons_zero, List.set_cons_succ, i64_w, i32_w]
            rfl
          refine pure_ (i := 1) (N := some 92) (v := ?_) (a' := ?_) #[true, true, false, false, false, false, false, false, false, false, false, false] rfl rfl (by kernel_rfl) (fun _ _ _ h => h) (Or.inl ⟨by rfl, ?_⟩) ?_ ?_
          rotate_left
          · intro w'
            go_simp
            with_reducible rfl
          rotate_left
          · simp only [Act.put, List.setIfInBounds_toArray, List.set_cons_zero, List.set_cons_succ, i64_w, i32_w]
            rfl
          refine pure_ (i := 2) (N := some 93) (v := ?_) (a' := ?_) #[true, true, true, false, false, false, false, false, false, false, false, false] rfl rfl (by kernel_rfl) (fun _ _ _ h => h) (Or.inl ⟨by rfl, ?_⟩) ?_ ?_
          rotate_left
          · intro w'
            go_simp
            with_reducible rfl
          rotate_left
          · simp only [Act.put, List.setIfInBounds_toArray, List.set_cons_zero, List.set_cons_succ, i64_w, i32_w]
            rfl
          refine pure_ (i := 3) (N := some 94) (v := ?_) (a' := ?_) #[true, true, true, true, false, false, false, false, false, false, false, false] rfl rfl (by kernel_rfl) (fun _ _ _ h => h) (Or.inl ⟨by rfl, ?_⟩) ?_ ?_
          rotate_left
          · intro w'
            go_simp
            with_reducible rfl
          rotate_left
          · simp only [Act.put, List.setIfInBounds_toArray, List.set_cons_zero, List.set_cons_succ, i64_w, i32_w]
            rfl
          refine pure_ (i := 4) (N := some 95) (v := ?_) (a' := ?_) #[true, true, true, true, true, false, false, false, false, false, false, false] rfl rfl (by kernel_rfl) (fun _ _ _ h => h) (Or.inl ⟨by rfl, ?_⟩) ?_ ?_
          rotate_left
          · intro w'
            go_simp
            with_reducible rfl
          rotate_left
          · simp only [Act.put, List.setIfInBounds_toArray, List.set_cons_zero, List.set_cons_succ, i64_w, i32_w]
            rfl
          refine pure_ (i := 6) (N := some 97) (v := ?_) (a' := ?_) #[true, true, true, true, true, false, true, false, false, false, false, false] rfl rfl (by kernel_rfl) (fun _ _ _ h => h) (Or.inl ⟨by rfl, ?_⟩) ?_ ?_
          rotate_left
          · intro w'
            go_simp
            with_reducible rfl
          rotate_left
          · simp only [Act.put, List.setIfInBounds_toArray, List.set_cons_zero, List.set_cons_succ, i64_w, i32_w]
            rfl
          refine pure_ (i := 7) (N := some 98) (v := ?_) (a' := ?_) #[true, true, true, true, true, false, true, true, false, false, false, false] rfl rfl (by kernel_rfl) (fun _ _ _ h => h) (Or.inl ⟨by rfl, ?_⟩) ?_ ?_
          rotate_left
          · intro w'
            go_simp
            with_reducible rfl
          rotate_left
          · simp only [Act.put, List.setIfInBounds_toArray, List.set_cons_zero, List.set_cons_succ, i64_w, i32_w]
            rfl
          refine pure_ (i := 8) (N := some 99) (v := ?_) (a' := ?_) #[true, true, true, true, true, false, true, true, true, false, false, false] rfl rfl (by kernel_rfl) (fun _ _ _ h => h) (Or.inl ⟨by rfl, ?_⟩) ?_ ?_
          rotate_left
          · intro w'
            go_simp
            with_reducible rfl
          rotate_left
          · simp only [Act.put, List.setIfInBounds_toArray, List.set_cons_zero, List.set_cons_succ, i64_w, i32_w]
            rfl
          refine take_ (i := 5) (N := some 96) (v := ?_) (a' := ?_) #[true, true, true, true, true, true, true, true, true, false, false, false] rfl rfl (by kernel_rfl) (fun _ _ _ h => h) (Or.inl ⟨by rfl, ?_⟩) hHeld ?_ ?_
          rotate_left
          · intro w' s0
            go_simp
            with_reducible rfl
          rotate_left
          · simp only [Act.put, List.setIfInBounds_toArray, List.set_cons_zero, List.set_cons_succ, i64_w, i32_w]
            rfl
          refine pure_ (i := 9) (N := some 100) (v := ?_) (a' := ?_) #[true, true, true, true, true, true, true, true, true, true, false, false] rfl rfl (by kernel_rfl) (fun _ _ _ h => h) (Or.inl ⟨by rfl, ?_⟩) ?_ ?_
          rotate_left
          · intro w'
            go_simp
            with_reducible rfl
          rotate_left
          · simp only [Act.put, List.setIfInBounds_toArray, List.set_cons_zero, List.set_cons_succ, i64_w, i32_w]
            rfl
          refine pure_ (i := 10) (N := some 101) (v := ?_) (a' := ?_) #[true, true, true, true, true, true, true, true, true, true, true, false] rfl rfl (by kernel_rfl) (fun _ _ _ h => h) (Or.inl ⟨by rfl, ?_⟩) ?_ ?_
          rotate_left
          · intro w'
            go_simp
            with_reducible rfl
          rotate_left
          · simp only [Act.put, List.setIfInBounds_toArray, List.set_cons_zero, List.set_cons_succ, i64_w, i32_w]
            rfl
          refine last_ (i := 11) (N := none) #[true, true, true, true, true, true, true, true, true, true, true, true] rfl rfl (by kernel_rfl) (by decide) (fun K hK => ?_)
          refine skip_ (w1 := ?_) (by rfl) rfl ?_ ?_
          rotate_left
          · go_simp
            rfl
          refine hK.out _ _ ?_
          clear hK K
          refine done_ (by kernel_rfl) ?_
          clear hHeld
          obtain ⟨wz, ewz⟩ : ∃ wz, (wc.setCell ⟨g, pl.toNat, none⟩ (.int .u8 bv)).drew = wz := ⟨_, rfl⟩
          have HRow3 : Aside0 (RB wz w.heap.size (.slice (some ⟨g, 0, none⟩) n5 c5) ((catF l).set pl.toNat bv)) := ⟨by rw [← ewz]; exact Kd.R_drew HPut.out.1⟩
          have HEn3 : Aside0 (RI wz w.heap.size (.slice (some adE) l.length c6) (begL l l.length)) := ⟨by rw [← ewz]; exact Kd.R_drew (Kd.R_over HEn2.out HRow2.out (by decide) HPut.out.2)⟩
          have HB3 : Aside0 (Below w.heap.size w wz) := ⟨by rw [← ewz]; exact (below_set HB2.out HGb.out).drew⟩
          rw [ewz]
          clear ewz HPut HRow2 HEn2 HB2 hcell hfr hxE
          have hsc : scanS ((catF l).set pl.toNat bv) = l.take kk.toNat := by
            obtain ⟨h, e⟩ := HS.out
            have hpl := HPl.out
            have hlt : totS (l.take kk.toNat) + 4 + qn.toNat < (catF l).length := by rw [HN5.out.2.2]; omega
            rw [hpl.2.2]
            refine turned_scan HSm.out h (by rw [e]; have := HQn.out; omega) HBv2.out.1 hlt ?_
            have hg2 := rd_get hlt
            rw [← hg2, show ((totS (l.take kk.toNat) + 4 + qn.toNat : Nat) : Int) = pl by omega, HBv.out.2.2]
            exact HBv2.out.2
          have hln : ((catF l).set pl.toNat bv).length = n5 := by rw [List.length_set, HN5.out.2.2]
          obtain ⟨ln, eln⟩ : ∃ ln, (l.take kk.toNat).length = ln := ⟨_, rfl⟩
          have HLn : Aside0 ((l.take kk.toNat).length = ln) := ⟨eln⟩
          have HScan : Aside0 (Calls Try.prog 14 #[.slice (some ⟨g, 0, none⟩) n5 c5] wz fun e w' => ∃ (A : Option Addr) (c : Nat), e = .returned (.tuple #[.slice A ln c, .int .i64 (t : Int)]) ∧ Kd.string.R 9 w' wz.heap.size (fun _ => True) (.slice A ln c) (l.take kk.toNat) ∧ Below wz.heap.size wz w') := ⟨by
            have h := Scan.plain (some ⟨g, 0, none⟩) c5 ((catF l).set pl.toNat bv) wz HRow3.out.C (bts_set (catF_bts l) HBv2.out.1) (by rw [hln]; have := HN5.out; omega)
            rw [hln, hsc, eln, HT.out.1] at h
            exact h⟩
          obtain ⟨i9, hi9, _, hsz9, _⟩ := info_parts info9
          obtain ⟨hcut9, hA9, hC9⟩ := print_take_of (P := Try.prog) Value.string ByteArray.empty 30 9 .i64 Try.underlying30 hi9 hsz9 (some ad) c0 l kk HK.out.1 (by have := HK.out; omega) HC.out
          have HA9 : Aside0 (∀ W, Below w.heap.size w W → Kd.C Kd.string W (some ad) (l.take kk.toNat).length (l.take kk.toNat)) := ⟨fun W hb => Kd.C_of_reads (enc := Value.string) (h1 := fun _ => rfl) (hA9 _ (Kd.reads_of_C (Kd.C_below HR.out hb)))⟩
          have HC9 : Aside0 (ln ≤ c0) := ⟨by rw [← eln]; exact hC9⟩
          rw [eln] at hcut9
          clear hi9 hsz9 hA9 hC9 eln hsc hln
          go_wp2_with fail
          refine HScan.out.mono ?_
          rintro e w3 ⟨A7, c7, rfl, h7, hb⟩
          have H7 := Aside0.mk h7
          have HE3 := Aside0.mk (Kd.R_below HEn3.out hb)
          have HB4 : Aside0 (Below w.heap.size w w3) := ⟨below_step HB3.out hb⟩
          clear h7 hb HScan HRow3 HEn3 HB3
          go_wp2_with fail
          refine (lives.at _).mono ?_
          rintro e w4 ⟨rfl, hb⟩
          have H8 := Aside0.mk (Kd.R_below H7.out hb)
          have HE4 := Aside0.mk (Kd.R_below HE3.out hb)
          have HB5 : Aside0 (Below w.heap.size w w4) := ⟨below_step HB4.out hb⟩
          have HSame : Aside0 (Calls Try.prog 16 #[.slice A7 ln c7, .slice (some ad) ln c0] w4 fun e w' => e = .returned (.bool true) ∧ Below w4.heap.size w4 w') := ⟨by
            have hm := (Kd.R_reads' H8.out).2
            have h := same_at A7 c7 (some ad) c0 (l.take kk.toNat) w4 hm.2 (by rw [HLn.out]; exact hm.1) (HA9.out _ HB5.out) (by rw [HLn.out]; exact HC9.out) (by rw [List.length_take]; have := HLl.out; omega)
            rw [HLn.out] at h
            exact h⟩
          clear hb H7 HE3 HB4 HA9
          go_wp2_with fail
          refine HSame.out.mono ?_
          rintro e w5 ⟨rfl, hb⟩
          have HB6 : Aside0 (Below w.heap.size w w5) := ⟨below_step HB5.out hb⟩
          have hre := (Kd.R_reads' (Kd.R_below HE4.out hb)).2.2
          rw [begL_length] at hre
          obtain ⟨adE2, eE, hxE⟩ := Kd.at_int hre kk (of_eq_true c1) (of_eq_true c2)
          obtain rfl : adE = adE2 := by injection eE
          have hev : rd (begL l l.length) kk = (t : Int) := by
            have := rd_begL (l := l) (j := l.length) (i := kk.toNat) (by have := HK.out; omega)
            rw [Int.toNat_of_nonneg HK.out.1, HT.out.1] at this
            exact this
          rw [hev] at hxE
          clear hre hev hb HSame eE
          go_wp2
          go_ret
          exact ⟨by rfl, HB6.out⟩
theorem pannierlaw02_FrameTurned.walked (w : World) (A0 : Option Addr) (c0 : Nat) (l : List ByteArray) (hr : Kd.C Kd.string w A0 l.length l) (hc : l.length ≤ c0) (hs : ∀ s ∈ l, s.size ≤ maxLen) (hl : sizesS l ≤ 1048576) (a2 : Int) (ha : (Lit.int .i64 a2).wf = true) (a3 : Int) (ha3 : (Lit.int .i64 a3).wf = true) :
    Calls Try.prog 6 #[.slice A0 l.length c0, .int .i64 a2, .int .i64 a3] w fun e w' => e = .returned (.bool true) ∧ Below w.heap.size w w' := FrameTurned.at A0 c0 l a2 a3 w hr hc hl (wf_range ha) (wf_range ha3)
end Go.Proofs.Ytlmpdlmamopbeaa.P
