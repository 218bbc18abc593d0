/- LinLooser, walked: whatever it is handed, it answers true. -/
import Derived.Test.YtmijalplheoekaaLg
namespace Go.Proofs.Ytmijalplheoekaa.P
open Go.RowKit Go.Maps Go.WideMaps Go.Proofs.YtmijalplheoekaaW.PrintWords Go.Proofs.YtmijalplheoekaaW.PrintLast Go.Proofs.YtmijalplheoekaaW.PrintMore
set_option linter.unusedVariables false
set_option linter.unusedSimpArgs false
theorem info31' : (Try.prog.info? 31).map (fun i => (i.zero, i.size, i.bytes)) = some (some (.agg #[.bool false, .string (⟨#[]⟩ : ByteArray), .int .i64 0, .int .i64 0, .int .i64 0]), 5, 48) := by kernel_rfl
set_option maxHeartbeats 8000000 in
set_option maxRecDepth 100000 in
theorem LinLooser.at (A0 : Option Addr) (c0 : Nat) (l0 : List S31) (A1 : Option Addr) (c1 : Nat) (l1 : List ByteArray) (a2 a3 : Int) (w : World) (h : CkArg w A0 c0 l0 A1 c1 l1) (hc : l0.length * 48 ≤ 140737488355328) (ha : -9223372036854775808 ≤ a2 ∧ a2 ≤ 9223372036854775807) (hz : ∀ x ∈ l0, -9223372036854775808 ≤ x.f2 ∧ x.f2 ≤ 9223372036854775807 ∧ -9223372036854775808 ≤ x.f3 ∧ x.f3 ≤ 9223372036854775807) :
    Calls Try.prog 6 #[.slice A0 l0.length c0, .slice A1 l1.length c1, .int .i64 a2, .int .i64 a3] w fun e w' => e = .returned (.bool true) ∧ Below w.heap.size w w' := by
  have HH := Aside0.mk h
  have HCc := Aside0.mk hc
  have HA := Aside0.mk ha
  have HZ := Aside0.mk hz
  clear h hc ha hz
  have HLv : Aside0 (∀ W, Calls Try.prog 7 #[] W fun e w' => e = .returned (.bool true) ∧ Below W.heap.size W w') := ⟨lives.at⟩
  obtain ⟨rc, erc⟩ : ∃ rc, checkC (l0.map toSn) (toks l1) 1 250 = rc := ⟨_, rfl⟩
  have HCk : Aside0 (∀ W, Below w.heap.size w W → Calls Try.prog 9 #[.slice A0 l0.length c0, .slice A1 l1.length c1] W fun e w' => e = .returned (.int .i64 rc) ∧ Below W.heap.size W w') := ⟨fun W hb => by
    rw [← erc]
    exact Check.at A0 c0 l0 A1 c1 l1 W (HH.out.below hb)⟩
  have HRC : Aside0 (rc = 0 → Okay (l0.map toSn) (toks l1)) := ⟨fun e => (checkC_zero (by decide) (by decide)).1 (erc.trans e)⟩
  clear erc
  go_enter Try.func6, Try.ntmps6
  go_wp2_with fail
  refine (HLv.out _).mono ?_
  rintro e w1 ⟨rfl, hb⟩
  have HB := Aside0.mk hb
  clear hb
  go_wp2_with fail
  refine (HCk.out _ HB.out).mono ?_
  rintro e w2 ⟨rfl, hb⟩
  replace HB := Aside0.mk (below_step HB.out hb)
  clear hb
  by_cases k1 : rc = 0
  case neg =>
    have d1 : (rc == 0) = false := by rw [beq_eq_false_iff_ne]; exact k1
    have d1' : (rc != 0) = true := by rw [bne_iff_ne]; exact k1
    clear k1
    go_wp2
    go_ret
    exact ⟨rfl, HB.out⟩
  have HOk := Aside0.mk (HRC.out k1)
  subst k1
  rcases l0 with _ | ⟨x0, r0⟩
  · go_wp2
    go_ret
    exact ⟨rfl, HB.out⟩
  obtain ⟨l0, el0⟩ : ∃ l0, x0 :: r0 = l0 := ⟨_, rfl⟩
  have HN : Aside0 (0 < l0.length) := ⟨by rw [← el0]; simp⟩
  rw [el0] at HH HCk HRC HOk HCc HZ ⊢
  obtain ⟨n, en⟩ : ∃ n, l0.length = n := ⟨_, rfl⟩
  have HNn := Aside0.mk en
  rw [en]
  have d2 : ((n : Int) == 0) = false := by rw [beq_eq_false_iff_ne]; have := HN.out; omega
  clear el0 en x0 r0
  by_cases k2 : a3 < 0
  · go_wp2
    go_ret
    exact ⟨rfl, HB.out⟩
  by_cases k3 : 1048576 < a3
  · go_wp2
    go_ret
    exact ⟨rfl, HB.out⟩
  have HA3 : Aside0 (0 ≤ a3 ∧ a3 ≤ 1048576) := ⟨by omega⟩
  obtain ⟨k0, ek0⟩ : ∃ k0, a2.tmod n = k0 := ⟨_, rfl⟩
  have d3 : (n = 0) = False := by apply eq_false; have := HN.out; have := HNn.out; omega
  have HK0 : Aside0 (-(n : Int) < k0 ∧ k0 < n) := ⟨by
    have := HN.out
    have h1 := Int.tmod_lt_of_pos a2 (show (0 : Int) < n by have := HNn.out; omega)
    have h2 := Int.tmod_lt_of_pos (-a2) (show (0 : Int) < n by have := HNn.out; omega)
    rw [Int.neg_tmod] at h2
    omega⟩
  go_upto_region 6 with (fail)
  clear ek0 d3 k2 k3
  go_upto_if 35 with (fail)
  go_cut [9] from 35 to 39 (fun v9 wc => ∃ kk : Int, v9 = .int .i64 kk ∧ Aside0 (0 ≤ kk ∧ kk < (n : Int)) ∧ Aside0 (Below w.heap.size w wc))
  case first =>
    by_cases q : k0 < 0
    · have HQ := Aside0.mk q
      have es : IntKind.i64.wrap (k0 + n) = k0 + n := by rw [i64_w]; unfold wrap64; have := HK0.out; have := HCc.out; have := HNn.out; omega
      have es2 : wrap64 (k0 + n) = k0 + n := by rw [← i64_w]; exact es
      go_wp2
      go_meet
      case rel => exact ⟨k0 + n, rfl, ⟨by have := HQ.out; have := HK0.out; omega⟩, HB⟩
    · have HQ := Aside0.mk q
      go_wp2
      go_meet
      case rel => exact ⟨k0, rfl, ⟨by have := HQ.out; have := HK0.out; omega⟩, HB⟩
  case rest =>
    clear HB
    obtain ⟨kk, rfl, HK, HB⟩ := hcut
    obtain rfl := HNn.out
    have g1 : 0 ≤ kk := HK.out.1
    have g2 : kk < (l0.length : Int) := HK.out.2
    replace g1 := eq_true g1
    replace g2 := eq_true g2
    go_upto_region 9 with (first
      | ((with_reducible refine gate_dst (N := 40) rfl ?_); refine Kd.R_lit k31 (w0 := w) w.heap.size 31 ?hg (N := 40) ?hd (xs := ([] : List S31)) (inner := []) (ok := fun _ => True) (okp := fun _ => True) ?hr ?hp (fun _ hk => hk) trivial HB.out HB.out.size (by simp) ?_; (case hd => rfl); (case hg => rfl); (case hr => first | (go_simp; done) | (go_simp; rfl)); (case hp => exact (Reps.none _ _)); intro v1 w1 ho1 hb hg_ hnew_; clear hg_ hnew_; have HO1 := Aside0.mk ho1; have HB1 := Aside0.mk hb; clear HB hb ho1)
      | ((with_reducible refine gate_builtin (b := .append) (xs := #[.tmp 40, .tmp 41]) rfl ?_); at_builtin; refine Kd.R_append_rows k31 (w0 := w) w.heap.size rfl (.tmp 40) (.tmp 41) 22 31 (.agg #[.bool false, .string (⟨#[]⟩ : ByteArray), .int .i64 0, .int .i64 0, .int .i64 0]) 48 rfl Try.underlying22 info31' rfl (by decide) (by omega) v1 ([] : List S31) l0 _ _ _ (fun _ => True) (fun _ => False) rfl rfl ?aO ?aR (fun _ _ h => h) (fun _ h => h.elim) ?aF ?aB ?aS ?aL ?_; (case aR => exact Kd.C_below HH.out.r0 HB1.out); (case aB => exact HB1.out); (case aF => exact (fun _ _ => trivial)); (case aO => exact HO1.out); (case aS => exact HB1.out.size); (case aL => have := HCc.out; simp only [List.length_nil]; omega); intro v2 w2 ho hb hg hat; rw [List.nil_append] at ho; have HO2 := Aside0.mk ho; have HB2 := Aside0.mk hb; clear HB1 HO1 ho hb hg hat)
      | fail)
    obtain ⟨g, cap, rfl, hbg, hlt, hform⟩ := Kd.R_form HO2.out HN.out
    clear hform hlt hbg
    obtain ⟨c, hcl, hM, hcc, hfr⟩ := Kd.R_elem HO2.out z31 kk HK.out.1 HK.out.2
    obtain rfl := k31_openM hM
    have hkl : kk.toNat < l0.length := by have := HK.out; omega
    obtain ⟨x, ex⟩ : ∃ x, l0.getD kk.toNat z31 = x := ⟨_, rfl⟩
    rw [ex] at hM hcl hcc
    have HX : Aside0 (∃ h : kk.toNat < l0.length, l0[kk.toNat] = x) := ⟨hkl, by rw [← ex, List.getD_eq_getElem?_getD, List.getElem?_eq_getElem hkl]; rfl⟩
    have HX2 : Aside0 (-9223372036854775808 ≤ x.f2 ∧ x.f2 ≤ 9223372036854775807 ∧ -9223372036854775808 ≤ x.f3 ∧ x.f3 ≤ 9223372036854775807) := ⟨by
      obtain ⟨h, e⟩ := HX.out
      exact HZ.out x (by rw [← e]; exact List.getElem_mem h)⟩
    clear ex
    have q2 := hcc 2 _ rfl
    have HM := Aside0.mk hM
    have HCC := Aside0.mk hcc
    have HCL := Aside0.mk hcl
    have q2f := hfr 2
    simp only [show k31.sz = 5 from rfl] at q2 q2f
    clear hM hcc hfr hcl HZ hkl
    obtain ⟨b, eb⟩ : ∃ b, x.f2 = b := ⟨_, rfl⟩
    have HEb := Aside0.mk eb
    rw [eb] at q2
    clear eb
    go_upto_if 49 with (fail)
    go_cut [10] from 49 to 60 (fun v10 wc => v10 = .slice (some ⟨g, 0, none⟩) l0.length cap ∧ Aside0 (k31.R 31 wc w.heap.size (fun _ => True) (.slice (some ⟨g, 0, none⟩) l0.length cap) (l0.set kk.toNat { x with f2 := if a3 < b then b - a3 else b })) ∧ Aside0 (Below w.heap.size w wc))
    case first =>
      by_cases q : a3 < b
      · have HQ := Aside0.mk q
        have es : IntKind.i64.wrap (b - a3) = b - a3 := by rw [i64_w]; unfold wrap64; have := HX2.out; have := HEb.out; have := HA3.out; omega
        have es2 : wrap64 (b - a3) = b - a3 := by rw [← i64_w]; exact es
        go_wp2_with (((with_reducible refine gate_store (t := 3) (p := 60) rfl ?_); refine Kd.R_store k31 (w0 := w) w.heap.size ?hN ?hg 3 (.tmp 60) (.tmp 58) ?ho 31 (o' := kk.toNat * 5 + 2) kk 2 l0 { x with f2 := if a3 < b then b - a3 else b } (.int .i64 (b - a3)) [.int .i64 (b - a3)] _ (fun _ => True) (fun k => k ≠ g) ?ha rfl ?hx rfl rfl ?h1 HO2.out HK.out.1 HK.out.2 HCL.out HCC.out (Nat.le_of_ble_eq_true rfl) ?hM (fun k hk => ⟨trivial, hk⟩) HB2.out ?_; (case hg => rfl); (case hN => rfl); (case ho => rfl); (case ha => first | rfl | (go_simp; done) | (go_simp; rfl)); (case hx => first | rfl | (go_simp; done) | (go_simp; rfl)); (case h1 => intro q hq; rw [List.mem_singleton] at hq; subst hq; rfl); (case hM => rw [if_pos HQ.out]; exact k31_mkM _ _ _ { x with f2 := b - a3 }); intro w3 ho hb hg; have HO3 := Aside0.mk ho; have HB3 := Aside0.mk hb; clear ho hb hg))
        go_meet
        case rel => exact ⟨rfl, HO3, HB3⟩
      · have HQ := Aside0.mk q
        go_wp2
        go_meet
        case rel => exact ⟨rfl, ⟨by
          rw [if_neg (show ¬ a3 < b from by have := HQ.out; omega), ← HEb.out]
          obtain ⟨h, e⟩ := HX.out
          have : l0.set kk.toNat x = l0 := by rw [← e]; exact List.set_getElem_self h
          rw [show ({ x with f2 := x.f2 } : S31) = x from rfl, this]
          exact HO2.out⟩, HB2⟩
    case rest =>
      clear HB2 HO2 HM HCC HCL q2 q2f
      obtain ⟨rfl, HO2, HB2⟩ := hcut
      obtain ⟨L1, eL⟩ : ∃ L, l0.set kk.toNat { x with f2 := if a3 < b then b - a3 else b } = L := ⟨_, rfl⟩
      have HL1 := Aside0.mk eL
      rw [eL] at HO2
      clear eL
      have hl1 : L1.length = l0.length := by rw [← HL1.out, List.length_set]
      have HLn := Aside0.mk hl1
      clear hl1
      obtain ⟨c, hcl, hM, hcc, hfr⟩ := Kd.R_elem HO2.out z31 kk HK.out.1 HK.out.2
      obtain rfl := k31_openM hM
      have ex : L1.getD kk.toNat z31 = { x with f2 := if a3 < b then b - a3 else b } := by
        obtain ⟨h, e⟩ := HX.out
        rw [← HL1.out, List.getD_eq_getElem?_getD, List.getElem?_set_self h]; rfl
      rw [ex] at hM hcl hcc
      obtain ⟨e, ee⟩ : ∃ e, x.f3 = e := ⟨_, rfl⟩
      have HEe := Aside0.mk ee
      have q3 : wc.cell? ⟨g, kk.toNat * 5 + 3, none⟩ = some (.int .i64 e) := by rw [← ee]; exact hcc 3 _ rfl
      have q3f : wc.frozen? ⟨g, kk.toNat * 5 + 3, none⟩ = false := hfr 3
      have HM := Aside0.mk hM
      have HCC := Aside0.mk hcc
      have HCL := Aside0.mk hcl
      clear hM hcc hfr hcl ex ee
      by_cases q : 0 < e
      · have HQ := Aside0.mk q
        by_cases q2 : e < 2305843009213693952
        · have HQ2 := Aside0.mk q2
          have es : IntKind.i64.wrap (e + a3) = e + a3 := by rw [i64_w]; unfold wrap64; have := HA3.out; omega
          have es2 : wrap64 (e + a3) = e + a3 := by rw [← i64_w]; exact es
          go_wp2_with (((with_reducible refine gate_store (t := 3) (p := 85) rfl ?_); refine Kd.R_store k31 (w0 := w) w.heap.size ?hN ?hg 3 (.tmp 85) (.tmp 83) ?ho 31 (o' := kk.toNat * 5 + 3) kk 3 L1 { x with f2 := if a3 < b then b - a3 else b, f3 := if 0 < e ∧ e < 2305843009213693952 then e + a3 else e } (.int .i64 (e + a3)) [.int .i64 (e + a3)] _ (fun _ => True) (fun k => k ≠ g) ?ha rfl ?hx rfl rfl ?h1 HO2.out HK.out.1 HK.out.2 HCL.out HCC.out (Nat.le_of_ble_eq_true rfl) ?hM (fun k hk => ⟨trivial, hk⟩) HB2.out ?_; (case hg => rfl); (case hN => rfl); (case ho => rfl); (case ha => first | rfl | (go_simp; done) | (go_simp; rfl)); (case hx => first | rfl | (go_simp; done) | (go_simp; rfl)); (case h1 => intro q hq; rw [List.mem_singleton] at hq; subst hq; rfl); (case hM => rw [if_pos (show 0 < e ∧ e < 2305843009213693952 from ⟨HQ.out, HQ2.out⟩)]; exact k31_mkM _ _ _ { x with f2 := if a3 < b then b - a3 else b, f3 := e + a3 }); intro w3 ho hb hg; have HO3 := Aside0.mk ho; have HB3 := Aside0.mk hb; clear ho hb hg))
          have HO4 : Aside0 (k31.R 31 w3 w.heap.size (fun _ => True) (.slice (some ⟨g, 0, none⟩) l0.length cap) (l0.set kk.toNat { x with f2 := if a3 < b then b - a3 else b, f3 := if 0 < e ∧ e < 2305843009213693952 then e + a3 else e })) := ⟨by have ho := HO3.out; rw [← HL1.out, List.set_set] at ho; exact ho⟩
          clear HO3 HO2 HM HCC HCL q3 q3f
          have hL : (l0.set kk.toNat { x with f2 := if a3 < b then b - a3 else b, f3 := if 0 < e ∧ e < 2305843009213693952 then e + a3 else e }).map toSn = (l0.map toSn).set kk.toNat (loose a3 (toSn x)) := by
            rw [List.map_set]
            congr 1
            rw [← HEb.out, ← HEe.out]
            rfl
          have hlen : (l0.set kk.toNat { x with f2 := if a3 < b then b - a3 else b, f3 := if 0 < e ∧ e < 2305843009213693952 then e + a3 else e }).length = l0.length := List.length_set
          have hs : ∀ y ∈ l0.set kk.toNat { x with f2 := if a3 < b then b - a3 else b, f3 := if 0 < e ∧ e < 2305843009213693952 then e + a3 else e }, y.f1.size ≤ maxLen := fun y hy => by
            rcases List.mem_or_eq_of_mem_set hy with q | q
            · exact HH.out.s0 y q
            · obtain ⟨h, e⟩ := HX.out
              rw [q]
              exact HH.out.s0 x (by rw [← e]; exact List.getElem_mem h)
          obtain ⟨L2, e2⟩ : ∃ L, l0.set kk.toNat { x with f2 := if a3 < b then b - a3 else b, f3 := if 0 < e ∧ e < 2305843009213693952 then e + a3 else e } = L := ⟨_, rfl⟩
          rw [e2] at hL hlen hs HO4
          clear e2
          have hr3 := (Kd.R_reads' HO4.out).2
          have HC3 : Aside0 (Calls Try.prog 9 #[.slice (some ⟨g, 0, none⟩) l0.length cap, .slice A1 l1.length c1] w3 fun e w' => e = .returned (.int .i64 0) ∧ Below w3.heap.size w3 w') := ⟨by
            have h1 := Check.at (some ⟨g, 0, none⟩) cap L2 A1 c1 l1 w3 ⟨hr3.2, Kd.C_below HH.out.r1 HB3.out, by rw [hlen]; exact hr3.1, by rw [hlen]; exact HH.out.n0, HH.out.n1, hs, HH.out.s1⟩
            have h2 : checkC (L2.map toSn) (toks l1) 1 250 = 0 := by
              rw [checkC_zero (by decide) (by decide), hL]
              obtain ⟨h, e⟩ := HX.out
              have h3 := HOk.out.loose kk.toNat (by rw [List.length_map]; exact h) a3 HA3.out.1 HA3.out.2
              rw [List.getElem_map, e] at h3
              exact h3
            rw [h2, hlen] at h1
            exact h1⟩
          clear hr3 hL hlen hs HO4
          go_wp2_with fail
          refine HC3.out.mono ?_
          rintro e w4 ⟨rfl, hb⟩
          have HB4 := Aside0.mk (below_step HB3.out hb)
          clear hb
          go_wp2
          go_ret
          exact ⟨rfl, HB4.out⟩
        · have HQ2 := Aside0.mk q2
          have HO4 : Aside0 (k31.R 31 wc w.heap.size (fun _ => True) (.slice (some ⟨g, 0, none⟩) l0.length cap) (l0.set kk.toNat { x with f2 := if a3 < b then b - a3 else b, f3 := if 0 < e ∧ e < 2305843009213693952 then e + a3 else e })) := ⟨by
            rw [if_neg (show ¬ (0 < e ∧ e < 2305843009213693952) from by have := HQ2.out; omega), ← HEe.out]
            rw [show ({ x with f2 := if a3 < b then b - a3 else b, f3 := x.f3 } : S31) = { x with f2 := if a3 < b then b - a3 else b } from rfl, HL1.out]
            exact HO2.out⟩
          clear HO2 HM HCC HCL
          have hL : (l0.set kk.toNat { x with f2 := if a3 < b then b - a3 else b, f3 := if 0 < e ∧ e < 2305843009213693952 then e + a3 else e }).map toSn = (l0.map toSn).set kk.toNat (loose a3 (toSn x)) := by
            rw [List.map_set]
            congr 1
            rw [← HEb.out, ← HEe.out]
            rfl
          have hlen : (l0.set kk.toNat { x with f2 := if a3 < b then b - a3 else b, f3 := if 0 < e ∧ e < 2305843009213693952 then e + a3 else e }).length = l0.length := List.length_set
          have hs : ∀ y ∈ l0.set kk.toNat { x with f2 := if a3 < b then b - a3 else b, f3 := if 0 < e ∧ e < 2305843009213693952 then e + a3 else e }, y.f1.size ≤ maxLen := fun y hy => by
            rcases List.mem_or_eq_of_mem_set hy with q | q
            · exact HH.out.s0 y q
            · obtain ⟨h, e⟩ := HX.out
              rw [q]
              exact HH.out.s0 x (by rw [← e]; exact List.getElem_mem h)
          obtain ⟨L2, e2⟩ : ∃ L, l0.set kk.toNat { x with f2 := if a3 < b then b - a3 else b, f3 := if 0 < e ∧ e < 2305843009213693952 then e + a3 else e } = L := ⟨_, rfl⟩
          rw [e2] at hL hlen hs HO4
          clear e2
          have hr3 := (Kd.R_reads' HO4.out).2
          have HC3 : Aside0 (Calls Try.prog 9 #[.slice (some ⟨g, 0, none⟩) l0.length cap, .slice A1 l1.length c1] wc fun e w' => e = .returned (.int .i64 0) ∧ Below wc.heap.size wc w') := ⟨by
            have h1 := Check.at (some ⟨g, 0, none⟩) cap L2 A1 c1 l1 wc ⟨hr3.2, Kd.C_below HH.out.r1 HB2.out, by rw [hlen]; exact hr3.1, by rw [hlen]; exact HH.out.n0, HH.out.n1, hs, HH.out.s1⟩
            have h2 : checkC (L2.map toSn) (toks l1) 1 250 = 0 := by
              rw [checkC_zero (by decide) (by decide), hL]
              obtain ⟨h, e⟩ := HX.out
              have h3 := HOk.out.loose kk.toNat (by rw [List.length_map]; exact h) a3 HA3.out.1 HA3.out.2
              rw [List.getElem_map, e] at h3
              exact h3
            rw [h2, hlen] at h1
            exact h1⟩
          clear hr3 hL hlen hs HO4
          go_wp2_with fail
          refine HC3.out.mono ?_
          rintro e w4 ⟨rfl, hb⟩
          have HB4 := Aside0.mk (below_step HB2.out hb)
          clear hb
          go_wp2
          go_ret
          exact ⟨rfl, HB4.out⟩
      · have HQ := Aside0.mk q
        have HO4 : Aside0 (k31.R 31 wc w.heap.size (fun _ => True) (.slice (some ⟨g, 0, none⟩) l0.length cap) (l0.set kk.toNat { x with f2 := if a3 < b then b - a3 else b, f3 := if 0 < e ∧ e < 2305843009213693952 then e + a3 else e })) := ⟨by
          rw [if_neg (show ¬ (0 < e ∧ e < 2305843009213693952) from by have := HQ.out; omega), ← HEe.out]
          rw [show ({ x with f2 := if a3 < b then b - a3 else b, f3 := x.f3 } : S31) = { x with f2 := if a3 < b then b - a3 else b } from rfl, HL1.out]
          exact HO2.out⟩
        clear HO2 HM HCC HCL
        have hL : (l0.set kk.toNat { x with f2 := if a3 < b then b - a3 else b, f3 := if 0 < e ∧ e < 2305843009213693952 then e + a3 else e }).map toSn = (l0.map toSn).set kk.toNat (loose a3 (toSn x)) := by
          rw [List.map_set]
          congr 1
          rw [← HEb.out, ← HEe.out]
          rfl
        have hlen : (l0.set kk.toNat { x with f2 := if a3 < b then b - a3 else b, f3 := if 0 < e ∧ e < 2305843009213693952 then e + a3 else e }).length = l0.length := List.length_set
        have hs : ∀ y ∈ l0.set kk.toNat { x with f2 := if a3 < b then b - a3 else b, f3 := if 0 < e ∧ e < 2305843009213693952 then e + a3 else e }, y.f1.size ≤ maxLen := fun y hy => by
          rcases List.mem_or_eq_of_mem_set hy with q | q
          · exact HH.out.s0 y q
          · obtain ⟨h, e⟩ := HX.out
            rw [q]
            exact HH.out.s0 x (by rw [← e]; exact List.getElem_mem h)
        obtain ⟨L2, e2⟩ : ∃ L, l0.set kk.toNat { x with f2 := if a3 < b then b - a3 else b, f3 := if 0 < e ∧ e < 2305843009213693952 then e + a3 else e } = L := ⟨_, rfl⟩
        rw [e2] at hL hlen hs HO4
        clear e2
        have hr3 := (Kd.R_reads' HO4.out).2
        have HC3 : Aside0 (Calls Try.prog 9 #[.slice (some ⟨g, 0, none⟩) l0.length cap, .slice A1 l1.length c1] wc fun e w' => e = .returned (.int .i64 0) ∧ Below wc.heap.size wc w') := ⟨by
          have h1 := Check.at (some ⟨g, 0, none⟩) cap L2 A1 c1 l1 wc ⟨hr3.2, Kd.C_below HH.out.r1 HB2.out, by rw [hlen]; exact hr3.1, by rw [hlen]; exact HH.out.n0, HH.out.n1, hs, HH.out.s1⟩
          have h2 : checkC (L2.map toSn) (toks l1) 1 250 = 0 := by
            rw [checkC_zero (by decide) (by decide), hL]
            obtain ⟨h, e⟩ := HX.out
            have h3 := HOk.out.loose kk.toNat (by rw [List.length_map]; exact h) a3 HA3.out.1 HA3.out.2
            rw [List.getElem_map, e] at h3
            exact h3
          rw [h2, hlen] at h1
          exact h1⟩
        clear hr3 hL hlen hs HO4
        go_wp2_with fail
        refine HC3.out.mono ?_
        rintro e w4 ⟨rfl, hb⟩
        have HB4 := Aside0.mk (below_step HB2.out hb)
        clear hb
        go_wp2
        go_ret
        exact ⟨rfl, HB4.out⟩
end Go.Proofs.Ytmijalplheoekaa.P
