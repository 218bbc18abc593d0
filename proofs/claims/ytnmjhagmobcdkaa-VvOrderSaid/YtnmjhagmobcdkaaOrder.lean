/- The law VvOrder: Merge and Meet are the least above and the greatest below, the same in either order and in any groups. -/
import Derived.Test.YtnmjhagmobcdkaaTc
import Derived.Test.YtnmjhagmobcdkaaP9
namespace Go.Proofs.Ytnmjhagmobcdkaa.P
open Go.RowKit Go.Proofs.YtnmjhagmobcdkaaW.PrintWords Go.Proofs.YtnmjhagmobcdkaaW.PrintLast Go.Proofs.YtnmjhagmobcdkaaW.PrintMore
set_option maxHeartbeats 4000000 in
set_option maxRecDepth 100000 in
theorem VvOrder.not0 (w : World) (A_a : Option Addr) (c_a : Nat) (la : List Int) (A_b : Option Addr) (c_b : Nat) (lb : List Int) (A_c : Option Addr) (c_c : Nat) (lc : List Int) (hra : Kd.C (Kd.int .i64) w A_a la.length la) (hka : la.length ≤ c_a) (hrb : Kd.C (Kd.int .i64) w A_b lb.length lb) (hkb : lb.length ≤ c_b) (hrc : Kd.C (Kd.int .i64) w A_c lc.length lc) (hkc : lc.length ≤ c_c) (hla : la.length < 17592186044416) (hlb : lb.length < 17592186044416) (hlc : lc.length < 17592186044416) (hma : mayB la = false) :
    Calls Try.prog 4 #[.slice A_a la.length c_a, .slice A_b lb.length c_b, .slice A_c lc.length c_c] w fun e w' => e = .returned (.bool true) ∧ Below w.heap.size w w' := by
  have HMa := Aside0.mk hma
  clear hma
  have H_a := Aside0.mk hra
  have K_a := Aside0.mk hka
  have HLa := Aside0.mk hla
  clear hra hka hla
  have H_b := Aside0.mk hrb
  have K_b := Aside0.mk hkb
  have HLb := Aside0.mk hlb
  clear hrb hkb hlb
  have H_c := Aside0.mk hrc
  have K_c := Aside0.mk hkc
  have HLc := Aside0.mk hlc
  clear hrc hkc hlc
  have HB := Aside0.mk (Below.refl w.heap.size w)
  go_enter Try.func4, Try.ntmps4
  go_wp2_with fail
  refine (pannierlaw08_lives.calls true _ rfl).mono ?_
  rintro e w' ⟨rfl, hb⟩
  replace H_a := Aside0.mk (Kd.C_below H_a.out hb)
  replace H_b := Aside0.mk (Kd.C_below H_b.out hb)
  replace H_c := Aside0.mk (Kd.C_below H_c.out hb)
  replace HB := Aside0.mk (below_step HB.out hb)
  clear hb
  go_wp2_with fail
  refine (pannierref08_May.tc _ _ la _ H_a.out K_a.out HLa.out HMa.out).mono ?_
  rintro e w' ⟨rfl, hb⟩
  replace H_a := Aside0.mk (Kd.C_below H_a.out hb)
  replace H_b := Aside0.mk (Kd.C_below H_b.out hb)
  replace H_c := Aside0.mk (Kd.C_below H_c.out hb)
  replace HB := Aside0.mk (below_step HB.out hb)
  clear hb
  go_wp2
  go_ret
  exact ⟨rfl, HB.out⟩
set_option maxHeartbeats 4000000 in
set_option maxRecDepth 100000 in
theorem VvOrder.not1 (w : World) (A_a : Option Addr) (c_a : Nat) (la : List Int) (A_b : Option Addr) (c_b : Nat) (lb : List Int) (A_c : Option Addr) (c_c : Nat) (lc : List Int) (hra : Kd.C (Kd.int .i64) w A_a la.length la) (hka : la.length ≤ c_a) (hrb : Kd.C (Kd.int .i64) w A_b lb.length lb) (hkb : lb.length ≤ c_b) (hrc : Kd.C (Kd.int .i64) w A_c lc.length lc) (hkc : lc.length ≤ c_c) (hla : la.length < 17592186044416) (hlb : lb.length < 17592186044416) (hlc : lc.length < 17592186044416) (hma : mayB la = true) (hmb : mayB lb = false) :
    Calls Try.prog 4 #[.slice A_a la.length c_a, .slice A_b lb.length c_b, .slice A_c lc.length c_c] w fun e w' => e = .returned (.bool true) ∧ Below w.heap.size w w' := by
  have HMa := Aside0.mk hma
  clear hma
  have HMb := Aside0.mk hmb
  clear hmb
  have H_a := Aside0.mk hra
  have K_a := Aside0.mk hka
  have HLa := Aside0.mk hla
  clear hra hka hla
  have H_b := Aside0.mk hrb
  have K_b := Aside0.mk hkb
  have HLb := Aside0.mk hlb
  clear hrb hkb hlb
  have H_c := Aside0.mk hrc
  have K_c := Aside0.mk hkc
  have HLc := Aside0.mk hlc
  clear hrc hkc hlc
  have HB := Aside0.mk (Below.refl w.heap.size w)
  go_enter Try.func4, Try.ntmps4
  go_wp2_with fail
  refine (pannierlaw08_lives.calls true _ rfl).mono ?_
  rintro e w' ⟨rfl, hb⟩
  replace H_a := Aside0.mk (Kd.C_below H_a.out hb)
  replace H_b := Aside0.mk (Kd.C_below H_b.out hb)
  replace H_c := Aside0.mk (Kd.C_below H_c.out hb)
  replace HB := Aside0.mk (below_step HB.out hb)
  clear hb
  go_wp2_with fail
  refine (pannierref08_May.tc _ _ la _ H_a.out K_a.out HLa.out HMa.out).mono ?_
  rintro e w' ⟨rfl, hb⟩
  replace H_a := Aside0.mk (Kd.C_below H_a.out hb)
  replace H_b := Aside0.mk (Kd.C_below H_b.out hb)
  replace H_c := Aside0.mk (Kd.C_below H_c.out hb)
  replace HB := Aside0.mk (below_step HB.out hb)
  clear hb
  go_wp2_with fail
  refine (pannierref08_May.tc _ _ lb _ H_b.out K_b.out HLb.out HMb.out).mono ?_
  rintro e w' ⟨rfl, hb⟩
  replace H_a := Aside0.mk (Kd.C_below H_a.out hb)
  replace H_b := Aside0.mk (Kd.C_below H_b.out hb)
  replace H_c := Aside0.mk (Kd.C_below H_c.out hb)
  replace HB := Aside0.mk (below_step HB.out hb)
  clear hb
  go_wp2
  go_ret
  exact ⟨rfl, HB.out⟩
set_option maxHeartbeats 4000000 in
set_option maxRecDepth 100000 in
theorem VvOrder.not2 (w : World) (A_a : Option Addr) (c_a : Nat) (la : List Int) (A_b : Option Addr) (c_b : Nat) (lb : List Int) (A_c : Option Addr) (c_c : Nat) (lc : List Int) (hra : Kd.C (Kd.int .i64) w A_a la.length la) (hka : la.length ≤ c_a) (hrb : Kd.C (Kd.int .i64) w A_b lb.length lb) (hkb : lb.length ≤ c_b) (hrc : Kd.C (Kd.int .i64) w A_c lc.length lc) (hkc : lc.length ≤ c_c) (hla : la.length < 17592186044416) (hlb : lb.length < 17592186044416) (hlc : lc.length < 17592186044416) (hma : mayB la = true) (hmb : mayB lb = true) (hmc : mayB lc = false) :
    Calls Try.prog 4 #[.slice A_a la.length c_a, .slice A_b lb.length c_b, .slice A_c lc.length c_c] w fun e w' => e = .returned (.bool true) ∧ Below w.heap.size w w' := by
  have HMa := Aside0.mk hma
  clear hma
  have HMb := Aside0.mk hmb
  clear hmb
  have HMc := Aside0.mk hmc
  clear hmc
  have H_a := Aside0.mk hra
  have K_a := Aside0.mk hka
  have HLa := Aside0.mk hla
  clear hra hka hla
  have H_b := Aside0.mk hrb
  have K_b := Aside0.mk hkb
  have HLb := Aside0.mk hlb
  clear hrb hkb hlb
  have H_c := Aside0.mk hrc
  have K_c := Aside0.mk hkc
  have HLc := Aside0.mk hlc
  clear hrc hkc hlc
  have HB := Aside0.mk (Below.refl w.heap.size w)
  go_enter Try.func4, Try.ntmps4
  go_wp2_with fail
  refine (pannierlaw08_lives.calls true _ rfl).mono ?_
  rintro e w' ⟨rfl, hb⟩
  replace H_a := Aside0.mk (Kd.C_below H_a.out hb)
  replace H_b := Aside0.mk (Kd.C_below H_b.out hb)
  replace H_c := Aside0.mk (Kd.C_below H_c.out hb)
  replace HB := Aside0.mk (below_step HB.out hb)
  clear hb
  go_wp2_with fail
  refine (pannierref08_May.tc _ _ la _ H_a.out K_a.out HLa.out HMa.out).mono ?_
  rintro e w' ⟨rfl, hb⟩
  replace H_a := Aside0.mk (Kd.C_below H_a.out hb)
  replace H_b := Aside0.mk (Kd.C_below H_b.out hb)
  replace H_c := Aside0.mk (Kd.C_below H_c.out hb)
  replace HB := Aside0.mk (below_step HB.out hb)
  clear hb
  go_wp2_with fail
  refine (pannierref08_May.tc _ _ lb _ H_b.out K_b.out HLb.out HMb.out).mono ?_
  rintro e w' ⟨rfl, hb⟩
  replace H_a := Aside0.mk (Kd.C_below H_a.out hb)
  replace H_b := Aside0.mk (Kd.C_below H_b.out hb)
  replace H_c := Aside0.mk (Kd.C_below H_c.out hb)
  replace HB := Aside0.mk (below_step HB.out hb)
  clear hb
  go_wp2_with fail
  refine (pannierref08_May.tc _ _ lc _ H_c.out K_c.out HLc.out HMc.out).mono ?_
  rintro e w' ⟨rfl, hb⟩
  replace H_a := Aside0.mk (Kd.C_below H_a.out hb)
  replace H_b := Aside0.mk (Kd.C_below H_b.out hb)
  replace H_c := Aside0.mk (Kd.C_below H_c.out hb)
  replace HB := Aside0.mk (below_step HB.out hb)
  clear hb
  go_wp2
  go_ret
  exact ⟨rfl, HB.out⟩
set_option maxHeartbeats 4000000 in
set_option maxRecDepth 100000 in
theorem VvOrder.main0 (w : World) (A_a : Option Addr) (c_a : Nat) (la : List Int) (A_b : Option Addr) (c_b : Nat) (lb : List Int) (A_c : Option Addr) (c_c : Nat) (lc : List Int) (hra : Kd.C (Kd.int .i64) w A_a la.length la) (hka : la.length ≤ c_a) (hrb : Kd.C (Kd.int .i64) w A_b lb.length lb) (hkb : lb.length ≤ c_b) (hrc : Kd.C (Kd.int .i64) w A_c lc.length lc) (hkc : lc.length ≤ c_c) (hla : la.length < 17592186044416) (hlb : lb.length < 17592186044416) (hlc : lc.length < 17592186044416) (hma : mayB la = true) (hmb : mayB lb = true) (hmc : mayB lc = true) (hp1 : belowB la lc = false) :
    Calls Try.prog 4 #[.slice A_a la.length c_a, .slice A_b lb.length c_b, .slice A_c lc.length c_c] w fun e w' => e = .returned (.bool true) ∧ Below w.heap.size w w' := by
  have HMa := Aside0.mk hma
  clear hma
  have HMb := Aside0.mk hmb
  clear hmb
  have HMc := Aside0.mk hmc
  clear hmc
  have HP1 := Aside0.mk hp1
  clear hp1
  have H_a := Aside0.mk hra
  have K_a := Aside0.mk hka
  have HLa := Aside0.mk hla
  clear hra hka hla
  have H_b := Aside0.mk hrb
  have K_b := Aside0.mk hkb
  have HLb := Aside0.mk hlb
  clear hrb hkb hlb
  have H_c := Aside0.mk hrc
  have K_c := Aside0.mk hkc
  have HLc := Aside0.mk hlc
  clear hrc hkc hlc
  have HB := Aside0.mk (Below.refl w.heap.size w)
  go_enter Try.func4, Try.ntmps4
  go_wp2_with fail
  refine (pannierlaw08_lives.calls true _ rfl).mono ?_
  rintro e w' ⟨rfl, hb⟩
  replace H_a := Aside0.mk (Kd.C_below H_a.out hb)
  replace H_b := Aside0.mk (Kd.C_below H_b.out hb)
  replace H_c := Aside0.mk (Kd.C_below H_c.out hb)
  replace HB := Aside0.mk (below_step HB.out hb)
  clear hb
  go_wp2_with fail
  refine (pannierref08_May.tc _ _ la _ H_a.out K_a.out HLa.out HMa.out).mono ?_
  rintro e w' ⟨rfl, hb⟩
  replace H_a := Aside0.mk (Kd.C_below H_a.out hb)
  replace H_b := Aside0.mk (Kd.C_below H_b.out hb)
  replace H_c := Aside0.mk (Kd.C_below H_c.out hb)
  replace HB := Aside0.mk (below_step HB.out hb)
  clear hb
  go_wp2_with fail
  refine (pannierref08_May.tc _ _ lb _ H_b.out K_b.out HLb.out HMb.out).mono ?_
  rintro e w' ⟨rfl, hb⟩
  replace H_a := Aside0.mk (Kd.C_below H_a.out hb)
  replace H_b := Aside0.mk (Kd.C_below H_b.out hb)
  replace H_c := Aside0.mk (Kd.C_below H_c.out hb)
  replace HB := Aside0.mk (below_step HB.out hb)
  clear hb
  go_wp2_with fail
  refine (pannierref08_May.tc _ _ lc _ H_c.out K_c.out HLc.out HMc.out).mono ?_
  rintro e w' ⟨rfl, hb⟩
  replace H_a := Aside0.mk (Kd.C_below H_a.out hb)
  replace H_b := Aside0.mk (Kd.C_below H_b.out hb)
  replace H_c := Aside0.mk (Kd.C_below H_c.out hb)
  replace HB := Aside0.mk (below_step HB.out hb)
  clear hb
  go_wp2_with fail
  refine (vv_Merge.tc _ _ la _ _ lb _ H_a.out K_a.out H_b.out K_b.out HLa.out HLb.out).mono ?_
  rintro e w' ⟨A_m, c_m, rfl, hk, hr, hb⟩
  have K_m := Aside0.mk hk
  have H_m := Aside0.mk hr
  clear hk hr
  replace H_a := Aside0.mk (Kd.C_below H_a.out hb)
  replace H_b := Aside0.mk (Kd.C_below H_b.out hb)
  replace H_c := Aside0.mk (Kd.C_below H_c.out hb)
  replace HB := Aside0.mk (below_step HB.out hb)
  clear hb
  go_wp2_with fail
  refine (vv_Meet.tc _ _ la _ _ lb _ H_a.out K_a.out H_b.out K_b.out HLa.out HLb.out).mono ?_
  rintro e w' ⟨A_n, c_n, rfl, hk, hr, hb⟩
  have K_n := Aside0.mk hk
  have H_n := Aside0.mk hr
  clear hk hr
  replace H_a := Aside0.mk (Kd.C_below H_a.out hb)
  replace H_b := Aside0.mk (Kd.C_below H_b.out hb)
  replace H_c := Aside0.mk (Kd.C_below H_c.out hb)
  replace H_m := Aside0.mk (Kd.C_below H_m.out hb)
  replace HB := Aside0.mk (below_step HB.out hb)
  clear hb
  go_wp2_with fail
  refine (vv_Merge.tc _ _ lb _ _ la _ H_b.out K_b.out H_a.out K_a.out HLb.out HLa.out).mono ?_
  rintro e w' ⟨A_x, c_x, rfl, hk, hr, hb⟩
  have K_x := Aside0.mk hk
  have H_x := Aside0.mk hr
  clear hk hr
  replace H_a := Aside0.mk (Kd.C_below H_a.out hb)
  replace H_b := Aside0.mk (Kd.C_below H_b.out hb)
  replace H_c := Aside0.mk (Kd.C_below H_c.out hb)
  replace H_m := Aside0.mk (Kd.C_below H_m.out hb)
  replace H_n := Aside0.mk (Kd.C_below H_n.out hb)
  replace HB := Aside0.mk (below_step HB.out hb)
  clear hb
  go_wp2_with fail
  refine (pannierlaw08_Same.tc _ _ (mergeL la lb) _ _ (mergeL lb la) _ H_m.out K_m.out H_x.out K_x.out (len_merge HLa.out HLb.out) (decide_eq_true (merge_comm _ _))).mono ?_
  rintro e w' ⟨rfl, hb⟩
  replace H_a := Aside0.mk (Kd.C_below H_a.out hb)
  replace H_b := Aside0.mk (Kd.C_below H_b.out hb)
  replace H_c := Aside0.mk (Kd.C_below H_c.out hb)
  replace H_m := Aside0.mk (Kd.C_below H_m.out hb)
  replace H_n := Aside0.mk (Kd.C_below H_n.out hb)
  replace H_x := Aside0.mk (Kd.C_below H_x.out hb)
  replace HB := Aside0.mk (below_step HB.out hb)
  clear hb
  clear H_x K_x
  go_wp2_with fail
  refine (vv_Meet.tc _ _ lb _ _ la _ H_b.out K_b.out H_a.out K_a.out HLb.out HLa.out).mono ?_
  rintro e w' ⟨A_x, c_x, rfl, hk, hr, hb⟩
  have K_x := Aside0.mk hk
  have H_x := Aside0.mk hr
  clear hk hr
  replace H_a := Aside0.mk (Kd.C_below H_a.out hb)
  replace H_b := Aside0.mk (Kd.C_below H_b.out hb)
  replace H_c := Aside0.mk (Kd.C_below H_c.out hb)
  replace H_m := Aside0.mk (Kd.C_below H_m.out hb)
  replace H_n := Aside0.mk (Kd.C_below H_n.out hb)
  replace HB := Aside0.mk (below_step HB.out hb)
  clear hb
  go_wp2_with fail
  refine (pannierlaw08_Same.tc _ _ (meetL la lb) _ _ (meetL lb la) _ H_n.out K_n.out H_x.out K_x.out (len_meet HLa.out HLb.out) (decide_eq_true (meet_comm _ _))).mono ?_
  rintro e w' ⟨rfl, hb⟩
  replace H_a := Aside0.mk (Kd.C_below H_a.out hb)
  replace H_b := Aside0.mk (Kd.C_below H_b.out hb)
  replace H_c := Aside0.mk (Kd.C_below H_c.out hb)
  replace H_m := Aside0.mk (Kd.C_below H_m.out hb)
  replace H_n := Aside0.mk (Kd.C_below H_n.out hb)
  replace H_x := Aside0.mk (Kd.C_below H_x.out hb)
  replace HB := Aside0.mk (below_step HB.out hb)
  clear hb
  clear H_x K_x
  go_wp2_with fail
  refine (vv_Merge.tc _ _ la _ _ la _ H_a.out K_a.out H_a.out K_a.out HLa.out HLa.out).mono ?_
  rintro e w' ⟨A_x, c_x, rfl, hk, hr, hb⟩
  have K_x := Aside0.mk hk
  have H_x := Aside0.mk hr
  clear hk hr
  replace H_a := Aside0.mk (Kd.C_below H_a.out hb)
  replace H_b := Aside0.mk (Kd.C_below H_b.out hb)
  replace H_c := Aside0.mk (Kd.C_below H_c.out hb)
  replace H_m := Aside0.mk (Kd.C_below H_m.out hb)
  replace H_n := Aside0.mk (Kd.C_below H_n.out hb)
  replace HB := Aside0.mk (below_step HB.out hb)
  clear hb
  go_wp2_with fail
  refine (vv_Plain.tc _ _ la _ H_a.out K_a.out HLa.out).mono ?_
  rintro e w' ⟨A_y, c_y, rfl, hk, hr, hb⟩
  have K_y := Aside0.mk hk
  have H_y := Aside0.mk hr
  clear hk hr
  replace H_a := Aside0.mk (Kd.C_below H_a.out hb)
  replace H_b := Aside0.mk (Kd.C_below H_b.out hb)
  replace H_c := Aside0.mk (Kd.C_below H_c.out hb)
  replace H_m := Aside0.mk (Kd.C_below H_m.out hb)
  replace H_n := Aside0.mk (Kd.C_below H_n.out hb)
  replace H_x := Aside0.mk (Kd.C_below H_x.out hb)
  replace HB := Aside0.mk (below_step HB.out hb)
  clear hb
  go_wp2_with fail
  refine (pannierlaw08_Same.tc _ _ (mergeL la la) _ _ (plainL la) _ H_x.out K_x.out H_y.out K_y.out (len_merge HLa.out HLa.out) (decide_eq_true (merge_self _))).mono ?_
  rintro e w' ⟨rfl, hb⟩
  replace H_a := Aside0.mk (Kd.C_below H_a.out hb)
  replace H_b := Aside0.mk (Kd.C_below H_b.out hb)
  replace H_c := Aside0.mk (Kd.C_below H_c.out hb)
  replace H_m := Aside0.mk (Kd.C_below H_m.out hb)
  replace H_n := Aside0.mk (Kd.C_below H_n.out hb)
  replace H_x := Aside0.mk (Kd.C_below H_x.out hb)
  replace H_y := Aside0.mk (Kd.C_below H_y.out hb)
  replace HB := Aside0.mk (below_step HB.out hb)
  clear hb
  clear H_x K_x
  clear H_y K_y
  go_wp2_with fail
  refine (vv_Meet.tc _ _ la _ _ la _ H_a.out K_a.out H_a.out K_a.out HLa.out HLa.out).mono ?_
  rintro e w' ⟨A_x, c_x, rfl, hk, hr, hb⟩
  have K_x := Aside0.mk hk
  have H_x := Aside0.mk hr
  clear hk hr
  replace H_a := Aside0.mk (Kd.C_below H_a.out hb)
  replace H_b := Aside0.mk (Kd.C_below H_b.out hb)
  replace H_c := Aside0.mk (Kd.C_below H_c.out hb)
  replace H_m := Aside0.mk (Kd.C_below H_m.out hb)
  replace H_n := Aside0.mk (Kd.C_below H_n.out hb)
  replace HB := Aside0.mk (below_step HB.out hb)
  clear hb
  go_wp2_with fail
  refine (vv_Plain.tc _ _ la _ H_a.out K_a.out HLa.out).mono ?_
  rintro e w' ⟨A_y, c_y, rfl, hk, hr, hb⟩
  have K_y := Aside0.mk hk
  have H_y := Aside0.mk hr
  clear hk hr
  replace H_a := Aside0.mk (Kd.C_below H_a.out hb)
  replace H_b := Aside0.mk (Kd.C_below H_b.out hb)
  replace H_c := Aside0.mk (Kd.C_below H_c.out hb)
  replace H_m := Aside0.mk (Kd.C_below H_m.out hb)
  replace H_n := Aside0.mk (Kd.C_below H_n.out hb)
  replace H_x := Aside0.mk (Kd.C_below H_x.out hb)
  replace HB := Aside0.mk (below_step HB.out hb)
  clear hb
  go_wp2_with fail
  refine (pannierlaw08_Same.tc _ _ (meetL la la) _ _ (plainL la) _ H_x.out K_x.out H_y.out K_y.out (len_meet HLa.out HLa.out) (decide_eq_true (meet_self _))).mono ?_
  rintro e w' ⟨rfl, hb⟩
  replace H_a := Aside0.mk (Kd.C_below H_a.out hb)
  replace H_b := Aside0.mk (Kd.C_below H_b.out hb)
  replace H_c := Aside0.mk (Kd.C_below H_c.out hb)
  replace H_m := Aside0.mk (Kd.C_below H_m.out hb)
  replace H_n := Aside0.mk (Kd.C_below H_n.out hb)
  replace H_x := Aside0.mk (Kd.C_below H_x.out hb)
  replace H_y := Aside0.mk (Kd.C_below H_y.out hb)
  replace HB := Aside0.mk (below_step HB.out hb)
  clear hb
  clear H_x K_x
  clear H_y K_y
  go_wp2_with fail
  refine (vv_Merge.tc _ _ (mergeL la lb) _ _ lc _ H_m.out K_m.out H_c.out K_c.out (len_merge HLa.out HLb.out) HLc.out).mono ?_
  rintro e w' ⟨A_x, c_x, rfl, hk, hr, hb⟩
  have K_x := Aside0.mk hk
  have H_x := Aside0.mk hr
  clear hk hr
  replace H_a := Aside0.mk (Kd.C_below H_a.out hb)
  replace H_b := Aside0.mk (Kd.C_below H_b.out hb)
  replace H_c := Aside0.mk (Kd.C_below H_c.out hb)
  replace H_m := Aside0.mk (Kd.C_below H_m.out hb)
  replace H_n := Aside0.mk (Kd.C_below H_n.out hb)
  replace HB := Aside0.mk (below_step HB.out hb)
  clear hb
  go_wp2_with fail
  refine (vv_Merge.tc _ _ lb _ _ lc _ H_b.out K_b.out H_c.out K_c.out HLb.out HLc.out).mono ?_
  rintro e w' ⟨A_y, c_y, rfl, hk, hr, hb⟩
  have K_y := Aside0.mk hk
  have H_y := Aside0.mk hr
  clear hk hr
  replace H_a := Aside0.mk (Kd.C_below H_a.out hb)
  replace H_b := Aside0.mk (Kd.C_below H_b.out hb)
  replace H_c := Aside0.mk (Kd.C_below H_c.out hb)
  replace H_m := Aside0.mk (Kd.C_below H_m.out hb)
  replace H_n := Aside0.mk (Kd.C_below H_n.out hb)
  replace H_x := Aside0.mk (Kd.C_below H_x.out hb)
  replace HB := Aside0.mk (below_step HB.out hb)
  clear hb
  go_wp2_with fail
  refine (vv_Merge.tc _ _ la _ _ (mergeL lb lc) _ H_a.out K_a.out H_y.out K_y.out HLa.out (len_merge HLb.out HLc.out)).mono ?_
  rintro e w' ⟨A_z, c_z, rfl, hk, hr, hb⟩
  have K_z := Aside0.mk hk
  have H_z := Aside0.mk hr
  clear hk hr
  replace H_a := Aside0.mk (Kd.C_below H_a.out hb)
  replace H_b := Aside0.mk (Kd.C_below H_b.out hb)
  replace H_c := Aside0.mk (Kd.C_below H_c.out hb)
  replace H_m := Aside0.mk (Kd.C_below H_m.out hb)
  replace H_n := Aside0.mk (Kd.C_below H_n.out hb)
  replace H_x := Aside0.mk (Kd.C_below H_x.out hb)
  replace H_y := Aside0.mk (Kd.C_below H_y.out hb)
  replace HB := Aside0.mk (below_step HB.out hb)
  clear hb
  go_wp2_with fail
  refine (pannierlaw08_Same.tc _ _ (mergeL (mergeL la lb) lc) _ _ (mergeL la (mergeL lb lc)) _ H_x.out K_x.out H_z.out K_z.out (len_merge (len_merge HLa.out HLb.out) HLc.out) (decide_eq_true (merge_assoc _ _ _))).mono ?_
  rintro e w' ⟨rfl, hb⟩
  replace H_a := Aside0.mk (Kd.C_below H_a.out hb)
  replace H_b := Aside0.mk (Kd.C_below H_b.out hb)
  replace H_c := Aside0.mk (Kd.C_below H_c.out hb)
  replace H_m := Aside0.mk (Kd.C_below H_m.out hb)
  replace H_n := Aside0.mk (Kd.C_below H_n.out hb)
  replace H_x := Aside0.mk (Kd.C_below H_x.out hb)
  replace H_y := Aside0.mk (Kd.C_below H_y.out hb)
  replace H_z := Aside0.mk (Kd.C_below H_z.out hb)
  replace HB := Aside0.mk (below_step HB.out hb)
  clear hb
  clear H_x K_x
  clear H_y K_y
  clear H_z K_z
  go_wp2_with fail
  refine (vv_Meet.tc _ _ (meetL la lb) _ _ lc _ H_n.out K_n.out H_c.out K_c.out (len_meet HLa.out HLb.out) HLc.out).mono ?_
  rintro e w' ⟨A_x, c_x, rfl, hk, hr, hb⟩
  have K_x := Aside0.mk hk
  have H_x := Aside0.mk hr
  clear hk hr
  replace H_a := Aside0.mk (Kd.C_below H_a.out hb)
  replace H_b := Aside0.mk (Kd.C_below H_b.out hb)
  replace H_c := Aside0.mk (Kd.C_below H_c.out hb)
  replace H_m := Aside0.mk (Kd.C_below H_m.out hb)
  replace H_n := Aside0.mk (Kd.C_below H_n.out hb)
  replace HB := Aside0.mk (below_step HB.out hb)
  clear hb
  go_wp2_with fail
  refine (vv_Meet.tc _ _ lb _ _ lc _ H_b.out K_b.out H_c.out K_c.out HLb.out HLc.out).mono ?_
  rintro e w' ⟨A_y, c_y, rfl, hk, hr, hb⟩
  have K_y := Aside0.mk hk
  have H_y := Aside0.mk hr
  clear hk hr
  replace H_a := Aside0.mk (Kd.C_below H_a.out hb)
  replace H_b := Aside0.mk (Kd.C_below H_b.out hb)
  replace H_c := Aside0.mk (Kd.C_below H_c.out hb)
  replace H_m := Aside0.mk (Kd.C_below H_m.out hb)
  replace H_n := Aside0.mk (Kd.C_below H_n.out hb)
  replace H_x := Aside0.mk (Kd.C_below H_x.out hb)
  replace HB := Aside0.mk (below_step HB.out hb)
  clear hb
  go_wp2_with fail
  refine (vv_Meet.tc _ _ la _ _ (meetL lb lc) _ H_a.out K_a.out H_y.out K_y.out HLa.out (len_meet HLb.out HLc.out)).mono ?_
  rintro e w' ⟨A_z, c_z, rfl, hk, hr, hb⟩
  have K_z := Aside0.mk hk
  have H_z := Aside0.mk hr
  clear hk hr
  replace H_a := Aside0.mk (Kd.C_below H_a.out hb)
  replace H_b := Aside0.mk (Kd.C_below H_b.out hb)
  replace H_c := Aside0.mk (Kd.C_below H_c.out hb)
  replace H_m := Aside0.mk (Kd.C_below H_m.out hb)
  replace H_n := Aside0.mk (Kd.C_below H_n.out hb)
  replace H_x := Aside0.mk (Kd.C_below H_x.out hb)
  replace H_y := Aside0.mk (Kd.C_below H_y.out hb)
  replace HB := Aside0.mk (below_step HB.out hb)
  clear hb
  go_wp2_with fail
  refine (pannierlaw08_Same.tc _ _ (meetL (meetL la lb) lc) _ _ (meetL la (meetL lb lc)) _ H_x.out K_x.out H_z.out K_z.out (len_meet (len_meet HLa.out HLb.out) HLc.out) (decide_eq_true (meet_assoc _ _ _))).mono ?_
  rintro e w' ⟨rfl, hb⟩
  replace H_a := Aside0.mk (Kd.C_below H_a.out hb)
  replace H_b := Aside0.mk (Kd.C_below H_b.out hb)
  replace H_c := Aside0.mk (Kd.C_below H_c.out hb)
  replace H_m := Aside0.mk (Kd.C_below H_m.out hb)
  replace H_n := Aside0.mk (Kd.C_below H_n.out hb)
  replace H_x := Aside0.mk (Kd.C_below H_x.out hb)
  replace H_y := Aside0.mk (Kd.C_below H_y.out hb)
  replace H_z := Aside0.mk (Kd.C_below H_z.out hb)
  replace HB := Aside0.mk (below_step HB.out hb)
  clear hb
  clear H_x K_x
  clear H_y K_y
  clear H_z K_z
  go_wp2_with fail
  refine (vv_Meet.tc _ _ la _ _ (mergeL la lb) _ H_a.out K_a.out H_m.out K_m.out HLa.out (len_merge HLa.out HLb.out)).mono ?_
  rintro e w' ⟨A_x, c_x, rfl, hk, hr, hb⟩
  have K_x := Aside0.mk hk
  have H_x := Aside0.mk hr
  clear hk hr
  replace H_a := Aside0.mk (Kd.C_below H_a.out hb)
  replace H_b := Aside0.mk (Kd.C_below H_b.out hb)
  replace H_c := Aside0.mk (Kd.C_below H_c.out hb)
  replace H_m := Aside0.mk (Kd.C_below H_m.out hb)
  replace H_n := Aside0.mk (Kd.C_below H_n.out hb)
  replace HB := Aside0.mk (below_step HB.out hb)
  clear hb
  go_wp2_with fail
  refine (vv_Plain.tc _ _ la _ H_a.out K_a.out HLa.out).mono ?_
  rintro e w' ⟨A_y, c_y, rfl, hk, hr, hb⟩
  have K_y := Aside0.mk hk
  have H_y := Aside0.mk hr
  clear hk hr
  replace H_a := Aside0.mk (Kd.C_below H_a.out hb)
  replace H_b := Aside0.mk (Kd.C_below H_b.out hb)
  replace H_c := Aside0.mk (Kd.C_below H_c.out hb)
  replace H_m := Aside0.mk (Kd.C_below H_m.out hb)
  replace H_n := Aside0.mk (Kd.C_below H_n.out hb)
  replace H_x := Aside0.mk (Kd.C_below H_x.out hb)
  replace HB := Aside0.mk (below_step HB.out hb)
  clear hb
  go_wp2_with fail
  refine (pannierlaw08_Same.tc _ _ (meetL la (mergeL la lb)) _ _ (plainL la) _ H_x.out K_x.out H_y.out K_y.out (len_meet HLa.out (len_merge HLa.out HLb.out)) (decide_eq_true (meet_merge _ _))).mono ?_
  rintro e w' ⟨rfl, hb⟩
  replace H_a := Aside0.mk (Kd.C_below H_a.out hb)
  replace H_b := Aside0.mk (Kd.C_below H_b.out hb)
  replace H_c := Aside0.mk (Kd.C_below H_c.out hb)
  replace H_m := Aside0.mk (Kd.C_below H_m.out hb)
  replace H_n := Aside0.mk (Kd.C_below H_n.out hb)
  replace H_x := Aside0.mk (Kd.C_below H_x.out hb)
  replace H_y := Aside0.mk (Kd.C_below H_y.out hb)
  replace HB := Aside0.mk (below_step HB.out hb)
  clear hb
  clear H_x K_x
  clear H_y K_y
  go_wp2_with fail
  refine (vv_Merge.tc _ _ la _ _ (meetL la lb) _ H_a.out K_a.out H_n.out K_n.out HLa.out (len_meet HLa.out HLb.out)).mono ?_
  rintro e w' ⟨A_x, c_x, rfl, hk, hr, hb⟩
  have K_x := Aside0.mk hk
  have H_x := Aside0.mk hr
  clear hk hr
  replace H_a := Aside0.mk (Kd.C_below H_a.out hb)
  replace H_b := Aside0.mk (Kd.C_below H_b.out hb)
  replace H_c := Aside0.mk (Kd.C_below H_c.out hb)
  replace H_m := Aside0.mk (Kd.C_below H_m.out hb)
  replace H_n := Aside0.mk (Kd.C_below H_n.out hb)
  replace HB := Aside0.mk (below_step HB.out hb)
  clear hb
  go_wp2_with fail
  refine (vv_Plain.tc _ _ la _ H_a.out K_a.out HLa.out).mono ?_
  rintro e w' ⟨A_y, c_y, rfl, hk, hr, hb⟩
  have K_y := Aside0.mk hk
  have H_y := Aside0.mk hr
  clear hk hr
  replace H_a := Aside0.mk (Kd.C_below H_a.out hb)
  replace H_b := Aside0.mk (Kd.C_below H_b.out hb)
  replace H_c := Aside0.mk (Kd.C_below H_c.out hb)
  replace H_m := Aside0.mk (Kd.C_below H_m.out hb)
  replace H_n := Aside0.mk (Kd.C_below H_n.out hb)
  replace H_x := Aside0.mk (Kd.C_below H_x.out hb)
  replace HB := Aside0.mk (below_step HB.out hb)
  clear hb
  go_wp2_with fail
  refine (pannierlaw08_Same.tc _ _ (mergeL la (meetL la lb)) _ _ (plainL la) _ H_x.out K_x.out H_y.out K_y.out (len_merge HLa.out (len_meet HLa.out HLb.out)) (decide_eq_true (merge_meet _ _))).mono ?_
  rintro e w' ⟨rfl, hb⟩
  replace H_a := Aside0.mk (Kd.C_below H_a.out hb)
  replace H_b := Aside0.mk (Kd.C_below H_b.out hb)
  replace H_c := Aside0.mk (Kd.C_below H_c.out hb)
  replace H_m := Aside0.mk (Kd.C_below H_m.out hb)
  replace H_n := Aside0.mk (Kd.C_below H_n.out hb)
  replace H_x := Aside0.mk (Kd.C_below H_x.out hb)
  replace H_y := Aside0.mk (Kd.C_below H_y.out hb)
  replace HB := Aside0.mk (below_step HB.out hb)
  clear hb
  clear H_x K_x
  clear H_y K_y
  go_wp2_with fail
  refine (vv_Below.tc _ _ la _ _ (mergeL la lb) _ H_a.out K_a.out H_m.out K_m.out HLa.out (len_merge HLa.out HLb.out) (below_merge _ _)).mono ?_
  rintro e w' ⟨rfl, hb⟩
  replace H_a := Aside0.mk (Kd.C_below H_a.out hb)
  replace H_b := Aside0.mk (Kd.C_below H_b.out hb)
  replace H_c := Aside0.mk (Kd.C_below H_c.out hb)
  replace H_m := Aside0.mk (Kd.C_below H_m.out hb)
  replace H_n := Aside0.mk (Kd.C_below H_n.out hb)
  replace HB := Aside0.mk (below_step HB.out hb)
  clear hb
  go_wp2_with fail
  refine (vv_Below.tc _ _ lb _ _ (mergeL la lb) _ H_b.out K_b.out H_m.out K_m.out HLb.out (len_merge HLa.out HLb.out) (below_merge' _ _)).mono ?_
  rintro e w' ⟨rfl, hb⟩
  replace H_a := Aside0.mk (Kd.C_below H_a.out hb)
  replace H_b := Aside0.mk (Kd.C_below H_b.out hb)
  replace H_c := Aside0.mk (Kd.C_below H_c.out hb)
  replace H_m := Aside0.mk (Kd.C_below H_m.out hb)
  replace H_n := Aside0.mk (Kd.C_below H_n.out hb)
  replace HB := Aside0.mk (below_step HB.out hb)
  clear hb
  go_wp2_with fail
  refine (vv_Below.tc _ _ (meetL la lb) _ _ la _ H_n.out K_n.out H_a.out K_a.out (len_meet HLa.out HLb.out) HLa.out (meet_below _ _)).mono ?_
  rintro e w' ⟨rfl, hb⟩
  replace H_a := Aside0.mk (Kd.C_below H_a.out hb)
  replace H_b := Aside0.mk (Kd.C_below H_b.out hb)
  replace H_c := Aside0.mk (Kd.C_below H_c.out hb)
  replace H_m := Aside0.mk (Kd.C_below H_m.out hb)
  replace H_n := Aside0.mk (Kd.C_below H_n.out hb)
  replace HB := Aside0.mk (below_step HB.out hb)
  clear hb
  go_wp2_with fail
  refine (vv_Below.tc _ _ (meetL la lb) _ _ lb _ H_n.out K_n.out H_b.out K_b.out (len_meet HLa.out HLb.out) HLb.out (meet_below' _ _)).mono ?_
  rintro e w' ⟨rfl, hb⟩
  replace H_a := Aside0.mk (Kd.C_below H_a.out hb)
  replace H_b := Aside0.mk (Kd.C_below H_b.out hb)
  replace H_c := Aside0.mk (Kd.C_below H_c.out hb)
  replace H_m := Aside0.mk (Kd.C_below H_m.out hb)
  replace H_n := Aside0.mk (Kd.C_below H_n.out hb)
  replace HB := Aside0.mk (below_step HB.out hb)
  clear hb
  go_wp2_with fail
  refine (vv_Below.tc _ _ la _ _ lc _ H_a.out K_a.out H_c.out K_c.out HLa.out HLc.out HP1.out).mono ?_
  rintro e w' ⟨rfl, hb⟩
  replace H_a := Aside0.mk (Kd.C_below H_a.out hb)
  replace H_b := Aside0.mk (Kd.C_below H_b.out hb)
  replace H_c := Aside0.mk (Kd.C_below H_c.out hb)
  replace H_m := Aside0.mk (Kd.C_below H_m.out hb)
  replace H_n := Aside0.mk (Kd.C_below H_n.out hb)
  replace HB := Aside0.mk (below_step HB.out hb)
  clear hb
  rcases hq : belowB lc la with _ | _
  · have HQ1 := Aside0.mk hq
    clear hq
    go_wp2_with fail
    refine (vv_Below.tc _ _ lc _ _ la _ H_c.out K_c.out H_a.out K_a.out HLc.out HLa.out HQ1.out).mono ?_
    rintro e w' ⟨rfl, hb⟩
    replace H_a := Aside0.mk (Kd.C_below H_a.out hb)
    replace H_b := Aside0.mk (Kd.C_below H_b.out hb)
    replace H_c := Aside0.mk (Kd.C_below H_c.out hb)
    replace H_m := Aside0.mk (Kd.C_below H_m.out hb)
    replace H_n := Aside0.mk (Kd.C_below H_n.out hb)
    replace HB := Aside0.mk (below_step HB.out hb)
    clear hb
    go_wp2_with fail
    refine (vv_Below.tc _ _ la _ _ lb _ H_a.out K_a.out H_b.out K_b.out HLa.out HLb.out rfl).mono ?_
    rintro e w' ⟨rfl, hb⟩
    replace H_a := Aside0.mk (Kd.C_below H_a.out hb)
    replace H_b := Aside0.mk (Kd.C_below H_b.out hb)
    replace H_c := Aside0.mk (Kd.C_below H_c.out hb)
    replace H_m := Aside0.mk (Kd.C_below H_m.out hb)
    replace H_n := Aside0.mk (Kd.C_below H_n.out hb)
    replace HB := Aside0.mk (below_step HB.out hb)
    clear hb
    go_wp2_with fail
    refine (vv_Plain.tc _ _ lb _ H_b.out K_b.out HLb.out).mono ?_
    rintro e w' ⟨A_x, c_x, rfl, hk, hr, hb⟩
    have K_x := Aside0.mk hk
    have H_x := Aside0.mk hr
    clear hk hr
    replace H_a := Aside0.mk (Kd.C_below H_a.out hb)
    replace H_b := Aside0.mk (Kd.C_below H_b.out hb)
    replace H_c := Aside0.mk (Kd.C_below H_c.out hb)
    replace H_m := Aside0.mk (Kd.C_below H_m.out hb)
    replace H_n := Aside0.mk (Kd.C_below H_n.out hb)
    replace HB := Aside0.mk (below_step HB.out hb)
    clear hb
    go_wp2_with fail
    refine (pannierlaw08_Same.tc _ _ (mergeL la lb) _ _ (plainL lb) _ H_m.out K_m.out H_x.out K_x.out (len_merge HLa.out HLb.out) (below_is_merge _ _)).mono ?_
    rintro e w' ⟨rfl, hb⟩
    replace H_a := Aside0.mk (Kd.C_below H_a.out hb)
    replace H_b := Aside0.mk (Kd.C_below H_b.out hb)
    replace H_c := Aside0.mk (Kd.C_below H_c.out hb)
    replace H_m := Aside0.mk (Kd.C_below H_m.out hb)
    replace H_n := Aside0.mk (Kd.C_below H_n.out hb)
    replace H_x := Aside0.mk (Kd.C_below H_x.out hb)
    replace HB := Aside0.mk (below_step HB.out hb)
    clear hb
    clear H_x K_x
    go_wp2_with fail
    refine (vv_Below.tc _ _ la _ _ lb _ H_a.out K_a.out H_b.out K_b.out HLa.out HLb.out rfl).mono ?_
    rintro e w' ⟨rfl, hb⟩
    replace H_a := Aside0.mk (Kd.C_below H_a.out hb)
    replace H_b := Aside0.mk (Kd.C_below H_b.out hb)
    replace H_c := Aside0.mk (Kd.C_below H_c.out hb)
    replace H_m := Aside0.mk (Kd.C_below H_m.out hb)
    replace H_n := Aside0.mk (Kd.C_below H_n.out hb)
    replace HB := Aside0.mk (below_step HB.out hb)
    clear hb
    go_wp2_with fail
    refine (vv_Plain.tc _ _ la _ H_a.out K_a.out HLa.out).mono ?_
    rintro e w' ⟨A_x, c_x, rfl, hk, hr, hb⟩
    have K_x := Aside0.mk hk
    have H_x := Aside0.mk hr
    clear hk hr
    replace H_a := Aside0.mk (Kd.C_below H_a.out hb)
    replace H_b := Aside0.mk (Kd.C_below H_b.out hb)
    replace H_c := Aside0.mk (Kd.C_below H_c.out hb)
    replace H_m := Aside0.mk (Kd.C_below H_m.out hb)
    replace H_n := Aside0.mk (Kd.C_below H_n.out hb)
    replace HB := Aside0.mk (below_step HB.out hb)
    clear hb
    go_wp2_with fail
    refine (pannierlaw08_Same.tc _ _ (meetL la lb) _ _ (plainL la) _ H_n.out K_n.out H_x.out K_x.out (len_meet HLa.out HLb.out) (below_is_meet _ _)).mono ?_
    rintro e w' ⟨rfl, hb⟩
    replace H_a := Aside0.mk (Kd.C_below H_a.out hb)
    replace H_b := Aside0.mk (Kd.C_below H_b.out hb)
    replace H_c := Aside0.mk (Kd.C_below H_c.out hb)
    replace H_m := Aside0.mk (Kd.C_below H_m.out hb)
    replace H_n := Aside0.mk (Kd.C_below H_n.out hb)
    replace H_x := Aside0.mk (Kd.C_below H_x.out hb)
    replace HB := Aside0.mk (below_step HB.out hb)
    clear hb
    clear H_x K_x
    go_wp2
    go_ret
    exact ⟨by simp, HB.out⟩
  · have HQ1 := Aside0.mk hq
    clear hq
    go_wp2_with fail
    refine (vv_Below.tc _ _ lc _ _ la _ H_c.out K_c.out H_a.out K_a.out HLc.out HLa.out HQ1.out).mono ?_
    rintro e w' ⟨rfl, hb⟩
    replace H_a := Aside0.mk (Kd.C_below H_a.out hb)
    replace H_b := Aside0.mk (Kd.C_below H_b.out hb)
    replace H_c := Aside0.mk (Kd.C_below H_c.out hb)
    replace H_m := Aside0.mk (Kd.C_below H_m.out hb)
    replace H_n := Aside0.mk (Kd.C_below H_n.out hb)
    replace HB := Aside0.mk (below_step HB.out hb)
    clear hb
    rcases hq : belowB lc lb with _ | _
    · have HQ2 := Aside0.mk hq
      clear hq
      go_wp2_with fail
      refine (vv_Below.tc _ _ lc _ _ lb _ H_c.out K_c.out H_b.out K_b.out HLc.out HLb.out HQ2.out).mono ?_
      rintro e w' ⟨rfl, hb⟩
      replace H_a := Aside0.mk (Kd.C_below H_a.out hb)
      replace H_b := Aside0.mk (Kd.C_below H_b.out hb)
      replace H_c := Aside0.mk (Kd.C_below H_c.out hb)
      replace H_m := Aside0.mk (Kd.C_below H_m.out hb)
      replace H_n := Aside0.mk (Kd.C_below H_n.out hb)
      replace HB := Aside0.mk (below_step HB.out hb)
      clear hb
      go_wp2_with fail
      refine (vv_Below.tc _ _ la _ _ lb _ H_a.out K_a.out H_b.out K_b.out HLa.out HLb.out rfl).mono ?_
      rintro e w' ⟨rfl, hb⟩
      replace H_a := Aside0.mk (Kd.C_below H_a.out hb)
      replace H_b := Aside0.mk (Kd.C_below H_b.out hb)
      replace H_c := Aside0.mk (Kd.C_below H_c.out hb)
      replace H_m := Aside0.mk (Kd.C_below H_m.out hb)
      replace H_n := Aside0.mk (Kd.C_below H_n.out hb)
      replace HB := Aside0.mk (below_step HB.out hb)
      clear hb
      go_wp2_with fail
      refine (vv_Plain.tc _ _ lb _ H_b.out K_b.out HLb.out).mono ?_
      rintro e w' ⟨A_x, c_x, rfl, hk, hr, hb⟩
      have K_x := Aside0.mk hk
      have H_x := Aside0.mk hr
      clear hk hr
      replace H_a := Aside0.mk (Kd.C_below H_a.out hb)
      replace H_b := Aside0.mk (Kd.C_below H_b.out hb)
      replace H_c := Aside0.mk (Kd.C_below H_c.out hb)
      replace H_m := Aside0.mk (Kd.C_below H_m.out hb)
      replace H_n := Aside0.mk (Kd.C_below H_n.out hb)
      replace HB := Aside0.mk (below_step HB.out hb)
      clear hb
      go_wp2_with fail
      refine (pannierlaw08_Same.tc _ _ (mergeL la lb) _ _ (plainL lb) _ H_m.out K_m.out H_x.out K_x.out (len_merge HLa.out HLb.out) (below_is_merge _ _)).mono ?_
      rintro e w' ⟨rfl, hb⟩
      replace H_a := Aside0.mk (Kd.C_below H_a.out hb)
      replace H_b := Aside0.mk (Kd.C_below H_b.out hb)
      replace H_c := Aside0.mk (Kd.C_below H_c.out hb)
      replace H_m := Aside0.mk (Kd.C_below H_m.out hb)
      replace H_n := Aside0.mk (Kd.C_below H_n.out hb)
      replace H_x := Aside0.mk (Kd.C_below H_x.out hb)
      replace HB := Aside0.mk (below_step HB.out hb)
      clear hb
      clear H_x K_x
      go_wp2_with fail
      refine (vv_Below.tc _ _ la _ _ lb _ H_a.out K_a.out H_b.out K_b.out HLa.out HLb.out rfl).mono ?_
      rintro e w' ⟨rfl, hb⟩
      replace H_a := Aside0.mk (Kd.C_below H_a.out hb)
      replace H_b := Aside0.mk (Kd.C_below H_b.out hb)
      replace H_c := Aside0.mk (Kd.C_below H_c.out hb)
      replace H_m := Aside0.mk (Kd.C_below H_m.out hb)
      replace H_n := Aside0.mk (Kd.C_below H_n.out hb)
      replace HB := Aside0.mk (below_step HB.out hb)
      clear hb
      go_wp2_with fail
      refine (vv_Plain.tc _ _ la _ H_a.out K_a.out HLa.out).mono ?_
      rintro e w' ⟨A_x, c_x, rfl, hk, hr, hb⟩
      have K_x := Aside0.mk hk
      have H_x := Aside0.mk hr
      clear hk hr
      replace H_a := Aside0.mk (Kd.C_below H_a.out hb)
      replace H_b := Aside0.mk (Kd.C_below H_b.out hb)
      replace H_c := Aside0.mk (Kd.C_below H_c.out hb)
      replace H_m := Aside0.mk (Kd.C_below H_m.out hb)
      replace H_n := Aside0.mk (Kd.C_below H_n.out hb)
      replace HB := Aside0.mk (below_step HB.out hb)
      clear hb
      go_wp2_with fail
      refine (pannierlaw08_Same.tc _ _ (meetL la lb) _ _ (plainL la) _ H_n.out K_n.out H_x.out K_x.out (len_meet HLa.out HLb.out) (below_is_meet _ _)).mono ?_
      rintro e w' ⟨rfl, hb⟩
      replace H_a := Aside0.mk (Kd.C_below H_a.out hb)
      replace H_b := Aside0.mk (Kd.C_below H_b.out hb)
      replace H_c := Aside0.mk (Kd.C_below H_c.out hb)
      replace H_m := Aside0.mk (Kd.C_below H_m.out hb)
      replace H_n := Aside0.mk (Kd.C_below H_n.out hb)
      replace H_x := Aside0.mk (Kd.C_below H_x.out hb)
      replace HB := Aside0.mk (below_step HB.out hb)
      clear hb
      clear H_x K_x
      go_wp2
      go_ret
      exact ⟨by simp, HB.out⟩
    · have HQ2 := Aside0.mk hq
      clear hq
      go_wp2_with fail
      refine (vv_Below.tc _ _ lc _ _ lb _ H_c.out K_c.out H_b.out K_b.out HLc.out HLb.out HQ2.out).mono ?_
      rintro e w' ⟨rfl, hb⟩
      replace H_a := Aside0.mk (Kd.C_below H_a.out hb)
      replace H_b := Aside0.mk (Kd.C_below H_b.out hb)
      replace H_c := Aside0.mk (Kd.C_below H_c.out hb)
      replace H_m := Aside0.mk (Kd.C_below H_m.out hb)
      replace H_n := Aside0.mk (Kd.C_below H_n.out hb)
      replace HB := Aside0.mk (below_step HB.out hb)
      clear hb
      go_wp2_with fail
      refine (vv_Below.tc _ _ lc _ _ (meetL la lb) _ H_c.out K_c.out H_n.out K_n.out HLc.out (len_meet HLa.out HLb.out) (meet_greatest HQ1.out HQ2.out)).mono ?_
      rintro e w' ⟨rfl, hb⟩
      replace H_a := Aside0.mk (Kd.C_below H_a.out hb)
      replace H_b := Aside0.mk (Kd.C_below H_b.out hb)
      replace H_c := Aside0.mk (Kd.C_below H_c.out hb)
      replace H_m := Aside0.mk (Kd.C_below H_m.out hb)
      replace H_n := Aside0.mk (Kd.C_below H_n.out hb)
      replace HB := Aside0.mk (below_step HB.out hb)
      clear hb
      go_wp2_with fail
      refine (vv_Below.tc _ _ la _ _ lb _ H_a.out K_a.out H_b.out K_b.out HLa.out HLb.out rfl).mono ?_
      rintro e w' ⟨rfl, hb⟩
      replace H_a := Aside0.mk (Kd.C_below H_a.out hb)
      replace H_b := Aside0.mk (Kd.C_below H_b.out hb)
      replace H_c := Aside0.mk (Kd.C_below H_c.out hb)
      replace H_m := Aside0.mk (Kd.C_below H_m.out hb)
      replace H_n := Aside0.mk (Kd.C_below H_n.out hb)
      replace HB := Aside0.mk (below_step HB.out hb)
      clear hb
      go_wp2_with fail
      refine (vv_Plain.tc _ _ lb _ H_b.out K_b.out HLb.out).mono ?_
      rintro e w' ⟨A_x, c_x, rfl, hk, hr, hb⟩
      have K_x := Aside0.mk hk
      have H_x := Aside0.mk hr
      clear hk hr
      replace H_a := Aside0.mk (Kd.C_below H_a.out hb)
      replace H_b := Aside0.mk (Kd.C_below H_b.out hb)
      replace H_c := Aside0.mk (Kd.C_below H_c.out hb)
      replace H_m := Aside0.mk (Kd.C_below H_m.out hb)
      replace H_n := Aside0.mk (Kd.C_below H_n.out hb)
      replace HB := Aside0.mk (below_step HB.out hb)
      clear hb
      go_wp2_with fail
      refine (pannierlaw08_Same.tc _ _ (mergeL la lb) _ _ (plainL lb) _ H_m.out K_m.out H_x.out K_x.out (len_merge HLa.out HLb.out) (below_is_merge _ _)).mono ?_
      rintro e w' ⟨rfl, hb⟩
      replace H_a := Aside0.mk (Kd.C_below H_a.out hb)
      replace H_b := Aside0.mk (Kd.C_below H_b.out hb)
      replace H_c := Aside0.mk (Kd.C_below H_c.out hb)
      replace H_m := Aside0.mk (Kd.C_below H_m.out hb)
      replace H_n := Aside0.mk (Kd.C_below H_n.out hb)
      replace H_x := Aside0.mk (Kd.C_below H_x.out hb)
      replace HB := Aside0.mk (below_step HB.out hb)
      clear hb
      clear H_x K_x
      go_wp2_with fail
      refine (vv_Below.tc _ _ la _ _ lb _ H_a.out K_a.out H_b.out K_b.out HLa.out HLb.out rfl).mono ?_
      rintro e w' ⟨rfl, hb⟩
      replace H_a := Aside0.mk (Kd.C_below H_a.out hb)
      replace H_b := Aside0.mk (Kd.C_below H_b.out hb)
      replace H_c := Aside0.mk (Kd.C_below H_c.out hb)
      replace H_m := Aside0.mk (Kd.C_below H_m.out hb)
      replace H_n := Aside0.mk (Kd.C_below H_n.out hb)
      replace HB := Aside0.mk (below_step HB.out hb)
      clear hb
      go_wp2_with fail
      refine (vv_Plain.tc _ _ la _ H_a.out K_a.out HLa.out).mono ?_
      rintro e w' ⟨A_x, c_x, rfl, hk, hr, hb⟩
      have K_x := Aside0.mk hk
      have H_x := Aside0.mk hr
      clear hk hr
      replace H_a := Aside0.mk (Kd.C_below H_a.out hb)
      replace H_b := Aside0.mk (Kd.C_below H_b.out hb)
      replace H_c := Aside0.mk (Kd.C_below H_c.out hb)
      replace H_m := Aside0.mk (Kd.C_below H_m.out hb)
      replace H_n := Aside0.mk (Kd.C_below H_n.out hb)
      replace HB := Aside0.mk (below_step HB.out hb)
      clear hb
      go_wp2_with fail
      refine (pannierlaw08_Same.tc _ _ (meetL la lb) _ _ (plainL la) _ H_n.out K_n.out H_x.out K_x.out (len_meet HLa.out HLb.out) (below_is_meet _ _)).mono ?_
      rintro e w' ⟨rfl, hb⟩
      replace H_a := Aside0.mk (Kd.C_below H_a.out hb)
      replace H_b := Aside0.mk (Kd.C_below H_b.out hb)
      replace H_c := Aside0.mk (Kd.C_below H_c.out hb)
      replace H_m := Aside0.mk (Kd.C_below H_m.out hb)
      replace H_n := Aside0.mk (Kd.C_below H_n.out hb)
      replace H_x := Aside0.mk (Kd.C_below H_x.out hb)
      replace HB := Aside0.mk (below_step HB.out hb)
      clear hb
      clear H_x K_x
      go_wp2
      go_ret
      exact ⟨by simp, HB.out⟩
set_option maxHeartbeats 4000000 in
set_option maxRecDepth 100000 in
theorem VvOrder.main1 (w : World) (A_a : Option Addr) (c_a : Nat) (la : List Int) (A_b : Option Addr) (c_b : Nat) (lb : List Int) (A_c : Option Addr) (c_c : Nat) (lc : List Int) (hra : Kd.C (Kd.int .i64) w A_a la.length la) (hka : la.length ≤ c_a) (hrb : Kd.C (Kd.int .i64) w A_b lb.length lb) (hkb : lb.length ≤ c_b) (hrc : Kd.C (Kd.int .i64) w A_c lc.length lc) (hkc : lc.length ≤ c_c) (hla : la.length < 17592186044416) (hlb : lb.length < 17592186044416) (hlc : lc.length < 17592186044416) (hma : mayB la = true) (hmb : mayB lb = true) (hmc : mayB lc = true) (hp1 : belowB la lc = true) (hp2 : belowB lb lc = false) :
    Calls Try.prog 4 #[.slice A_a la.length c_a, .slice A_b lb.length c_b, .slice A_c lc.length c_c] w fun e w' => e = .returned (.bool true) ∧ Below w.heap.size w w' := by
  have HMa := Aside0.mk hma
  clear hma
  have HMb := Aside0.mk hmb
  clear hmb
  have HMc := Aside0.mk hmc
  clear hmc
  have HP1 := Aside0.mk hp1
  clear hp1
  have HP2 := Aside0.mk hp2
  clear hp2
  have H_a := Aside0.mk hra
  have K_a := Aside0.mk hka
  have HLa := Aside0.mk hla
  clear hra hka hla
  have H_b := Aside0.mk hrb
  have K_b := Aside0.mk hkb
  have HLb := Aside0.mk hlb
  clear hrb hkb hlb
  have H_c := Aside0.mk hrc
  have K_c := Aside0.mk hkc
  have HLc := Aside0.mk hlc
  clear hrc hkc hlc
  have HB := Aside0.mk (Below.refl w.heap.size w)
  go_enter Try.func4, Try.ntmps4
  go_wp2_with fail
  refine (pannierlaw08_lives.calls true _ rfl).mono ?_
  rintro e w' ⟨rfl, hb⟩
  replace H_a := Aside0.mk (Kd.C_below H_a.out hb)
  replace H_b := Aside0.mk (Kd.C_below H_b.out hb)
  replace H_c := Aside0.mk (Kd.C_below H_c.out hb)
  replace HB := Aside0.mk (below_step HB.out hb)
  clear hb
  go_wp2_with fail
  refine (pannierref08_May.tc _ _ la _ H_a.out K_a.out HLa.out HMa.out).mono ?_
  rintro e w' ⟨rfl, hb⟩
  replace H_a := Aside0.mk (Kd.C_below H_a.out hb)
  replace H_b := Aside0.mk (Kd.C_below H_b.out hb)
  replace H_c := Aside0.mk (Kd.C_below H_c.out hb)
  replace HB := Aside0.mk (below_step HB.out hb)
  clear hb
  go_wp2_with fail
  refine (pannierref08_May.tc _ _ lb _ H_b.out K_b.out HLb.out HMb.out).mono ?_
  rintro e w' ⟨rfl, hb⟩
  replace H_a := Aside0.mk (Kd.C_below H_a.out hb)
  replace H_b := Aside0.mk (Kd.C_below H_b.out hb)
  replace H_c := Aside0.mk (Kd.C_below H_c.out hb)
  replace HB := Aside0.mk (below_step HB.out hb)
  clear hb
  go_wp2_with fail
  refine (pannierref08_May.tc _ _ lc _ H_c.out K_c.out HLc.out HMc.out).mono ?_
  rintro e w' ⟨rfl, hb⟩
  replace H_a := Aside0.mk (Kd.C_below H_a.out hb)
  replace H_b := Aside0.mk (Kd.C_below H_b.out hb)
  replace H_c := Aside0.mk (Kd.C_below H_c.out hb)
  replace HB := Aside0.mk (below_step HB.out hb)
  clear hb
  go_wp2_with fail
  refine (vv_Merge.tc _ _ la _ _ lb _ H_a.out K_a.out H_b.out K_b.out HLa.out HLb.out).mono ?_
  rintro e w' ⟨A_m, c_m, rfl, hk, hr, hb⟩
  have K_m := Aside0.mk hk
  have H_m := Aside0.mk hr
  clear hk hr
  replace H_a := Aside0.mk (Kd.C_below H_a.out hb)
  replace H_b := Aside0.mk (Kd.C_below H_b.out hb)
  replace H_c := Aside0.mk (Kd.C_below H_c.out hb)
  replace HB := Aside0.mk (below_step HB.out hb)
  clear hb
  go_wp2_with fail
  refine (vv_Meet.tc _ _ la _ _ lb _ H_a.out K_a.out H_b.out K_b.out HLa.out HLb.out).mono ?_
  rintro e w' ⟨A_n, c_n, rfl, hk, hr, hb⟩
  have K_n := Aside0.mk hk
  have H_n := Aside0.mk hr
  clear hk hr
  replace H_a := Aside0.mk (Kd.C_below H_a.out hb)
  replace H_b := Aside0.mk (Kd.C_below H_b.out hb)
  replace H_c := Aside0.mk (Kd.C_below H_c.out hb)
  replace H_m := Aside0.mk (Kd.C_below H_m.out hb)
  replace HB := Aside0.mk (below_step HB.out hb)
  clear hb
  go_wp2_with fail
  refine (vv_Merge.tc _ _ lb _ _ la _ H_b.out K_b.out H_a.out K_a.out HLb.out HLa.out).mono ?_
  rintro e w' ⟨A_x, c_x, rfl, hk, hr, hb⟩
  have K_x := Aside0.mk hk
  have H_x := Aside0.mk hr
  clear hk hr
  replace H_a := Aside0.mk (Kd.C_below H_a.out hb)
  replace H_b := Aside0.mk (Kd.C_below H_b.out hb)
  replace H_c := Aside0.mk (Kd.C_below H_c.out hb)
  replace H_m := Aside0.mk (Kd.C_below H_m.out hb)
  replace H_n := Aside0.mk (Kd.C_below H_n.out hb)
  replace HB := Aside0.mk (below_step HB.out hb)
  clear hb
  go_wp2_with fail
  refine (pannierlaw08_Same.tc _ _ (mergeL la lb) _ _ (mergeL lb la) _ H_m.out K_m.out H_x.out K_x.out (len_merge HLa.out HLb.out) (decide_eq_true (merge_comm _ _))).mono ?_
  rintro e w' ⟨rfl, hb⟩
  replace H_a := Aside0.mk (Kd.C_below H_a.out hb)
  replace H_b := Aside0.mk (Kd.C_below H_b.out hb)
  replace H_c := Aside0.mk (Kd.C_below H_c.out hb)
  replace H_m := Aside0.mk (Kd.C_below H_m.out hb)
  replace H_n := Aside0.mk (Kd.C_below H_n.out hb)
  replace H_x := Aside0.mk (Kd.C_below H_x.out hb)
  replace HB := Aside0.mk (below_step HB.out hb)
  clear hb
  clear H_x K_x
  go_wp2_with fail
  refine (vv_Meet.tc _ _ lb _ _ la _ H_b.out K_b.out H_a.out K_a.out HLb.out HLa.out).mono ?_
  rintro e w' ⟨A_x, c_x, rfl, hk, hr, hb⟩
  have K_x := Aside0.mk hk
  have H_x := Aside0.mk hr
  clear hk hr
  replace H_a := Aside0.mk (Kd.C_below H_a.out hb)
  replace H_b := Aside0.mk (Kd.C_below H_b.out hb)
  replace H_c := Aside0.mk (Kd.C_below H_c.out hb)
  replace H_m := Aside0.mk (Kd.C_below H_m.out hb)
  replace H_n := Aside0.mk (Kd.C_below H_n.out hb)
  replace HB := Aside0.mk (below_step HB.out hb)
  clear hb
  go_wp2_with fail
  refine (pannierlaw08_Same.tc _ _ (meetL la lb) _ _ (meetL lb la) _ H_n.out K_n.out H_x.out K_x.out (len_meet HLa.out HLb.out) (decide_eq_true (meet_comm _ _))).mono ?_
  rintro e w' ⟨rfl, hb⟩
  replace H_a := Aside0.mk (Kd.C_below H_a.out hb)
  replace H_b := Aside0.mk (Kd.C_below H_b.out hb)
  replace H_c := Aside0.mk (Kd.C_below H_c.out hb)
  replace H_m := Aside0.mk (Kd.C_below H_m.out hb)
  replace H_n := Aside0.mk (Kd.C_below H_n.out hb)
  replace H_x := Aside0.mk (Kd.C_below H_x.out hb)
  replace HB := Aside0.mk (below_step HB.out hb)
  clear hb
  clear H_x K_x
  go_wp2_with fail
  refine (vv_Merge.tc _ _ la _ _ la _ H_a.out K_a.out H_a.out K_a.out HLa.out HLa.out).mono ?_
  rintro e w' ⟨A_x, c_x, rfl, hk, hr, hb⟩
  have K_x := Aside0.mk hk
  have H_x := Aside0.mk hr
  clear hk hr
  replace H_a := Aside0.mk (Kd.C_below H_a.out hb)
  replace H_b := Aside0.mk (Kd.C_below H_b.out hb)
  replace H_c := Aside0.mk (Kd.C_below H_c.out hb)
  replace H_m := Aside0.mk (Kd.C_below H_m.out hb)
  replace H_n := Aside0.mk (Kd.C_below H_n.out hb)
  replace HB := Aside0.mk (below_step HB.out hb)
  clear hb
  go_wp2_with fail
  refine (vv_Plain.tc _ _ la _ H_a.out K_a.out HLa.out).mono ?_
  rintro e w' ⟨A_y, c_y, rfl, hk, hr, hb⟩
  have K_y := Aside0.mk hk
  have H_y := Aside0.mk hr
  clear hk hr
  replace H_a := Aside0.mk (Kd.C_below H_a.out hb)
  replace H_b := Aside0.mk (Kd.C_below H_b.out hb)
  replace H_c := Aside0.mk (Kd.C_below H_c.out hb)
  replace H_m := Aside0.mk (Kd.C_below H_m.out hb)
  replace H_n := Aside0.mk (Kd.C_below H_n.out hb)
  replace H_x := Aside0.mk (Kd.C_below H_x.out hb)
  replace HB := Aside0.mk (below_step HB.out hb)
  clear hb
  go_wp2_with fail
  refine (pannierlaw08_Same.tc _ _ (mergeL la la) _ _ (plainL la) _ H_x.out K_x.out H_y.out K_y.out (len_merge HLa.out HLa.out) (decide_eq_true (merge_self _))).mono ?_
  rintro e w' ⟨rfl, hb⟩
  replace H_a := Aside0.mk (Kd.C_below H_a.out hb)
  replace H_b := Aside0.mk (Kd.C_below H_b.out hb)
  replace H_c := Aside0.mk (Kd.C_below H_c.out hb)
  replace H_m := Aside0.mk (Kd.C_below H_m.out hb)
  replace H_n := Aside0.mk (Kd.C_below H_n.out hb)
  replace H_x := Aside0.mk (Kd.C_below H_x.out hb)
  replace H_y := Aside0.mk (Kd.C_below H_y.out hb)
  replace HB := Aside0.mk (below_step HB.out hb)
  clear hb
  clear H_x K_x
  clear H_y K_y
  go_wp2_with fail
  refine (vv_Meet.tc _ _ la _ _ la _ H_a.out K_a.out H_a.out K_a.out HLa.out HLa.out).mono ?_
  rintro e w' ⟨A_x, c_x, rfl, hk, hr, hb⟩
  have K_x := Aside0.mk hk
  have H_x := Aside0.mk hr
  clear hk hr
  replace H_a := Aside0.mk (Kd.C_below H_a.out hb)
  replace H_b := Aside0.mk (Kd.C_below H_b.out hb)
  replace H_c := Aside0.mk (Kd.C_below H_c.out hb)
  replace H_m := Aside0.mk (Kd.C_below H_m.out hb)
  replace H_n := Aside0.mk (Kd.C_below H_n.out hb)
  replace HB := Aside0.mk (below_step HB.out hb)
  clear hb
  go_wp2_with fail
  refine (vv_Plain.tc _ _ la _ H_a.out K_a.out HLa.out).mono ?_
  rintro e w' ⟨A_y, c_y, rfl, hk, hr, hb⟩
  have K_y := Aside0.mk hk
  have H_y := Aside0.mk hr
  clear hk hr
  replace H_a := Aside0.mk (Kd.C_below H_a.out hb)
  replace H_b := Aside0.mk (Kd.C_below H_b.out hb)
  replace H_c := Aside0.mk (Kd.C_below H_c.out hb)
  replace H_m := Aside0.mk (Kd.C_below H_m.out hb)
  replace H_n := Aside0.mk (Kd.C_below H_n.out hb)
  replace H_x := Aside0.mk (Kd.C_below H_x.out hb)
  replace HB := Aside0.mk (below_step HB.out hb)
  clear hb
  go_wp2_with fail
  refine (pannierlaw08_Same.tc _ _ (meetL la la) _ _ (plainL la) _ H_x.out K_x.out H_y.out K_y.out (len_meet HLa.out HLa.out) (decide_eq_true (meet_self _))).mono ?_
  rintro e w' ⟨rfl, hb⟩
  replace H_a := Aside0.mk (Kd.C_below H_a.out hb)
  replace H_b := Aside0.mk (Kd.C_below H_b.out hb)
  replace H_c := Aside0.mk (Kd.C_below H_c.out hb)
  replace H_m := Aside0.mk (Kd.C_below H_m.out hb)
  replace H_n := Aside0.mk (Kd.C_below H_n.out hb)
  replace H_x := Aside0.mk (Kd.C_below H_x.out hb)
  replace H_y := Aside0.mk (Kd.C_below H_y.out hb)
  replace HB := Aside0.mk (below_step HB.out hb)
  clear hb
  clear H_x K_x
  clear H_y K_y
  go_wp2_with fail
  refine (vv_Merge.tc _ _ (mergeL la lb) _ _ lc _ H_m.out K_m.out H_c.out K_c.out (len_merge HLa.out HLb.out) HLc.out).mono ?_
  rintro e w' ⟨A_x, c_x, rfl, hk, hr, hb⟩
  have K_x := Aside0.mk hk
  have H_x := Aside0.mk hr
  clear hk hr
  replace H_a := Aside0.mk (Kd.C_below H_a.out hb)
  replace H_b := Aside0.mk (Kd.C_below H_b.out hb)
  replace H_c := Aside0.mk (Kd.C_below H_c.out hb)
  replace H_m := Aside0.mk (Kd.C_below H_m.out hb)
  replace H_n := Aside0.mk (Kd.C_below H_n.out hb)
  replace HB := Aside0.mk (below_step HB.out hb)
  clear hb
  go_wp2_with fail
  refine (vv_Merge.tc _ _ lb _ _ lc _ H_b.out K_b.out H_c.out K_c.out HLb.out HLc.out).mono ?_
  rintro e w' ⟨A_y, c_y, rfl, hk, hr, hb⟩
  have K_y := Aside0.mk hk
  have H_y := Aside0.mk hr
  clear hk hr
  replace H_a := Aside0.mk (Kd.C_below H_a.out hb)
  replace H_b := Aside0.mk (Kd.C_below H_b.out hb)
  replace H_c := Aside0.mk (Kd.C_below H_c.out hb)
  replace H_m := Aside0.mk (Kd.C_below H_m.out hb)
  replace H_n := Aside0.mk (Kd.C_below H_n.out hb)
  replace H_x := Aside0.mk (Kd.C_below H_x.out hb)
  replace HB := Aside0.mk (below_step HB.out hb)
  clear hb
  go_wp2_with fail
  refine (vv_Merge.tc _ _ la _ _ (mergeL lb lc) _ H_a.out K_a.out H_y.out K_y.out HLa.out (len_merge HLb.out HLc.out)).mono ?_
  rintro e w' ⟨A_z, c_z, rfl, hk, hr, hb⟩
  have K_z := Aside0.mk hk
  have H_z := Aside0.mk hr
  clear hk hr
  replace H_a := Aside0.mk (Kd.C_below H_a.out hb)
  replace H_b := Aside0.mk (Kd.C_below H_b.out hb)
  replace H_c := Aside0.mk (Kd.C_below H_c.out hb)
  replace H_m := Aside0.mk (Kd.C_below H_m.out hb)
  replace H_n := Aside0.mk (Kd.C_below H_n.out hb)
  replace H_x := Aside0.mk (Kd.C_below H_x.out hb)
  replace H_y := Aside0.mk (Kd.C_below H_y.out hb)
  replace HB := Aside0.mk (below_step HB.out hb)
  clear hb
  go_wp2_with fail
  refine (pannierlaw08_Same.tc _ _ (mergeL (mergeL la lb) lc) _ _ (mergeL la (mergeL lb lc)) _ H_x.out K_x.out H_z.out K_z.out (len_merge (len_merge HLa.out HLb.out) HLc.out) (decide_eq_true (merge_assoc _ _ _))).mono ?_
  rintro e w' ⟨rfl, hb⟩
  replace H_a := Aside0.mk (Kd.C_below H_a.out hb)
  replace H_b := Aside0.mk (Kd.C_below H_b.out hb)
  replace H_c := Aside0.mk (Kd.C_below H_c.out hb)
  replace H_m := Aside0.mk (Kd.C_below H_m.out hb)
  replace H_n := Aside0.mk (Kd.C_below H_n.out hb)
  replace H_x := Aside0.mk (Kd.C_below H_x.out hb)
  replace H_y := Aside0.mk (Kd.C_below H_y.out hb)
  replace H_z := Aside0.mk (Kd.C_below H_z.out hb)
  replace HB := Aside0.mk (below_step HB.out hb)
  clear hb
  clear H_x K_x
  clear H_y K_y
  clear H_z K_z
  go_wp2_with fail
  refine (vv_Meet.tc _ _ (meetL la lb) _ _ lc _ H_n.out K_n.out H_c.out K_c.out (len_meet HLa.out HLb.out) HLc.out).mono ?_
  rintro e w' ⟨A_x, c_x, rfl, hk, hr, hb⟩
  have K_x := Aside0.mk hk
  have H_x := Aside0.mk hr
  clear hk hr
  replace H_a := Aside0.mk (Kd.C_below H_a.out hb)
  replace H_b := Aside0.mk (Kd.C_below H_b.out hb)
  replace H_c := Aside0.mk (Kd.C_below H_c.out hb)
  replace H_m := Aside0.mk (Kd.C_below H_m.out hb)
  replace H_n := Aside0.mk (Kd.C_below H_n.out hb)
  replace HB := Aside0.mk (below_step HB.out hb)
  clear hb
  go_wp2_with fail
  refine (vv_Meet.tc _ _ lb _ _ lc _ H_b.out K_b.out H_c.out K_c.out HLb.out HLc.out).mono ?_
  rintro e w' ⟨A_y, c_y, rfl, hk, hr, hb⟩
  have K_y := Aside0.mk hk
  have H_y := Aside0.mk hr
  clear hk hr
  replace H_a := Aside0.mk (Kd.C_below H_a.out hb)
  replace H_b := Aside0.mk (Kd.C_below H_b.out hb)
  replace H_c := Aside0.mk (Kd.C_below H_c.out hb)
  replace H_m := Aside0.mk (Kd.C_below H_m.out hb)
  replace H_n := Aside0.mk (Kd.C_below H_n.out hb)
  replace H_x := Aside0.mk (Kd.C_below H_x.out hb)
  replace HB := Aside0.mk (below_step HB.out hb)
  clear hb
  go_wp2_with fail
  refine (vv_Meet.tc _ _ la _ _ (meetL lb lc) _ H_a.out K_a.out H_y.out K_y.out HLa.out (len_meet HLb.out HLc.out)).mono ?_
  rintro e w' ⟨A_z, c_z, rfl, hk, hr, hb⟩
  have K_z := Aside0.mk hk
  have H_z := Aside0.mk hr
  clear hk hr
  replace H_a := Aside0.mk (Kd.C_below H_a.out hb)
  replace H_b := Aside0.mk (Kd.C_below H_b.out hb)
  replace H_c := Aside0.mk (Kd.C_below H_c.out hb)
  replace H_m := Aside0.mk (Kd.C_below H_m.out hb)
  replace H_n := Aside0.mk (Kd.C_below H_n.out hb)
  replace H_x := Aside0.mk (Kd.C_below H_x.out hb)
  replace H_y := Aside0.mk (Kd.C_below H_y.out hb)
  replace HB := Aside0.mk (below_step HB.out hb)
  clear hb
  go_wp2_with fail
  refine (pannierlaw08_Same.tc _ _ (meetL (meetL la lb) lc) _ _ (meetL la (meetL lb lc)) _ H_x.out K_x.out H_z.out K_z.out (len_meet (len_meet HLa.out HLb.out) HLc.out) (decide_eq_true (meet_assoc _ _ _))).mono ?_
  rintro e w' ⟨rfl, hb⟩
  replace H_a := Aside0.mk (Kd.C_below H_a.out hb)
  replace H_b := Aside0.mk (Kd.C_below H_b.out hb)
  replace H_c := Aside0.mk (Kd.C_below H_c.out hb)
  replace H_m := Aside0.mk (Kd.C_below H_m.out hb)
  replace H_n := Aside0.mk (Kd.C_below H_n.out hb)
  replace H_x := Aside0.mk (Kd.C_below H_x.out hb)
  replace H_y := Aside0.mk (Kd.C_below H_y.out hb)
  replace H_z := Aside0.mk (Kd.C_below H_z.out hb)
  replace HB := Aside0.mk (below_step HB.out hb)
  clear hb
  clear H_x K_x
  clear H_y K_y
  clear H_z K_z
  go_wp2_with fail
  refine (vv_Meet.tc _ _ la _ _ (mergeL la lb) _ H_a.out K_a.out H_m.out K_m.out HLa.out (len_merge HLa.out HLb.out)).mono ?_
  rintro e w' ⟨A_x, c_x, rfl, hk, hr, hb⟩
  have K_x := Aside0.mk hk
  have H_x := Aside0.mk hr
  clear hk hr
  replace H_a := Aside0.mk (Kd.C_below H_a.out hb)
  replace H_b := Aside0.mk (Kd.C_below H_b.out hb)
  replace H_c := Aside0.mk (Kd.C_below H_c.out hb)
  replace H_m := Aside0.mk (Kd.C_below H_m.out hb)
  replace H_n := Aside0.mk (Kd.C_below H_n.out hb)
  replace HB := Aside0.mk (below_step HB.out hb)
  clear hb
  go_wp2_with fail
  refine (vv_Plain.tc _ _ la _ H_a.out K_a.out HLa.out).mono ?_
  rintro e w' ⟨A_y, c_y, rfl, hk, hr, hb⟩
  have K_y := Aside0.mk hk
  have H_y := Aside0.mk hr
  clear hk hr
  replace H_a := Aside0.mk (Kd.C_below H_a.out hb)
  replace H_b := Aside0.mk (Kd.C_below H_b.out hb)
  replace H_c := Aside0.mk (Kd.C_below H_c.out hb)
  replace H_m := Aside0.mk (Kd.C_below H_m.out hb)
  replace H_n := Aside0.mk (Kd.C_below H_n.out hb)
  replace H_x := Aside0.mk (Kd.C_below H_x.out hb)
  replace HB := Aside0.mk (below_step HB.out hb)
  clear hb
  go_wp2_with fail
  refine (pannierlaw08_Same.tc _ _ (meetL la (mergeL la lb)) _ _ (plainL la) _ H_x.out K_x.out H_y.out K_y.out (len_meet HLa.out (len_merge HLa.out HLb.out)) (decide_eq_true (meet_merge _ _))).mono ?_
  rintro e w' ⟨rfl, hb⟩
  replace H_a := Aside0.mk (Kd.C_below H_a.out hb)
  replace H_b := Aside0.mk (Kd.C_below H_b.out hb)
  replace H_c := Aside0.mk (Kd.C_below H_c.out hb)
  replace H_m := Aside0.mk (Kd.C_below H_m.out hb)
  replace H_n := Aside0.mk (Kd.C_below H_n.out hb)
  replace H_x := Aside0.mk (Kd.C_below H_x.out hb)
  replace H_y := Aside0.mk (Kd.C_below H_y.out hb)
  replace HB := Aside0.mk (below_step HB.out hb)
  clear hb
  clear H_x K_x
  clear H_y K_y
  go_wp2_with fail
  refine (vv_Merge.tc _ _ la _ _ (meetL la lb) _ H_a.out K_a.out H_n.out K_n.out HLa.out (len_meet HLa.out HLb.out)).mono ?_
  rintro e w' ⟨A_x, c_x, rfl, hk, hr, hb⟩
  have K_x := Aside0.mk hk
  have H_x := Aside0.mk hr
  clear hk hr
  replace H_a := Aside0.mk (Kd.C_below H_a.out hb)
  replace H_b := Aside0.mk (Kd.C_below H_b.out hb)
  replace H_c := Aside0.mk (Kd.C_below H_c.out hb)
  replace H_m := Aside0.mk (Kd.C_below H_m.out hb)
  replace H_n := Aside0.mk (Kd.C_below H_n.out hb)
  replace HB := Aside0.mk (below_step HB.out hb)
  clear hb
  go_wp2_with fail
  refine (vv_Plain.tc _ _ la _ H_a.out K_a.out HLa.out).mono ?_
  rintro e w' ⟨A_y, c_y, rfl, hk, hr, hb⟩
  have K_y := Aside0.mk hk
  have H_y := Aside0.mk hr
  clear hk hr
  replace H_a := Aside0.mk (Kd.C_below H_a.out hb)
  replace H_b := Aside0.mk (Kd.C_below H_b.out hb)
  replace H_c := Aside0.mk (Kd.C_below H_c.out hb)
  replace H_m := Aside0.mk (Kd.C_below H_m.out hb)
  replace H_n := Aside0.mk (Kd.C_below H_n.out hb)
  replace H_x := Aside0.mk (Kd.C_below H_x.out hb)
  replace HB := Aside0.mk (below_step HB.out hb)
  clear hb
  go_wp2_with fail
  refine (pannierlaw08_Same.tc _ _ (mergeL la (meetL la lb)) _ _ (plainL la) _ H_x.out K_x.out H_y.out K_y.out (len_merge HLa.out (len_meet HLa.out HLb.out)) (decide_eq_true (merge_meet _ _))).mono ?_
  rintro e w' ⟨rfl, hb⟩
  replace H_a := Aside0.mk (Kd.C_below H_a.out hb)
  replace H_b := Aside0.mk (Kd.C_below H_b.out hb)
  replace H_c := Aside0.mk (Kd.C_below H_c.out hb)
  replace H_m := Aside0.mk (Kd.C_below H_m.out hb)
  replace H_n := Aside0.mk (Kd.C_below H_n.out hb)
  replace H_x := Aside0.mk (Kd.C_below H_x.out hb)
  replace H_y := Aside0.mk (Kd.C_below H_y.out hb)
  replace HB := Aside0.mk (below_step HB.out hb)
  clear hb
  clear H_x K_x
  clear H_y K_y
  go_wp2_with fail
  refine (vv_Below.tc _ _ la _ _ (mergeL la lb) _ H_a.out K_a.out H_m.out K_m.out HLa.out (len_merge HLa.out HLb.out) (below_merge _ _)).mono ?_
  rintro e w' ⟨rfl, hb⟩
  replace H_a := Aside0.mk (Kd.C_below H_a.out hb)
  replace H_b := Aside0.mk (Kd.C_below H_b.out hb)
  replace H_c := Aside0.mk (Kd.C_below H_c.out hb)
  replace H_m := Aside0.mk (Kd.C_below H_m.out hb)
  replace H_n := Aside0.mk (Kd.C_below H_n.out hb)
  replace HB := Aside0.mk (below_step HB.out hb)
  clear hb
  go_wp2_with fail
  refine (vv_Below.tc _ _ lb _ _ (mergeL la lb) _ H_b.out K_b.out H_m.out K_m.out HLb.out (len_merge HLa.out HLb.out) (below_merge' _ _)).mono ?_
  rintro e w' ⟨rfl, hb⟩
  replace H_a := Aside0.mk (Kd.C_below H_a.out hb)
  replace H_b := Aside0.mk (Kd.C_below H_b.out hb)
  replace H_c := Aside0.mk (Kd.C_below H_c.out hb)
  replace H_m := Aside0.mk (Kd.C_below H_m.out hb)
  replace H_n := Aside0.mk (Kd.C_below H_n.out hb)
  replace HB := Aside0.mk (below_step HB.out hb)
  clear hb
  go_wp2_with fail
  refine (vv_Below.tc _ _ (meetL la lb) _ _ la _ H_n.out K_n.out H_a.out K_a.out (len_meet HLa.out HLb.out) HLa.out (meet_below _ _)).mono ?_
  rintro e w' ⟨rfl, hb⟩
  replace H_a := Aside0.mk (Kd.C_below H_a.out hb)
  replace H_b := Aside0.mk (Kd.C_below H_b.out hb)
  replace H_c := Aside0.mk (Kd.C_below H_c.out hb)
  replace H_m := Aside0.mk (Kd.C_below H_m.out hb)
  replace H_n := Aside0.mk (Kd.C_below H_n.out hb)
  replace HB := Aside0.mk (below_step HB.out hb)
  clear hb
  go_wp2_with fail
  refine (vv_Below.tc _ _ (meetL la lb) _ _ lb _ H_n.out K_n.out H_b.out K_b.out (len_meet HLa.out HLb.out) HLb.out (meet_below' _ _)).mono ?_
  rintro e w' ⟨rfl, hb⟩
  replace H_a := Aside0.mk (Kd.C_below H_a.out hb)
  replace H_b := Aside0.mk (Kd.C_below H_b.out hb)
  replace H_c := Aside0.mk (Kd.C_below H_c.out hb)
  replace H_m := Aside0.mk (Kd.C_below H_m.out hb)
  replace H_n := Aside0.mk (Kd.C_below H_n.out hb)
  replace HB := Aside0.mk (below_step HB.out hb)
  clear hb
  go_wp2_with fail
  refine (vv_Below.tc _ _ la _ _ lc _ H_a.out K_a.out H_c.out K_c.out HLa.out HLc.out HP1.out).mono ?_
  rintro e w' ⟨rfl, hb⟩
  replace H_a := Aside0.mk (Kd.C_below H_a.out hb)
  replace H_b := Aside0.mk (Kd.C_below H_b.out hb)
  replace H_c := Aside0.mk (Kd.C_below H_c.out hb)
  replace H_m := Aside0.mk (Kd.C_below H_m.out hb)
  replace H_n := Aside0.mk (Kd.C_below H_n.out hb)
  replace HB := Aside0.mk (below_step HB.out hb)
  clear hb
  go_wp2_with fail
  refine (vv_Below.tc _ _ lb _ _ lc _ H_b.out K_b.out H_c.out K_c.out HLb.out HLc.out HP2.out).mono ?_
  rintro e w' ⟨rfl, hb⟩
  replace H_a := Aside0.mk (Kd.C_below H_a.out hb)
  replace H_b := Aside0.mk (Kd.C_below H_b.out hb)
  replace H_c := Aside0.mk (Kd.C_below H_c.out hb)
  replace H_m := Aside0.mk (Kd.C_below H_m.out hb)
  replace H_n := Aside0.mk (Kd.C_below H_n.out hb)
  replace HB := Aside0.mk (below_step HB.out hb)
  clear hb
  rcases hq : belowB lc la with _ | _
  · have HQ1 := Aside0.mk hq
    clear hq
    go_wp2_with fail
    refine (vv_Below.tc _ _ lc _ _ la _ H_c.out K_c.out H_a.out K_a.out HLc.out HLa.out HQ1.out).mono ?_
    rintro e w' ⟨rfl, hb⟩
    replace H_a := Aside0.mk (Kd.C_below H_a.out hb)
    replace H_b := Aside0.mk (Kd.C_below H_b.out hb)
    replace H_c := Aside0.mk (Kd.C_below H_c.out hb)
    replace H_m := Aside0.mk (Kd.C_below H_m.out hb)
    replace H_n := Aside0.mk (Kd.C_below H_n.out hb)
    replace HB := Aside0.mk (below_step HB.out hb)
    clear hb
    go_wp2_with fail
    refine (vv_Below.tc _ _ la _ _ lb _ H_a.out K_a.out H_b.out K_b.out HLa.out HLb.out rfl).mono ?_
    rintro e w' ⟨rfl, hb⟩
    replace H_a := Aside0.mk (Kd.C_below H_a.out hb)
    replace H_b := Aside0.mk (Kd.C_below H_b.out hb)
    replace H_c := Aside0.mk (Kd.C_below H_c.out hb)
    replace H_m := Aside0.mk (Kd.C_below H_m.out hb)
    replace H_n := Aside0.mk (Kd.C_below H_n.out hb)
    replace HB := Aside0.mk (below_step HB.out hb)
    clear hb
    go_wp2_with fail
    refine (vv_Plain.tc _ _ lb _ H_b.out K_b.out HLb.out).mono ?_
    rintro e w' ⟨A_x, c_x, rfl, hk, hr, hb⟩
    have K_x := Aside0.mk hk
    have H_x := Aside0.mk hr
    clear hk hr
    replace H_a := Aside0.mk (Kd.C_below H_a.out hb)
    replace H_b := Aside0.mk (Kd.C_below H_b.out hb)
    replace H_c := Aside0.mk (Kd.C_below H_c.out hb)
    replace H_m := Aside0.mk (Kd.C_below H_m.out hb)
    replace H_n := Aside0.mk (Kd.C_below H_n.out hb)
    replace HB := Aside0.mk (below_step HB.out hb)
    clear hb
    go_wp2_with fail
    refine (pannierlaw08_Same.tc _ _ (mergeL la lb) _ _ (plainL lb) _ H_m.out K_m.out H_x.out K_x.out (len_merge HLa.out HLb.out) (below_is_merge _ _)).mono ?_
    rintro e w' ⟨rfl, hb⟩
    replace H_a := Aside0.mk (Kd.C_below H_a.out hb)
    replace H_b := Aside0.mk (Kd.C_below H_b.out hb)
    replace H_c := Aside0.mk (Kd.C_below H_c.out hb)
    replace H_m := Aside0.mk (Kd.C_below H_m.out hb)
    replace H_n := Aside0.mk (Kd.C_below H_n.out hb)
    replace H_x := Aside0.mk (Kd.C_below H_x.out hb)
    replace HB := Aside0.mk (below_step HB.out hb)
    clear hb
    clear H_x K_x
    go_wp2_with fail
    refine (vv_Below.tc _ _ la _ _ lb _ H_a.out K_a.out H_b.out K_b.out HLa.out HLb.out rfl).mono ?_
    rintro e w' ⟨rfl, hb⟩
    replace H_a := Aside0.mk (Kd.C_below H_a.out hb)
    replace H_b := Aside0.mk (Kd.C_below H_b.out hb)
    replace H_c := Aside0.mk (Kd.C_below H_c.out hb)
    replace H_m := Aside0.mk (Kd.C_below H_m.out hb)
    replace H_n := Aside0.mk (Kd.C_below H_n.out hb)
    replace HB := Aside0.mk (below_step HB.out hb)
    clear hb
    go_wp2_with fail
    refine (vv_Plain.tc _ _ la _ H_a.out K_a.out HLa.out).mono ?_
    rintro e w' ⟨A_x, c_x, rfl, hk, hr, hb⟩
    have K_x := Aside0.mk hk
    have H_x := Aside0.mk hr
    clear hk hr
    replace H_a := Aside0.mk (Kd.C_below H_a.out hb)
    replace H_b := Aside0.mk (Kd.C_below H_b.out hb)
    replace H_c := Aside0.mk (Kd.C_below H_c.out hb)
    replace H_m := Aside0.mk (Kd.C_below H_m.out hb)
    replace H_n := Aside0.mk (Kd.C_below H_n.out hb)
    replace HB := Aside0.mk (below_step HB.out hb)
    clear hb
    go_wp2_with fail
    refine (pannierlaw08_Same.tc _ _ (meetL la lb) _ _ (plainL la) _ H_n.out K_n.out H_x.out K_x.out (len_meet HLa.out HLb.out) (below_is_meet _ _)).mono ?_
    rintro e w' ⟨rfl, hb⟩
    replace H_a := Aside0.mk (Kd.C_below H_a.out hb)
    replace H_b := Aside0.mk (Kd.C_below H_b.out hb)
    replace H_c := Aside0.mk (Kd.C_below H_c.out hb)
    replace H_m := Aside0.mk (Kd.C_below H_m.out hb)
    replace H_n := Aside0.mk (Kd.C_below H_n.out hb)
    replace H_x := Aside0.mk (Kd.C_below H_x.out hb)
    replace HB := Aside0.mk (below_step HB.out hb)
    clear hb
    clear H_x K_x
    go_wp2
    go_ret
    exact ⟨by simp, HB.out⟩
  · have HQ1 := Aside0.mk hq
    clear hq
    go_wp2_with fail
    refine (vv_Below.tc _ _ lc _ _ la _ H_c.out K_c.out H_a.out K_a.out HLc.out HLa.out HQ1.out).mono ?_
    rintro e w' ⟨rfl, hb⟩
    replace H_a := Aside0.mk (Kd.C_below H_a.out hb)
    replace H_b := Aside0.mk (Kd.C_below H_b.out hb)
    replace H_c := Aside0.mk (Kd.C_below H_c.out hb)
    replace H_m := Aside0.mk (Kd.C_below H_m.out hb)
    replace H_n := Aside0.mk (Kd.C_below H_n.out hb)
    replace HB := Aside0.mk (below_step HB.out hb)
    clear hb
    rcases hq : belowB lc lb with _ | _
    · have HQ2 := Aside0.mk hq
      clear hq
      go_wp2_with fail
      refine (vv_Below.tc _ _ lc _ _ lb _ H_c.out K_c.out H_b.out K_b.out HLc.out HLb.out HQ2.out).mono ?_
      rintro e w' ⟨rfl, hb⟩
      replace H_a := Aside0.mk (Kd.C_below H_a.out hb)
      replace H_b := Aside0.mk (Kd.C_below H_b.out hb)
      replace H_c := Aside0.mk (Kd.C_below H_c.out hb)
      replace H_m := Aside0.mk (Kd.C_below H_m.out hb)
      replace H_n := Aside0.mk (Kd.C_below H_n.out hb)
      replace HB := Aside0.mk (below_step HB.out hb)
      clear hb
      go_wp2_with fail
      refine (vv_Below.tc _ _ la _ _ lb _ H_a.out K_a.out H_b.out K_b.out HLa.out HLb.out rfl).mono ?_
      rintro e w' ⟨rfl, hb⟩
      replace H_a := Aside0.mk (Kd.C_below H_a.out hb)
      replace H_b := Aside0.mk (Kd.C_below H_b.out hb)
      replace H_c := Aside0.mk (Kd.C_below H_c.out hb)
      replace H_m := Aside0.mk (Kd.C_below H_m.out hb)
      replace H_n := Aside0.mk (Kd.C_below H_n.out hb)
      replace HB := Aside0.mk (below_step HB.out hb)
      clear hb
      go_wp2_with fail
      refine (vv_Plain.tc _ _ lb _ H_b.out K_b.out HLb.out).mono ?_
      rintro e w' ⟨A_x, c_x, rfl, hk, hr, hb⟩
      have K_x := Aside0.mk hk
      have H_x := Aside0.mk hr
      clear hk hr
      replace H_a := Aside0.mk (Kd.C_below H_a.out hb)
      replace H_b := Aside0.mk (Kd.C_below H_b.out hb)
      replace H_c := Aside0.mk (Kd.C_below H_c.out hb)
      replace H_m := Aside0.mk (Kd.C_below H_m.out hb)
      replace H_n := Aside0.mk (Kd.C_below H_n.out hb)
      replace HB := Aside0.mk (below_step HB.out hb)
      clear hb
      go_wp2_with fail
      refine (pannierlaw08_Same.tc _ _ (mergeL la lb) _ _ (plainL lb) _ H_m.out K_m.out H_x.out K_x.out (len_merge HLa.out HLb.out) (below_is_merge _ _)).mono ?_
      rintro e w' ⟨rfl, hb⟩
      replace H_a := Aside0.mk (Kd.C_below H_a.out hb)
      replace H_b := Aside0.mk (Kd.C_below H_b.out hb)
      replace H_c := Aside0.mk (Kd.C_below H_c.out hb)
      replace H_m := Aside0.mk (Kd.C_below H_m.out hb)
      replace H_n := Aside0.mk (Kd.C_below H_n.out hb)
      replace H_x := Aside0.mk (Kd.C_below H_x.out hb)
      replace HB := Aside0.mk (below_step HB.out hb)
      clear hb
      clear H_x K_x
      go_wp2_with fail
      refine (vv_Below.tc _ _ la _ _ lb _ H_a.out K_a.out H_b.out K_b.out HLa.out HLb.out rfl).mono ?_
      rintro e w' ⟨rfl, hb⟩
      replace H_a := Aside0.mk (Kd.C_below H_a.out hb)
      replace H_b := Aside0.mk (Kd.C_below H_b.out hb)
      replace H_c := Aside0.mk (Kd.C_below H_c.out hb)
      replace H_m := Aside0.mk (Kd.C_below H_m.out hb)
      replace H_n := Aside0.mk (Kd.C_below H_n.out hb)
      replace HB := Aside0.mk (below_step HB.out hb)
      clear hb
      go_wp2_with fail
      refine (vv_Plain.tc _ _ la _ H_a.out K_a.out HLa.out).mono ?_
      rintro e w' ⟨A_x, c_x, rfl, hk, hr, hb⟩
      have K_x := Aside0.mk hk
      have H_x := Aside0.mk hr
      clear hk hr
      replace H_a := Aside0.mk (Kd.C_below H_a.out hb)
      replace H_b := Aside0.mk (Kd.C_below H_b.out hb)
      replace H_c := Aside0.mk (Kd.C_below H_c.out hb)
      replace H_m := Aside0.mk (Kd.C_below H_m.out hb)
      replace H_n := Aside0.mk (Kd.C_below H_n.out hb)
      replace HB := Aside0.mk (below_step HB.out hb)
      clear hb
      go_wp2_with fail
      refine (pannierlaw08_Same.tc _ _ (meetL la lb) _ _ (plainL la) _ H_n.out K_n.out H_x.out K_x.out (len_meet HLa.out HLb.out) (below_is_meet _ _)).mono ?_
      rintro e w' ⟨rfl, hb⟩
      replace H_a := Aside0.mk (Kd.C_below H_a.out hb)
      replace H_b := Aside0.mk (Kd.C_below H_b.out hb)
      replace H_c := Aside0.mk (Kd.C_below H_c.out hb)
      replace H_m := Aside0.mk (Kd.C_below H_m.out hb)
      replace H_n := Aside0.mk (Kd.C_below H_n.out hb)
      replace H_x := Aside0.mk (Kd.C_below H_x.out hb)
      replace HB := Aside0.mk (below_step HB.out hb)
      clear hb
      clear H_x K_x
      go_wp2
      go_ret
      exact ⟨by simp, HB.out⟩
    · have HQ2 := Aside0.mk hq
      clear hq
      go_wp2_with fail
      refine (vv_Below.tc _ _ lc _ _ lb _ H_c.out K_c.out H_b.out K_b.out HLc.out HLb.out HQ2.out).mono ?_
      rintro e w' ⟨rfl, hb⟩
      replace H_a := Aside0.mk (Kd.C_below H_a.out hb)
      replace H_b := Aside0.mk (Kd.C_below H_b.out hb)
      replace H_c := Aside0.mk (Kd.C_below H_c.out hb)
      replace H_m := Aside0.mk (Kd.C_below H_m.out hb)
      replace H_n := Aside0.mk (Kd.C_below H_n.out hb)
      replace HB := Aside0.mk (below_step HB.out hb)
      clear hb
      go_wp2_with fail
      refine (vv_Below.tc _ _ lc _ _ (meetL la lb) _ H_c.out K_c.out H_n.out K_n.out HLc.out (len_meet HLa.out HLb.out) (meet_greatest HQ1.out HQ2.out)).mono ?_
      rintro e w' ⟨rfl, hb⟩
      replace H_a := Aside0.mk (Kd.C_below H_a.out hb)
      replace H_b := Aside0.mk (Kd.C_below H_b.out hb)
      replace H_c := Aside0.mk (Kd.C_below H_c.out hb)
      replace H_m := Aside0.mk (Kd.C_below H_m.out hb)
      replace H_n := Aside0.mk (Kd.C_below H_n.out hb)
      replace HB := Aside0.mk (below_step HB.out hb)
      clear hb
      go_wp2_with fail
      refine (vv_Below.tc _ _ la _ _ lb _ H_a.out K_a.out H_b.out K_b.out HLa.out HLb.out rfl).mono ?_
      rintro e w' ⟨rfl, hb⟩
      replace H_a := Aside0.mk (Kd.C_below H_a.out hb)
      replace H_b := Aside0.mk (Kd.C_below H_b.out hb)
      replace H_c := Aside0.mk (Kd.C_below H_c.out hb)
      replace H_m := Aside0.mk (Kd.C_below H_m.out hb)
      replace H_n := Aside0.mk (Kd.C_below H_n.out hb)
      replace HB := Aside0.mk (below_step HB.out hb)
      clear hb
      go_wp2_with fail
      refine (vv_Plain.tc _ _ lb _ H_b.out K_b.out HLb.out).mono ?_
      rintro e w' ⟨A_x, c_x, rfl, hk, hr, hb⟩
      have K_x := Aside0.mk hk
      have H_x := Aside0.mk hr
      clear hk hr
      replace H_a := Aside0.mk (Kd.C_below H_a.out hb)
      replace H_b := Aside0.mk (Kd.C_below H_b.out hb)
      replace H_c := Aside0.mk (Kd.C_below H_c.out hb)
      replace H_m := Aside0.mk (Kd.C_below H_m.out hb)
      replace H_n := Aside0.mk (Kd.C_below H_n.out hb)
      replace HB := Aside0.mk (below_step HB.out hb)
      clear hb
      go_wp2_with fail
      refine (pannierlaw08_Same.tc _ _ (mergeL la lb) _ _ (plainL lb) _ H_m.out K_m.out H_x.out K_x.out (len_merge HLa.out HLb.out) (below_is_merge _ _)).mono ?_
      rintro e w' ⟨rfl, hb⟩
      replace H_a := Aside0.mk (Kd.C_below H_a.out hb)
      replace H_b := Aside0.mk (Kd.C_below H_b.out hb)
      replace H_c := Aside0.mk (Kd.C_below H_c.out hb)
      replace H_m := Aside0.mk (Kd.C_below H_m.out hb)
      replace H_n := Aside0.mk (Kd.C_below H_n.out hb)
      replace H_x := Aside0.mk (Kd.C_below H_x.out hb)
      replace HB := Aside0.mk (below_step HB.out hb)
      clear hb
      clear H_x K_x
      go_wp2_with fail
      refine (vv_Below.tc _ _ la _ _ lb _ H_a.out K_a.out H_b.out K_b.out HLa.out HLb.out rfl).mono ?_
      rintro e w' ⟨rfl, hb⟩
      replace H_a := Aside0.mk (Kd.C_below H_a.out hb)
      replace H_b := Aside0.mk (Kd.C_below H_b.out hb)
      replace H_c := Aside0.mk (Kd.C_below H_c.out hb)
      replace H_m := Aside0.mk (Kd.C_below H_m.out hb)
      replace H_n := Aside0.mk (Kd.C_below H_n.out hb)
      replace HB := Aside0.mk (below_step HB.out hb)
      clear hb
      go_wp2_with fail
      refine (vv_Plain.tc _ _ la _ H_a.out K_a.out HLa.out).mono ?_
      rintro e w' ⟨A_x, c_x, rfl, hk, hr, hb⟩
      have K_x := Aside0.mk hk
      have H_x := Aside0.mk hr
      clear hk hr
      replace H_a := Aside0.mk (Kd.C_below H_a.out hb)
      replace H_b := Aside0.mk (Kd.C_below H_b.out hb)
      replace H_c := Aside0.mk (Kd.C_below H_c.out hb)
      replace H_m := Aside0.mk (Kd.C_below H_m.out hb)
      replace H_n := Aside0.mk (Kd.C_below H_n.out hb)
      replace HB := Aside0.mk (below_step HB.out hb)
      clear hb
      go_wp2_with fail
      refine (pannierlaw08_Same.tc _ _ (meetL la lb) _ _ (plainL la) _ H_n.out K_n.out H_x.out K_x.out (len_meet HLa.out HLb.out) (below_is_meet _ _)).mono ?_
      rintro e w' ⟨rfl, hb⟩
      replace H_a := Aside0.mk (Kd.C_below H_a.out hb)
      replace H_b := Aside0.mk (Kd.C_below H_b.out hb)
      replace H_c := Aside0.mk (Kd.C_below H_c.out hb)
      replace H_m := Aside0.mk (Kd.C_below H_m.out hb)
      replace H_n := Aside0.mk (Kd.C_below H_n.out hb)
      replace H_x := Aside0.mk (Kd.C_below H_x.out hb)
      replace HB := Aside0.mk (below_step HB.out hb)
      clear hb
      clear H_x K_x
      go_wp2
      go_ret
      exact ⟨by simp, HB.out⟩
set_option maxHeartbeats 4000000 in
set_option maxRecDepth 100000 in
theorem VvOrder.main2 (w : World) (A_a : Option Addr) (c_a : Nat) (la : List Int) (A_b : Option Addr) (c_b : Nat) (lb : List Int) (A_c : Option Addr) (c_c : Nat) (lc : List Int) (hra : Kd.C (Kd.int .i64) w A_a la.length la) (hka : la.length ≤ c_a) (hrb : Kd.C (Kd.int .i64) w A_b lb.length lb) (hkb : lb.length ≤ c_b) (hrc : Kd.C (Kd.int .i64) w A_c lc.length lc) (hkc : lc.length ≤ c_c) (hla : la.length < 17592186044416) (hlb : lb.length < 17592186044416) (hlc : lc.length < 17592186044416) (hma : mayB la = true) (hmb : mayB lb = true) (hmc : mayB lc = true) (hp1 : belowB la lc = true) (hp2 : belowB lb lc = true) :
    Calls Try.prog 4 #[.slice A_a la.length c_a, .slice A_b lb.length c_b, .slice A_c lc.length c_c] w fun e w' => e = .returned (.bool true) ∧ Below w.heap.size w w' := by
  have HMa := Aside0.mk hma
  clear hma
  have HMb := Aside0.mk hmb
  clear hmb
  have HMc := Aside0.mk hmc
  clear hmc
  have HP1 := Aside0.mk hp1
  clear hp1
  have HP2 := Aside0.mk hp2
  clear hp2
  have H_a := Aside0.mk hra
  have K_a := Aside0.mk hka
  have HLa := Aside0.mk hla
  clear hra hka hla
  have H_b := Aside0.mk hrb
  have K_b := Aside0.mk hkb
  have HLb := Aside0.mk hlb
  clear hrb hkb hlb
  have H_c := Aside0.mk hrc
  have K_c := Aside0.mk hkc
  have HLc := Aside0.mk hlc
  clear hrc hkc hlc
  have HB := Aside0.mk (Below.refl w.heap.size w)
  go_enter Try.func4, Try.ntmps4
  go_wp2_with fail
  refine (pannierlaw08_lives.calls true _ rfl).mono ?_
  rintro e w' ⟨rfl, hb⟩
  replace H_a := Aside0.mk (Kd.C_below H_a.out hb)
  replace H_b := Aside0.mk (Kd.C_below H_b.out hb)
  replace H_c := Aside0.mk (Kd.C_below H_c.out hb)
  replace HB := Aside0.mk (below_step HB.out hb)
  clear hb
  go_wp2_with fail
  refine (pannierref08_May.tc _ _ la _ H_a.out K_a.out HLa.out HMa.out).mono ?_
  rintro e w' ⟨rfl, hb⟩
  replace H_a := Aside0.mk (Kd.C_below H_a.out hb)
  replace H_b := Aside0.mk (Kd.C_below H_b.out hb)
  replace H_c := Aside0.mk (Kd.C_below H_c.out hb)
  replace HB := Aside0.mk (below_step HB.out hb)
  clear hb
  go_wp2_with fail
  refine (pannierref08_May.tc _ _ lb _ H_b.out K_b.out HLb.out HMb.out).mono ?_
  rintro e w' ⟨rfl, hb⟩
  replace H_a := Aside0.mk (Kd.C_below H_a.out hb)
  replace H_b := Aside0.mk (Kd.C_below H_b.out hb)
  replace H_c := Aside0.mk (Kd.C_below H_c.out hb)
  replace HB := Aside0.mk (below_step HB.out hb)
  clear hb
  go_wp2_with fail
  refine (pannierref08_May.tc _ _ lc _ H_c.out K_c.out HLc.out HMc.out).mono ?_
  rintro e w' ⟨rfl, hb⟩
  replace H_a := Aside0.mk (Kd.C_below H_a.out hb)
  replace H_b := Aside0.mk (Kd.C_below H_b.out hb)
  replace H_c := Aside0.mk (Kd.C_below H_c.out hb)
  replace HB := Aside0.mk (below_step HB.out hb)
  clear hb
  go_wp2_with fail
  refine (vv_Merge.tc _ _ la _ _ lb _ H_a.out K_a.out H_b.out K_b.out HLa.out HLb.out).mono ?_
  rintro e w' ⟨A_m, c_m, rfl, hk, hr, hb⟩
  have K_m := Aside0.mk hk
  have H_m := Aside0.mk hr
  clear hk hr
  replace H_a := Aside0.mk (Kd.C_below H_a.out hb)
  replace H_b := Aside0.mk (Kd.C_below H_b.out hb)
  replace H_c := Aside0.mk (Kd.C_below H_c.out hb)
  replace HB := Aside0.mk (below_step HB.out hb)
  clear hb
  go_wp2_with fail
  refine (vv_Meet.tc _ _ la _ _ lb _ H_a.out K_a.out H_b.out K_b.out HLa.out HLb.out).mono ?_
  rintro e w' ⟨A_n, c_n, rfl, hk, hr, hb⟩
  have K_n := Aside0.mk hk
  have H_n := Aside0.mk hr
  clear hk hr
  replace H_a := Aside0.mk (Kd.C_below H_a.out hb)
  replace H_b := Aside0.mk (Kd.C_below H_b.out hb)
  replace H_c := Aside0.mk (Kd.C_below H_c.out hb)
  replace H_m := Aside0.mk (Kd.C_below H_m.out hb)
  replace HB := Aside0.mk (below_step HB.out hb)
  clear hb
  go_wp2_with fail
  refine (vv_Merge.tc _ _ lb _ _ la _ H_b.out K_b.out H_a.out K_a.out HLb.out HLa.out).mono ?_
  rintro e w' ⟨A_x, c_x, rfl, hk, hr, hb⟩
  have K_x := Aside0.mk hk
  have H_x := Aside0.mk hr
  clear hk hr
  replace H_a := Aside0.mk (Kd.C_below H_a.out hb)
  replace H_b := Aside0.mk (Kd.C_below H_b.out hb)
  replace H_c := Aside0.mk (Kd.C_below H_c.out hb)
  replace H_m := Aside0.mk (Kd.C_below H_m.out hb)
  replace H_n := Aside0.mk (Kd.C_below H_n.out hb)
  replace HB := Aside0.mk (below_step HB.out hb)
  clear hb
  go_wp2_with fail
  refine (pannierlaw08_Same.tc _ _ (mergeL la lb) _ _ (mergeL lb la) _ H_m.out K_m.out H_x.out K_x.out (len_merge HLa.out HLb.out) (decide_eq_true (merge_comm _ _))).mono ?_
  rintro e w' ⟨rfl, hb⟩
  replace H_a := Aside0.mk (Kd.C_below H_a.out hb)
  replace H_b := Aside0.mk (Kd.C_below H_b.out hb)
  replace H_c := Aside0.mk (Kd.C_below H_c.out hb)
  replace H_m := Aside0.mk (Kd.C_below H_m.out hb)
  replace H_n := Aside0.mk (Kd.C_below H_n.out hb)
  replace H_x := Aside0.mk (Kd.C_below H_x.out hb)
  replace HB := Aside0.mk (below_step HB.out hb)
  clear hb
  clear H_x K_x
  go_wp2_with fail
  refine (vv_Meet.tc _ _ lb _ _ la _ H_b.out K_b.out H_a.out K_a.out HLb.out HLa.out).mono ?_
  rintro e w' ⟨A_x, c_x, rfl, hk, hr, hb⟩
  have K_x := Aside0.mk hk
  have H_x := Aside0.mk hr
  clear hk hr
  replace H_a := Aside0.mk (Kd.C_below H_a.out hb)
  replace H_b := Aside0.mk (Kd.C_below H_b.out hb)
  replace H_c := Aside0.mk (Kd.C_below H_c.out hb)
  replace H_m := Aside0.mk (Kd.C_below H_m.out hb)
  replace H_n := Aside0.mk (Kd.C_below H_n.out hb)
  replace HB := Aside0.mk (below_step HB.out hb)
  clear hb
  go_wp2_with fail
  refine (pannierlaw08_Same.tc _ _ (meetL la lb) _ _ (meetL lb la) _ H_n.out K_n.out H_x.out K_x.out (len_meet HLa.out HLb.out) (decide_eq_true (meet_comm _ _))).mono ?_
  rintro e w' ⟨rfl, hb⟩
  replace H_a := Aside0.mk (Kd.C_below H_a.out hb)
  replace H_b := Aside0.mk (Kd.C_below H_b.out hb)
  replace H_c := Aside0.mk (Kd.C_below H_c.out hb)
  replace H_m := Aside0.mk (Kd.C_below H_m.out hb)
  replace H_n := Aside0.mk (Kd.C_below H_n.out hb)
  replace H_x := Aside0.mk (Kd.C_below H_x.out hb)
  replace HB := Aside0.mk (below_step HB.out hb)
  clear hb
  clear H_x K_x
  go_wp2_with fail
  refine (vv_Merge.tc _ _ la _ _ la _ H_a.out K_a.out H_a.out K_a.out HLa.out HLa.out).mono ?_
  rintro e w' ⟨A_x, c_x, rfl, hk, hr, hb⟩
  have K_x := Aside0.mk hk
  have H_x := Aside0.mk hr
  clear hk hr
  replace H_a := Aside0.mk (Kd.C_below H_a.out hb)
  replace H_b := Aside0.mk (Kd.C_below H_b.out hb)
  replace H_c := Aside0.mk (Kd.C_below H_c.out hb)
  replace H_m := Aside0.mk (Kd.C_below H_m.out hb)
  replace H_n := Aside0.mk (Kd.C_below H_n.out hb)
  replace HB := Aside0.mk (below_step HB.out hb)
  clear hb
  go_wp2_with fail
  refine (vv_Plain.tc _ _ la _ H_a.out K_a.out HLa.out).mono ?_
  rintro e w' ⟨A_y, c_y, rfl, hk, hr, hb⟩
  have K_y := Aside0.mk hk
  have H_y := Aside0.mk hr
  clear hk hr
  replace H_a := Aside0.mk (Kd.C_below H_a.out hb)
  replace H_b := Aside0.mk (Kd.C_below H_b.out hb)
  replace H_c := Aside0.mk (Kd.C_below H_c.out hb)
  replace H_m := Aside0.mk (Kd.C_below H_m.out hb)
  replace H_n := Aside0.mk (Kd.C_below H_n.out hb)
  replace H_x := Aside0.mk (Kd.C_below H_x.out hb)
  replace HB := Aside0.mk (below_step HB.out hb)
  clear hb
  go_wp2_with fail
  refine (pannierlaw08_Same.tc _ _ (mergeL la la) _ _ (plainL la) _ H_x.out K_x.out H_y.out K_y.out (len_merge HLa.out HLa.out) (decide_eq_true (merge_self _))).mono ?_
  rintro e w' ⟨rfl, hb⟩
  replace H_a := Aside0.mk (Kd.C_below H_a.out hb)
  replace H_b := Aside0.mk (Kd.C_below H_b.out hb)
  replace H_c := Aside0.mk (Kd.C_below H_c.out hb)
  replace H_m := Aside0.mk (Kd.C_below H_m.out hb)
  replace H_n := Aside0.mk (Kd.C_below H_n.out hb)
  replace H_x := Aside0.mk (Kd.C_below H_x.out hb)
  replace H_y := Aside0.mk (Kd.C_below H_y.out hb)
  replace HB := Aside0.mk (below_step HB.out hb)
  clear hb
  clear H_x K_x
  clear H_y K_y
  go_wp2_with fail
  refine (vv_Meet.tc _ _ la _ _ la _ H_a.out K_a.out H_a.out K_a.out HLa.out HLa.out).mono ?_
  rintro e w' ⟨A_x, c_x, rfl, hk, hr, hb⟩
  have K_x := Aside0.mk hk
  have H_x := Aside0.mk hr
  clear hk hr
  replace H_a := Aside0.mk (Kd.C_below H_a.out hb)
  replace H_b := Aside0.mk (Kd.C_below H_b.out hb)
  replace H_c := Aside0.mk (Kd.C_below H_c.out hb)
  replace H_m := Aside0.mk (Kd.C_below H_m.out hb)
  replace H_n := Aside0.mk (Kd.C_below H_n.out hb)
  replace HB := Aside0.mk (below_step HB.out hb)
  clear hb
  go_wp2_with fail
  refine (vv_Plain.tc _ _ la _ H_a.out K_a.out HLa.out).mono ?_
  rintro e w' ⟨A_y, c_y, rfl, hk, hr, hb⟩
  have K_y := Aside0.mk hk
  have H_y := Aside0.mk hr
  clear hk hr
  replace H_a := Aside0.mk (Kd.C_below H_a.out hb)
  replace H_b := Aside0.mk (Kd.C_below H_b.out hb)
  replace H_c := Aside0.mk (Kd.C_below H_c.out hb)
  replace H_m := Aside0.mk (Kd.C_below H_m.out hb)
  replace H_n := Aside0.mk (Kd.C_below H_n.out hb)
  replace H_x := Aside0.mk (Kd.C_below H_x.out hb)
  replace HB := Aside0.mk (below_step HB.out hb)
  clear hb
  go_wp2_with fail
  refine (pannierlaw08_Same.tc _ _ (meetL la la) _ _ (plainL la) _ H_x.out K_x.out H_y.out K_y.out (len_meet HLa.out HLa.out) (decide_eq_true (meet_self _))).mono ?_
  rintro e w' ⟨rfl, hb⟩
  replace H_a := Aside0.mk (Kd.C_below H_a.out hb)
  replace H_b := Aside0.mk (Kd.C_below H_b.out hb)
  replace H_c := Aside0.mk (Kd.C_below H_c.out hb)
  replace H_m := Aside0.mk (Kd.C_below H_m.out hb)
  replace H_n := Aside0.mk (Kd.C_below H_n.out hb)
  replace H_x := Aside0.mk (Kd.C_below H_x.out hb)
  replace H_y := Aside0.mk (Kd.C_below H_y.out hb)
  replace HB := Aside0.mk (below_step HB.out hb)
  clear hb
  clear H_x K_x
  clear H_y K_y
  go_wp2_with fail
  refine (vv_Merge.tc _ _ (mergeL la lb) _ _ lc _ H_m.out K_m.out H_c.out K_c.out (len_merge HLa.out HLb.out) HLc.out).mono ?_
  rintro e w' ⟨A_x, c_x, rfl, hk, hr, hb⟩
  have K_x := Aside0.mk hk
  have H_x := Aside0.mk hr
  clear hk hr
  replace H_a := Aside0.mk (Kd.C_below H_a.out hb)
  replace H_b := Aside0.mk (Kd.C_below H_b.out hb)
  replace H_c := Aside0.mk (Kd.C_below H_c.out hb)
  replace H_m := Aside0.mk (Kd.C_below H_m.out hb)
  replace H_n := Aside0.mk (Kd.C_below H_n.out hb)
  replace HB := Aside0.mk (below_step HB.out hb)
  clear hb
  go_wp2_with fail
  refine (vv_Merge.tc _ _ lb _ _ lc _ H_b.out K_b.out H_c.out K_c.out HLb.out HLc.out).mono ?_
  rintro e w' ⟨A_y, c_y, rfl, hk, hr, hb⟩
  have K_y := Aside0.mk hk
  have H_y := Aside0.mk hr
  clear hk hr
  replace H_a := Aside0.mk (Kd.C_below H_a.out hb)
  replace H_b := Aside0.mk (Kd.C_below H_b.out hb)
  replace H_c := Aside0.mk (Kd.C_below H_c.out hb)
  replace H_m := Aside0.mk (Kd.C_below H_m.out hb)
  replace H_n := Aside0.mk (Kd.C_below H_n.out hb)
  replace H_x := Aside0.mk (Kd.C_below H_x.out hb)
  replace HB := Aside0.mk (below_step HB.out hb)
  clear hb
  go_wp2_with fail
  refine (vv_Merge.tc _ _ la _ _ (mergeL lb lc) _ H_a.out K_a.out H_y.out K_y.out HLa.out (len_merge HLb.out HLc.out)).mono ?_
  rintro e w' ⟨A_z, c_z, rfl, hk, hr, hb⟩
  have K_z := Aside0.mk hk
  have H_z := Aside0.mk hr
  clear hk hr
  replace H_a := Aside0.mk (Kd.C_below H_a.out hb)
  replace H_b := Aside0.mk (Kd.C_below H_b.out hb)
  replace H_c := Aside0.mk (Kd.C_below H_c.out hb)
  replace H_m := Aside0.mk (Kd.C_below H_m.out hb)
  replace H_n := Aside0.mk (Kd.C_below H_n.out hb)
  replace H_x := Aside0.mk (Kd.C_below H_x.out hb)
  replace H_y := Aside0.mk (Kd.C_below H_y.out hb)
  replace HB := Aside0.mk (below_step HB.out hb)
  clear hb
  go_wp2_with fail
  refine (pannierlaw08_Same.tc _ _ (mergeL (mergeL la lb) lc) _ _ (mergeL la (mergeL lb lc)) _ H_x.out K_x.out H_z.out K_z.out (len_merge (len_merge HLa.out HLb.out) HLc.out) (decide_eq_true (merge_assoc _ _ _))).mono ?_
  rintro e w' ⟨rfl, hb⟩
  replace H_a := Aside0.mk (Kd.C_below H_a.out hb)
  replace H_b := Aside0.mk (Kd.C_below H_b.out hb)
  replace H_c := Aside0.mk (Kd.C_below H_c.out hb)
  replace H_m := Aside0.mk (Kd.C_below H_m.out hb)
  replace H_n := Aside0.mk (Kd.C_below H_n.out hb)
  replace H_x := Aside0.mk (Kd.C_below H_x.out hb)
  replace H_y := Aside0.mk (Kd.C_below H_y.out hb)
  replace H_z := Aside0.mk (Kd.C_below H_z.out hb)
  replace HB := Aside0.mk (below_step HB.out hb)
  clear hb
  clear H_x K_x
  clear H_y K_y
  clear H_z K_z
  go_wp2_with fail
  refine (vv_Meet.tc _ _ (meetL la lb) _ _ lc _ H_n.out K_n.out H_c.out K_c.out (len_meet HLa.out HLb.out) HLc.out).mono ?_
  rintro e w' ⟨A_x, c_x, rfl, hk, hr, hb⟩
  have K_x := Aside0.mk hk
  have H_x := Aside0.mk hr
  clear hk hr
  replace H_a := Aside0.mk (Kd.C_below H_a.out hb)
  replace H_b := Aside0.mk (Kd.C_below H_b.out hb)
  replace H_c := Aside0.mk (Kd.C_below H_c.out hb)
  replace H_m := Aside0.mk (Kd.C_below H_m.out hb)
  replace H_n := Aside0.mk (Kd.C_below H_n.out hb)
  replace HB := Aside0.mk (below_step HB.out hb)
  clear hb
  go_wp2_with fail
  refine (vv_Meet.tc _ _ lb _ _ lc _ H_b.out K_b.out H_c.out K_c.out HLb.out HLc.out).mono ?_
  rintro e w' ⟨A_y, c_y, rfl, hk, hr, hb⟩
  have K_y := Aside0.mk hk
  have H_y := Aside0.mk hr
  clear hk hr
  replace H_a := Aside0.mk (Kd.C_below H_a.out hb)
  replace H_b := Aside0.mk (Kd.C_below H_b.out hb)
  replace H_c := Aside0.mk (Kd.C_below H_c.out hb)
  replace H_m := Aside0.mk (Kd.C_below H_m.out hb)
  replace H_n := Aside0.mk (Kd.C_below H_n.out hb)
  replace H_x := Aside0.mk (Kd.C_below H_x.out hb)
  replace HB := Aside0.mk (below_step HB.out hb)
  clear hb
  go_wp2_with fail
  refine (vv_Meet.tc _ _ la _ _ (meetL lb lc) _ H_a.out K_a.out H_y.out K_y.out HLa.out (len_meet HLb.out HLc.out)).mono ?_
  rintro e w' ⟨A_z, c_z, rfl, hk, hr, hb⟩
  have K_z := Aside0.mk hk
  have H_z := Aside0.mk hr
  clear hk hr
  replace H_a := Aside0.mk (Kd.C_below H_a.out hb)
  replace H_b := Aside0.mk (Kd.C_below H_b.out hb)
  replace H_c := Aside0.mk (Kd.C_below H_c.out hb)
  replace H_m := Aside0.mk (Kd.C_below H_m.out hb)
  replace H_n := Aside0.mk (Kd.C_below H_n.out hb)
  replace H_x := Aside0.mk (Kd.C_below H_x.out hb)
  replace H_y := Aside0.mk (Kd.C_below H_y.out hb)
  replace HB := Aside0.mk (below_step HB.out hb)
  clear hb
  go_wp2_with fail
  refine (pannierlaw08_Same.tc _ _ (meetL (meetL la lb) lc) _ _ (meetL la (meetL lb lc)) _ H_x.out K_x.out H_z.out K_z.out (len_meet (len_meet HLa.out HLb.out) HLc.out) (decide_eq_true (meet_assoc _ _ _))).mono ?_
  rintro e w' ⟨rfl, hb⟩
  replace H_a := Aside0.mk (Kd.C_below H_a.out hb)
  replace H_b := Aside0.mk (Kd.C_below H_b.out hb)
  replace H_c := Aside0.mk (Kd.C_below H_c.out hb)
  replace H_m := Aside0.mk (Kd.C_below H_m.out hb)
  replace H_n := Aside0.mk (Kd.C_below H_n.out hb)
  replace H_x := Aside0.mk (Kd.C_below H_x.out hb)
  replace H_y := Aside0.mk (Kd.C_below H_y.out hb)
  replace H_z := Aside0.mk (Kd.C_below H_z.out hb)
  replace HB := Aside0.mk (below_step HB.out hb)
  clear hb
  clear H_x K_x
  clear H_y K_y
  clear H_z K_z
  go_wp2_with fail
  refine (vv_Meet.tc _ _ la _ _ (mergeL la lb) _ H_a.out K_a.out H_m.out K_m.out HLa.out (len_merge HLa.out HLb.out)).mono ?_
  rintro e w' ⟨A_x, c_x, rfl, hk, hr, hb⟩
  have K_x := Aside0.mk hk
  have H_x := Aside0.mk hr
  clear hk hr
  replace H_a := Aside0.mk (Kd.C_below H_a.out hb)
  replace H_b := Aside0.mk (Kd.C_below H_b.out hb)
  replace H_c := Aside0.mk (Kd.C_below H_c.out hb)
  replace H_m := Aside0.mk (Kd.C_below H_m.out hb)
  replace H_n := Aside0.mk (Kd.C_below H_n.out hb)
  replace HB := Aside0.mk (below_step HB.out hb)
  clear hb
  go_wp2_with fail
  refine (vv_Plain.tc _ _ la _ H_a.out K_a.out HLa.out).mono ?_
  rintro e w' ⟨A_y, c_y, rfl, hk, hr, hb⟩
  have K_y := Aside0.mk hk
  have H_y := Aside0.mk hr
  clear hk hr
  replace H_a := Aside0.mk (Kd.C_below H_a.out hb)
  replace H_b := Aside0.mk (Kd.C_below H_b.out hb)
  replace H_c := Aside0.mk (Kd.C_below H_c.out hb)
  replace H_m := Aside0.mk (Kd.C_below H_m.out hb)
  replace H_n := Aside0.mk (Kd.C_below H_n.out hb)
  replace H_x := Aside0.mk (Kd.C_below H_x.out hb)
  replace HB := Aside0.mk (below_step HB.out hb)
  clear hb
  go_wp2_with fail
  refine (pannierlaw08_Same.tc _ _ (meetL la (mergeL la lb)) _ _ (plainL la) _ H_x.out K_x.out H_y.out K_y.out (len_meet HLa.out (len_merge HLa.out HLb.out)) (decide_eq_true (meet_merge _ _))).mono ?_
  rintro e w' ⟨rfl, hb⟩
  replace H_a := Aside0.mk (Kd.C_below H_a.out hb)
  replace H_b := Aside0.mk (Kd.C_below H_b.out hb)
  replace H_c := Aside0.mk (Kd.C_below H_c.out hb)
  replace H_m := Aside0.mk (Kd.C_below H_m.out hb)
  replace H_n := Aside0.mk (Kd.C_below H_n.out hb)
  replace H_x := Aside0.mk (Kd.C_below H_x.out hb)
  replace H_y := Aside0.mk (Kd.C_below H_y.out hb)
  replace HB := Aside0.mk (below_step HB.out hb)
  clear hb
  clear H_x K_x
  clear H_y K_y
  go_wp2_with fail
  refine (vv_Merge.tc _ _ la _ _ (meetL la lb) _ H_a.out K_a.out H_n.out K_n.out HLa.out (len_meet HLa.out HLb.out)).mono ?_
  rintro e w' ⟨A_x, c_x, rfl, hk, hr, hb⟩
  have K_x := Aside0.mk hk
  have H_x := Aside0.mk hr
  clear hk hr
  replace H_a := Aside0.mk (Kd.C_below H_a.out hb)
  replace H_b := Aside0.mk (Kd.C_below H_b.out hb)
  replace H_c := Aside0.mk (Kd.C_below H_c.out hb)
  replace H_m := Aside0.mk (Kd.C_below H_m.out hb)
  replace H_n := Aside0.mk (Kd.C_below H_n.out hb)
  replace HB := Aside0.mk (below_step HB.out hb)
  clear hb
  go_wp2_with fail
  refine (vv_Plain.tc _ _ la _ H_a.out K_a.out HLa.out).mono ?_
  rintro e w' ⟨A_y, c_y, rfl, hk, hr, hb⟩
  have K_y := Aside0.mk hk
  have H_y := Aside0.mk hr
  clear hk hr
  replace H_a := Aside0.mk (Kd.C_below H_a.out hb)
  replace H_b := Aside0.mk (Kd.C_below H_b.out hb)
  replace H_c := Aside0.mk (Kd.C_below H_c.out hb)
  replace H_m := Aside0.mk (Kd.C_below H_m.out hb)
  replace H_n := Aside0.mk (Kd.C_below H_n.out hb)
  replace H_x := Aside0.mk (Kd.C_below H_x.out hb)
  replace HB := Aside0.mk (below_step HB.out hb)
  clear hb
  go_wp2_with fail
  refine (pannierlaw08_Same.tc _ _ (mergeL la (meetL la lb)) _ _ (plainL la) _ H_x.out K_x.out H_y.out K_y.out (len_merge HLa.out (len_meet HLa.out HLb.out)) (decide_eq_true (merge_meet _ _))).mono ?_
  rintro e w' ⟨rfl, hb⟩
  replace H_a := Aside0.mk (Kd.C_below H_a.out hb)
  replace H_b := Aside0.mk (Kd.C_below H_b.out hb)
  replace H_c := Aside0.mk (Kd.C_below H_c.out hb)
  replace H_m := Aside0.mk (Kd.C_below H_m.out hb)
  replace H_n := Aside0.mk (Kd.C_below H_n.out hb)
  replace H_x := Aside0.mk (Kd.C_below H_x.out hb)
  replace H_y := Aside0.mk (Kd.C_below H_y.out hb)
  replace HB := Aside0.mk (below_step HB.out hb)
  clear hb
  clear H_x K_x
  clear H_y K_y
  go_wp2_with fail
  refine (vv_Below.tc _ _ la _ _ (mergeL la lb) _ H_a.out K_a.out H_m.out K_m.out HLa.out (len_merge HLa.out HLb.out) (below_merge _ _)).mono ?_
  rintro e w' ⟨rfl, hb⟩
  replace H_a := Aside0.mk (Kd.C_below H_a.out hb)
  replace H_b := Aside0.mk (Kd.C_below H_b.out hb)
  replace H_c := Aside0.mk (Kd.C_below H_c.out hb)
  replace H_m := Aside0.mk (Kd.C_below H_m.out hb)
  replace H_n := Aside0.mk (Kd.C_below H_n.out hb)
  replace HB := Aside0.mk (below_step HB.out hb)
  clear hb
  go_wp2_with fail
  refine (vv_Below.tc _ _ lb _ _ (mergeL la lb) _ H_b.out K_b.out H_m.out K_m.out HLb.out (len_merge HLa.out HLb.out) (below_merge' _ _)).mono ?_
  rintro e w' ⟨rfl, hb⟩
  replace H_a := Aside0.mk (Kd.C_below H_a.out hb)
  replace H_b := Aside0.mk (Kd.C_below H_b.out hb)
  replace H_c := Aside0.mk (Kd.C_below H_c.out hb)
  replace H_m := Aside0.mk (Kd.C_below H_m.out hb)
  replace H_n := Aside0.mk (Kd.C_below H_n.out hb)
  replace HB := Aside0.mk (below_step HB.out hb)
  clear hb
  go_wp2_with fail
  refine (vv_Below.tc _ _ (meetL la lb) _ _ la _ H_n.out K_n.out H_a.out K_a.out (len_meet HLa.out HLb.out) HLa.out (meet_below _ _)).mono ?_
  rintro e w' ⟨rfl, hb⟩
  replace H_a := Aside0.mk (Kd.C_below H_a.out hb)
  replace H_b := Aside0.mk (Kd.C_below H_b.out hb)
  replace H_c := Aside0.mk (Kd.C_below H_c.out hb)
  replace H_m := Aside0.mk (Kd.C_below H_m.out hb)
  replace H_n := Aside0.mk (Kd.C_below H_n.out hb)
  replace HB := Aside0.mk (below_step HB.out hb)
  clear hb
  go_wp2_with fail
  refine (vv_Below.tc _ _ (meetL la lb) _ _ lb _ H_n.out K_n.out H_b.out K_b.out (len_meet HLa.out HLb.out) HLb.out (meet_below' _ _)).mono ?_
  rintro e w' ⟨rfl, hb⟩
  replace H_a := Aside0.mk (Kd.C_below H_a.out hb)
  replace H_b := Aside0.mk (Kd.C_below H_b.out hb)
  replace H_c := Aside0.mk (Kd.C_below H_c.out hb)
  replace H_m := Aside0.mk (Kd.C_below H_m.out hb)
  replace H_n := Aside0.mk (Kd.C_below H_n.out hb)
  replace HB := Aside0.mk (below_step HB.out hb)
  clear hb
  go_wp2_with fail
  refine (vv_Below.tc _ _ la _ _ lc _ H_a.out K_a.out H_c.out K_c.out HLa.out HLc.out HP1.out).mono ?_
  rintro e w' ⟨rfl, hb⟩
  replace H_a := Aside0.mk (Kd.C_below H_a.out hb)
  replace H_b := Aside0.mk (Kd.C_below H_b.out hb)
  replace H_c := Aside0.mk (Kd.C_below H_c.out hb)
  replace H_m := Aside0.mk (Kd.C_below H_m.out hb)
  replace H_n := Aside0.mk (Kd.C_below H_n.out hb)
  replace HB := Aside0.mk (below_step HB.out hb)
  clear hb
  go_wp2_with fail
  refine (vv_Below.tc _ _ lb _ _ lc _ H_b.out K_b.out H_c.out K_c.out HLb.out HLc.out HP2.out).mono ?_
  rintro e w' ⟨rfl, hb⟩
  replace H_a := Aside0.mk (Kd.C_below H_a.out hb)
  replace H_b := Aside0.mk (Kd.C_below H_b.out hb)
  replace H_c := Aside0.mk (Kd.C_below H_c.out hb)
  replace H_m := Aside0.mk (Kd.C_below H_m.out hb)
  replace H_n := Aside0.mk (Kd.C_below H_n.out hb)
  replace HB := Aside0.mk (below_step HB.out hb)
  clear hb
  go_wp2_with fail
  refine (vv_Below.tc _ _ (mergeL la lb) _ _ lc _ H_m.out K_m.out H_c.out K_c.out (len_merge HLa.out HLb.out) HLc.out (merge_least HP1.out HP2.out)).mono ?_
  rintro e w' ⟨rfl, hb⟩
  replace H_a := Aside0.mk (Kd.C_below H_a.out hb)
  replace H_b := Aside0.mk (Kd.C_below H_b.out hb)
  replace H_c := Aside0.mk (Kd.C_below H_c.out hb)
  replace H_m := Aside0.mk (Kd.C_below H_m.out hb)
  replace H_n := Aside0.mk (Kd.C_below H_n.out hb)
  replace HB := Aside0.mk (below_step HB.out hb)
  clear hb
  rcases hq : belowB lc la with _ | _
  · have HQ1 := Aside0.mk hq
    clear hq
    go_wp2_with fail
    refine (vv_Below.tc _ _ lc _ _ la _ H_c.out K_c.out H_a.out K_a.out HLc.out HLa.out HQ1.out).mono ?_
    rintro e w' ⟨rfl, hb⟩
    replace H_a := Aside0.mk (Kd.C_below H_a.out hb)
    replace H_b := Aside0.mk (Kd.C_below H_b.out hb)
    replace H_c := Aside0.mk (Kd.C_below H_c.out hb)
    replace H_m := Aside0.mk (Kd.C_below H_m.out hb)
    replace H_n := Aside0.mk (Kd.C_below H_n.out hb)
    replace HB := Aside0.mk (below_step HB.out hb)
    clear hb
    go_wp2_with fail
    refine (vv_Below.tc _ _ la _ _ lb _ H_a.out K_a.out H_b.out K_b.out HLa.out HLb.out rfl).mono ?_
    rintro e w' ⟨rfl, hb⟩
    replace H_a := Aside0.mk (Kd.C_below H_a.out hb)
    replace H_b := Aside0.mk (Kd.C_below H_b.out hb)
    replace H_c := Aside0.mk (Kd.C_below H_c.out hb)
    replace H_m := Aside0.mk (Kd.C_below H_m.out hb)
    replace H_n := Aside0.mk (Kd.C_below H_n.out hb)
    replace HB := Aside0.mk (below_step HB.out hb)
    clear hb
    go_wp2_with fail
    refine (vv_Plain.tc _ _ lb _ H_b.out K_b.out HLb.out).mono ?_
    rintro e w' ⟨A_x, c_x, rfl, hk, hr, hb⟩
    have K_x := Aside0.mk hk
    have H_x := Aside0.mk hr
    clear hk hr
    replace H_a := Aside0.mk (Kd.C_below H_a.out hb)
    replace H_b := Aside0.mk (Kd.C_below H_b.out hb)
    replace H_c := Aside0.mk (Kd.C_below H_c.out hb)
    replace H_m := Aside0.mk (Kd.C_below H_m.out hb)
    replace H_n := Aside0.mk (Kd.C_below H_n.out hb)
    replace HB := Aside0.mk (below_step HB.out hb)
    clear hb
    go_wp2_with fail
    refine (pannierlaw08_Same.tc _ _ (mergeL la lb) _ _ (plainL lb) _ H_m.out K_m.out H_x.out K_x.out (len_merge HLa.out HLb.out) (below_is_merge _ _)).mono ?_
    rintro e w' ⟨rfl, hb⟩
    replace H_a := Aside0.mk (Kd.C_below H_a.out hb)
    replace H_b := Aside0.mk (Kd.C_below H_b.out hb)
    replace H_c := Aside0.mk (Kd.C_below H_c.out hb)
    replace H_m := Aside0.mk (Kd.C_below H_m.out hb)
    replace H_n := Aside0.mk (Kd.C_below H_n.out hb)
    replace H_x := Aside0.mk (Kd.C_below H_x.out hb)
    replace HB := Aside0.mk (below_step HB.out hb)
    clear hb
    clear H_x K_x
    go_wp2_with fail
    refine (vv_Below.tc _ _ la _ _ lb _ H_a.out K_a.out H_b.out K_b.out HLa.out HLb.out rfl).mono ?_
    rintro e w' ⟨rfl, hb⟩
    replace H_a := Aside0.mk (Kd.C_below H_a.out hb)
    replace H_b := Aside0.mk (Kd.C_below H_b.out hb)
    replace H_c := Aside0.mk (Kd.C_below H_c.out hb)
    replace H_m := Aside0.mk (Kd.C_below H_m.out hb)
    replace H_n := Aside0.mk (Kd.C_below H_n.out hb)
    replace HB := Aside0.mk (below_step HB.out hb)
    clear hb
    go_wp2_with fail
    refine (vv_Plain.tc _ _ la _ H_a.out K_a.out HLa.out).mono ?_
    rintro e w' ⟨A_x, c_x, rfl, hk, hr, hb⟩
    have K_x := Aside0.mk hk
    have H_x := Aside0.mk hr
    clear hk hr
    replace H_a := Aside0.mk (Kd.C_below H_a.out hb)
    replace H_b := Aside0.mk (Kd.C_below H_b.out hb)
    replace H_c := Aside0.mk (Kd.C_below H_c.out hb)
    replace H_m := Aside0.mk (Kd.C_below H_m.out hb)
    replace H_n := Aside0.mk (Kd.C_below H_n.out hb)
    replace HB := Aside0.mk (below_step HB.out hb)
    clear hb
    go_wp2_with fail
    refine (pannierlaw08_Same.tc _ _ (meetL la lb) _ _ (plainL la) _ H_n.out K_n.out H_x.out K_x.out (len_meet HLa.out HLb.out) (below_is_meet _ _)).mono ?_
    rintro e w' ⟨rfl, hb⟩
    replace H_a := Aside0.mk (Kd.C_below H_a.out hb)
    replace H_b := Aside0.mk (Kd.C_below H_b.out hb)
    replace H_c := Aside0.mk (Kd.C_below H_c.out hb)
    replace H_m := Aside0.mk (Kd.C_below H_m.out hb)
    replace H_n := Aside0.mk (Kd.C_below H_n.out hb)
    replace H_x := Aside0.mk (Kd.C_below H_x.out hb)
    replace HB := Aside0.mk (below_step HB.out hb)
    clear hb
    clear H_x K_x
    go_wp2
    go_ret
    exact ⟨by simp, HB.out⟩
  · have HQ1 := Aside0.mk hq
    clear hq
    go_wp2_with fail
    refine (vv_Below.tc _ _ lc _ _ la _ H_c.out K_c.out H_a.out K_a.out HLc.out HLa.out HQ1.out).mono ?_
    rintro e w' ⟨rfl, hb⟩
    replace H_a := Aside0.mk (Kd.C_below H_a.out hb)
    replace H_b := Aside0.mk (Kd.C_below H_b.out hb)
    replace H_c := Aside0.mk (Kd.C_below H_c.out hb)
    replace H_m := Aside0.mk (Kd.C_below H_m.out hb)
    replace H_n := Aside0.mk (Kd.C_below H_n.out hb)
    replace HB := Aside0.mk (below_step HB.out hb)
    clear hb
    rcases hq : belowB lc lb with _ | _
    · have HQ2 := Aside0.mk hq
      clear hq
      go_wp2_with fail
      refine (vv_Below.tc _ _ lc _ _ lb _ H_c.out K_c.out H_b.out K_b.out HLc.out HLb.out HQ2.out).mono ?_
      rintro e w' ⟨rfl, hb⟩
      replace H_a := Aside0.mk (Kd.C_below H_a.out hb)
      replace H_b := Aside0.mk (Kd.C_below H_b.out hb)
      replace H_c := Aside0.mk (Kd.C_below H_c.out hb)
      replace H_m := Aside0.mk (Kd.C_below H_m.out hb)
      replace H_n := Aside0.mk (Kd.C_below H_n.out hb)
      replace HB := Aside0.mk (below_step HB.out hb)
      clear hb
      go_wp2_with fail
      refine (vv_Below.tc _ _ la _ _ lb _ H_a.out K_a.out H_b.out K_b.out HLa.out HLb.out rfl).mono ?_
      rintro e w' ⟨rfl, hb⟩
      replace H_a := Aside0.mk (Kd.C_below H_a.out hb)
      replace H_b := Aside0.mk (Kd.C_below H_b.out hb)
      replace H_c := Aside0.mk (Kd.C_below H_c.out hb)
      replace H_m := Aside0.mk (Kd.C_below H_m.out hb)
      replace H_n := Aside0.mk (Kd.C_below H_n.out hb)
      replace HB := Aside0.mk (below_step HB.out hb)
      clear hb
      go_wp2_with fail
      refine (vv_Plain.tc _ _ lb _ H_b.out K_b.out HLb.out).mono ?_
      rintro e w' ⟨A_x, c_x, rfl, hk, hr, hb⟩
      have K_x := Aside0.mk hk
      have H_x := Aside0.mk hr
      clear hk hr
      replace H_a := Aside0.mk (Kd.C_below H_a.out hb)
      replace H_b := Aside0.mk (Kd.C_below H_b.out hb)
      replace H_c := Aside0.mk (Kd.C_below H_c.out hb)
      replace H_m := Aside0.mk (Kd.C_below H_m.out hb)
      replace H_n := Aside0.mk (Kd.C_below H_n.out hb)
      replace HB := Aside0.mk (below_step HB.out hb)
      clear hb
      go_wp2_with fail
      refine (pannierlaw08_Same.tc _ _ (mergeL la lb) _ _ (plainL lb) _ H_m.out K_m.out H_x.out K_x.out (len_merge HLa.out HLb.out) (below_is_merge _ _)).mono ?_
      rintro e w' ⟨rfl, hb⟩
      replace H_a := Aside0.mk (Kd.C_below H_a.out hb)
      replace H_b := Aside0.mk (Kd.C_below H_b.out hb)
      replace H_c := Aside0.mk (Kd.C_below H_c.out hb)
      replace H_m := Aside0.mk (Kd.C_below H_m.out hb)
      replace H_n := Aside0.mk (Kd.C_below H_n.out hb)
      replace H_x := Aside0.mk (Kd.C_below H_x.out hb)
      replace HB := Aside0.mk (below_step HB.out hb)
      clear hb
      clear H_x K_x
      go_wp2_with fail
      refine (vv_Below.tc _ _ la _ _ lb _ H_a.out K_a.out H_b.out K_b.out HLa.out HLb.out rfl).mono ?_
      rintro e w' ⟨rfl, hb⟩
      replace H_a := Aside0.mk (Kd.C_below H_a.out hb)
      replace H_b := Aside0.mk (Kd.C_below H_b.out hb)
      replace H_c := Aside0.mk (Kd.C_below H_c.out hb)
      replace H_m := Aside0.mk (Kd.C_below H_m.out hb)
      replace H_n := Aside0.mk (Kd.C_below H_n.out hb)
      replace HB := Aside0.mk (below_step HB.out hb)
      clear hb
      go_wp2_with fail
      refine (vv_Plain.tc _ _ la _ H_a.out K_a.out HLa.out).mono ?_
      rintro e w' ⟨A_x, c_x, rfl, hk, hr, hb⟩
      have K_x := Aside0.mk hk
      have H_x := Aside0.mk hr
      clear hk hr
      replace H_a := Aside0.mk (Kd.C_below H_a.out hb)
      replace H_b := Aside0.mk (Kd.C_below H_b.out hb)
      replace H_c := Aside0.mk (Kd.C_below H_c.out hb)
      replace H_m := Aside0.mk (Kd.C_below H_m.out hb)
      replace H_n := Aside0.mk (Kd.C_below H_n.out hb)
      replace HB := Aside0.mk (below_step HB.out hb)
      clear hb
      go_wp2_with fail
      refine (pannierlaw08_Same.tc _ _ (meetL la lb) _ _ (plainL la) _ H_n.out K_n.out H_x.out K_x.out (len_meet HLa.out HLb.out) (below_is_meet _ _)).mono ?_
      rintro e w' ⟨rfl, hb⟩
      replace H_a := Aside0.mk (Kd.C_below H_a.out hb)
      replace H_b := Aside0.mk (Kd.C_below H_b.out hb)
      replace H_c := Aside0.mk (Kd.C_below H_c.out hb)
      replace H_m := Aside0.mk (Kd.C_below H_m.out hb)
      replace H_n := Aside0.mk (Kd.C_below H_n.out hb)
      replace H_x := Aside0.mk (Kd.C_below H_x.out hb)
      replace HB := Aside0.mk (below_step HB.out hb)
      clear hb
      clear H_x K_x
      go_wp2
      go_ret
      exact ⟨by simp, HB.out⟩
    · have HQ2 := Aside0.mk hq
      clear hq
      go_wp2_with fail
      refine (vv_Below.tc _ _ lc _ _ lb _ H_c.out K_c.out H_b.out K_b.out HLc.out HLb.out HQ2.out).mono ?_
      rintro e w' ⟨rfl, hb⟩
      replace H_a := Aside0.mk (Kd.C_below H_a.out hb)
      replace H_b := Aside0.mk (Kd.C_below H_b.out hb)
      replace H_c := Aside0.mk (Kd.C_below H_c.out hb)
      replace H_m := Aside0.mk (Kd.C_below H_m.out hb)
      replace H_n := Aside0.mk (Kd.C_below H_n.out hb)
      replace HB := Aside0.mk (below_step HB.out hb)
      clear hb
      go_wp2_with fail
      refine (vv_Below.tc _ _ lc _ _ (meetL la lb) _ H_c.out K_c.out H_n.out K_n.out HLc.out (len_meet HLa.out HLb.out) (meet_greatest HQ1.out HQ2.out)).mono ?_
      rintro e w' ⟨rfl, hb⟩
      replace H_a := Aside0.mk (Kd.C_below H_a.out hb)
      replace H_b := Aside0.mk (Kd.C_below H_b.out hb)
      replace H_c := Aside0.mk (Kd.C_below H_c.out hb)
      replace H_m := Aside0.mk (Kd.C_below H_m.out hb)
      replace H_n := Aside0.mk (Kd.C_below H_n.out hb)
      replace HB := Aside0.mk (below_step HB.out hb)
      clear hb
      go_wp2_with fail
      refine (vv_Below.tc _ _ la _ _ lb _ H_a.out K_a.out H_b.out K_b.out HLa.out HLb.out rfl).mono ?_
      rintro e w' ⟨rfl, hb⟩
      replace H_a := Aside0.mk (Kd.C_below H_a.out hb)
      replace H_b := Aside0.mk (Kd.C_below H_b.out hb)
      replace H_c := Aside0.mk (Kd.C_below H_c.out hb)
      replace H_m := Aside0.mk (Kd.C_below H_m.out hb)
      replace H_n := Aside0.mk (Kd.C_below H_n.out hb)
      replace HB := Aside0.mk (below_step HB.out hb)
      clear hb
      go_wp2_with fail
      refine (vv_Plain.tc _ _ lb _ H_b.out K_b.out HLb.out).mono ?_
      rintro e w' ⟨A_x, c_x, rfl, hk, hr, hb⟩
      have K_x := Aside0.mk hk
      have H_x := Aside0.mk hr
      clear hk hr
      replace H_a := Aside0.mk (Kd.C_below H_a.out hb)
      replace H_b := Aside0.mk (Kd.C_below H_b.out hb)
      replace H_c := Aside0.mk (Kd.C_below H_c.out hb)
      replace H_m := Aside0.mk (Kd.C_below H_m.out hb)
      replace H_n := Aside0.mk (Kd.C_below H_n.out hb)
      replace HB := Aside0.mk (below_step HB.out hb)
      clear hb
      go_wp2_with fail
      refine (pannierlaw08_Same.tc _ _ (mergeL la lb) _ _ (plainL lb) _ H_m.out K_m.out H_x.out K_x.out (len_merge HLa.out HLb.out) (below_is_merge _ _)).mono ?_
      rintro e w' ⟨rfl, hb⟩
      replace H_a := Aside0.mk (Kd.C_below H_a.out hb)
      replace H_b := Aside0.mk (Kd.C_below H_b.out hb)
      replace H_c := Aside0.mk (Kd.C_below H_c.out hb)
      replace H_m := Aside0.mk (Kd.C_below H_m.out hb)
      replace H_n := Aside0.mk (Kd.C_below H_n.out hb)
      replace H_x := Aside0.mk (Kd.C_below H_x.out hb)
      replace HB := Aside0.mk (below_step HB.out hb)
      clear hb
      clear H_x K_x
      go_wp2_with fail
      refine (vv_Below.tc _ _ la _ _ lb _ H_a.out K_a.out H_b.out K_b.out HLa.out HLb.out rfl).mono ?_
      rintro e w' ⟨rfl, hb⟩
      replace H_a := Aside0.mk (Kd.C_below H_a.out hb)
      replace H_b := Aside0.mk (Kd.C_below H_b.out hb)
      replace H_c := Aside0.mk (Kd.C_below H_c.out hb)
      replace H_m := Aside0.mk (Kd.C_below H_m.out hb)
      replace H_n := Aside0.mk (Kd.C_below H_n.out hb)
      replace HB := Aside0.mk (below_step HB.out hb)
      clear hb
      go_wp2_with fail
      refine (vv_Plain.tc _ _ la _ H_a.out K_a.out HLa.out).mono ?_
      rintro e w' ⟨A_x, c_x, rfl, hk, hr, hb⟩
      have K_x := Aside0.mk hk
      have H_x := Aside0.mk hr
      clear hk hr
      replace H_a := Aside0.mk (Kd.C_below H_a.out hb)
      replace H_b := Aside0.mk (Kd.C_below H_b.out hb)
      replace H_c := Aside0.mk (Kd.C_below H_c.out hb)
      replace H_m := Aside0.mk (Kd.C_below H_m.out hb)
      replace H_n := Aside0.mk (Kd.C_below H_n.out hb)
      replace HB := Aside0.mk (below_step HB.out hb)
      clear hb
      go_wp2_with fail
      refine (pannierlaw08_Same.tc _ _ (meetL la lb) _ _ (plainL la) _ H_n.out K_n.out H_x.out K_x.out (len_meet HLa.out HLb.out) (below_is_meet _ _)).mono ?_
      rintro e w' ⟨rfl, hb⟩
      replace H_a := Aside0.mk (Kd.C_below H_a.out hb)
      replace H_b := Aside0.mk (Kd.C_below H_b.out hb)
      replace H_c := Aside0.mk (Kd.C_below H_c.out hb)
      replace H_m := Aside0.mk (Kd.C_below H_m.out hb)
      replace H_n := Aside0.mk (Kd.C_below H_n.out hb)
      replace H_x := Aside0.mk (Kd.C_below H_x.out hb)
      replace HB := Aside0.mk (below_step HB.out hb)
      clear hb
      clear H_x K_x
      go_wp2
      go_ret
      exact ⟨by simp, HB.out⟩
theorem pannierlaw08_VvOrder.walked (w : World) (A_a : Option Addr) (c_a : Nat) (la : List Int) (hra : Kd.C (Kd.int .i64) w A_a la.length la) (hka : la.length ≤ c_a) (_ : ∀ x ∈ la, (Lit.int .i64 x).wf = true) (y0 : la.length * 8 ≤ 140737488351232)
    (A_b : Option Addr) (c_b : Nat) (lb : List Int) (hrb : Kd.C (Kd.int .i64) w A_b lb.length lb) (hkb : lb.length ≤ c_b) (_ : ∀ x ∈ lb, (Lit.int .i64 x).wf = true) (y1 : lb.length * 8 ≤ 140737488351232)
    (A_c : Option Addr) (c_c : Nat) (lc : List Int) (hrc : Kd.C (Kd.int .i64) w A_c lc.length lc) (hkc : lc.length ≤ c_c) (_ : ∀ x ∈ lc, (Lit.int .i64 x).wf = true) (y2 : lc.length * 8 ≤ 140737488351232) :
    Calls Try.prog 4 #[.slice A_a la.length c_a, .slice A_b lb.length c_b, .slice A_c lc.length c_c] w fun e w' => e = .returned (.bool true) ∧ Below w.heap.size w w' := by
  have hla : la.length < 17592186044416 := by omega
  have hlb : lb.length < 17592186044416 := by omega
  have hlc : lc.length < 17592186044416 := by omega
  rcases hma : mayB la with _ | _
  · exact VvOrder.not0 w A_a c_a la A_b c_b lb A_c c_c lc hra hka hrb hkb hrc hkc hla hlb hlc hma
  rcases hmb : mayB lb with _ | _
  · exact VvOrder.not1 w A_a c_a la A_b c_b lb A_c c_c lc hra hka hrb hkb hrc hkc hla hlb hlc hma hmb
  rcases hmc : mayB lc with _ | _
  · exact VvOrder.not2 w A_a c_a la A_b c_b lb A_c c_c lc hra hka hrb hkb hrc hkc hla hlb hlc hma hmb hmc
  rcases hp1 : belowB la lc with _ | _
  · exact VvOrder.main0 w A_a c_a la A_b c_b lb A_c c_c lc hra hka hrb hkb hrc hkc hla hlb hlc hma hmb hmc hp1
  rcases hp2 : belowB lb lc with _ | _
  · exact VvOrder.main1 w A_a c_a la A_b c_b lb A_c c_c lc hra hka hrb hkb hrc hkc hla hlb hlc hma hmb hmc hp1 hp2
  · exact VvOrder.main2 w A_a c_a la A_b c_b lb A_c c_c lc hra hka hrb hkb hrc hkc hla hlb hlc hma hmb hmc hp1 hp2
end Go.Proofs.Ytnmjhagmobcdkaa.P
