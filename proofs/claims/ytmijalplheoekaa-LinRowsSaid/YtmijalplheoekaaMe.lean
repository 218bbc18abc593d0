/- The reference's Try, walked: it answers true just where a row is found. -/
import Derived.Test.YtmijalplheoekaaMd
namespace Go.Proofs.Ytmijalplheoekaa.P
open Go.RowKit Go.Maps Go.WideMaps Go.Proofs.YtmijalplheoekaaW.PrintWords Go.Proofs.YtmijalplheoekaaW.PrintLast Go.Proofs.YtmijalplheoekaaW.PrintMore
set_option linter.unusedVariables false
set_option linter.unusedSimpArgs false
theorem gS_int {l : List S31} {x : Int} (h : 0 ≤ x) : gS l x.toNat = toSn (rd_T31 l x) := by
  unfold gS
  rw [Int.toNat_of_nonneg h]
theorem gB_int {hv : List Bool} {x : Int} (h : 0 ≤ x) : gB hv x.toNat = rdOf false hv x := by
  unfold gB
  rw [Int.toNat_of_nonneg h]
theorem gB_set {hv : List Bool} {i : Nat} (h : i < hv.length) : gB (hv.set i true) = upd (gB hv) i := by
  funext k
  show (hv.set i true).getD k false = if k = i then true else hv.getD k false
  rw [List.getD_eq_getElem?_getD, List.getD_eq_getElem?_getD]
  by_cases e : k = i
  · subst e
    rw [if_pos rfl, List.getElem?_set_self h]; rfl
  · rw [if_neg e, List.getElem?_set_ne (fun q => e q.symm)]
theorem count_set : ∀ {hv : List Bool} {i : Nat}, i < hv.length → gB hv i = false → (hv.set i true).countP (fun b => !b) + 1 = hv.countP (fun b => !b)
  | b :: r, 0, h, hb => by
    have : b = false := hb
    subst this
    simp
  | b :: r, i + 1, h, hb => by
    have ih := count_set (hv := r) (i := i) (by simpa using h) hb
    rw [List.set_cons_succ, List.countP_cons, List.countP_cons]
    omega
theorem StepP.now_eq {α : Type} [DecidableEq α] {g : Nat → Sn α} {n : Nat} {T : List α} {hv : Nat → Bool} {m : Int} {i : Nat} {a b : Int} (h1 : StepP g n T hv m i a) (h2 : StepP g n T hv m i b) : a = b := by
  by_cases k : Makes T (g i) m
  · rw [(h1.makes k).2, (h2.makes k).2]
  · rw [h1.not k, h2.not k]
/-- From sight j on none may stand next and lead to a row. -/
def NoneTo (l0 : List S31) (l1 : List ByteArray) (hv : List Bool) (m : Int) (j : Nat) : Prop := ∀ i, i < j → ∀ now, StepP (gS l0) l0.length (toks l1) (gB hv) m i now → ¬ Row (gS l0) l0.length (toks l1) (upd (gB hv) i) now
theorem NoneTo.succ {l0 : List S31} {l1 : List ByteArray} {hv : List Bool} {m : Int} {j : Nat} (h : NoneTo l0 l1 hv m j) (h2 : ∀ now, StepP (gS l0) l0.length (toks l1) (gB hv) m j now → ¬ Row (gS l0) l0.length (toks l1) (upd (gB hv) j) now) : NoneTo l0 l1 hv m (j + 1) := fun i hi => by
  by_cases e : i = j
  · subst e; exact h2
  · exact h i (by omega)
def AllDone (l0 : List S31) (hv : List Bool) (j : Nat) : Prop := ∀ i, i < j → gB hv i = true ∨ (gS l0 i).en = 0
theorem info4b : (Try.prog.info? 4).map (fun i => (i.zero, i.size, i.bytes)) = some (some (.bool false), 1, 1) := by kernel_rfl
theorem step_mk {l0 : List S31} {l1 : List ByteArray} {hv : List Bool} {a3 now N : Int} {i : Nat} {s : S31} (hss : gS l0 i = toSn s) (hN : num (toSn s).tok (toks l1) = N) (hlt : i < l0.length) (hm : MayP (gS l0) l0.length (gB hv) i)
    (h1 : s.f0 = true ∧ (N = 0 ∨ a3 < N) → N = a3 + 1 ∧ now = N) (h2 : ¬ (s.f0 = true ∧ (N = 0 ∨ a3 < N)) → now = a3) (h3 : s.f3 ≠ 0 → s.f4 = if now < N then 0 else N) : StepP (gS l0) l0.length (toks l1) (gB hv) a3 i now := by
  subst hN
  refine ⟨hlt, hm, ?_, ?_, ?_⟩
  · unfold Makes; rw [hss]; exact h1
  · unfold Makes; rw [hss]; exact h2
  · rw [hss]; exact h3
theorem step_out {l0 : List S31} {l1 : List ByteArray} {hv : List Bool} {a3 now N : Int} {i : Nat} {s : S31} (hss : gS l0 i = toSn s) (hN : num (toSn s).tok (toks l1) = N) (h : StepP (gS l0) l0.length (toks l1) (gB hv) a3 i now) :
    (s.f0 = true ∧ (N = 0 ∨ a3 < N) → N = a3 + 1 ∧ now = N) ∧ (¬ (s.f0 = true ∧ (N = 0 ∨ a3 < N)) → now = a3) ∧ (s.f3 ≠ 0 → s.f4 = if now < N then 0 else N) := by
  subst hN
  have h1 := h.makes
  have h2 := h.not
  have h3 := h.told
  unfold Makes at h1 h2
  rw [hss] at h1 h2 h3
  exact ⟨h1, h2, h3⟩
def TryPost (R : Prop) (w : World) (e : Ending) (w' : World) : Prop := ∃ b : Bool, e = .returned (.bool b) ∧ (b = true ↔ R) ∧ Below w.heap.size w w'
set_option maxHeartbeats 16000000 in
set_option maxRecDepth 100000 in
theorem Try.at (l0 : List S31) (l1 : List ByteArray) : ∀ (f : Nat) (hv : List Bool) (A0 : Option Addr) (c0 : Nat) (A1 : Option Addr) (cp1 : Nat) (A2 : Option Addr) (cp2 : Nat) (a3 : Int) (w : World) (h : CkArg w A0 c0 l0 A1 cp1 l1) (hc1 : l1.length ≤ cp1) (hl : hv.length = l0.length) (hr2 : Kd.C Kd.bool w A2 l0.length hv) (hc2 : l0.length ≤ cp2) (h3 : 0 ≤ a3 ∧ a3 ≤ l1.length) (hf : hv.countP (fun b => !b) < f),
    Calls Try.prog 10 #[.slice A0 l0.length c0, .slice A1 l1.length cp1, .slice A2 l0.length cp2, .int .i64 a3] w (TryPost (Row (gS l0) l0.length (toks l1) (gB hv) a3) w) := by
  intro f
  induction f with
  | zero => exact fun hv A0 c0 A1 cp1 A2 cp2 a3 w h hc1 hl hr2 hc2 h3 hf => absurd hf (by omega)
  | succ f ih =>
    intro hv A0 c0 A1 cp1 A2 cp2 a3 w h hc1 hl hr2 hc2 h3 hf
    have HH := Aside0.mk h
    have HC1 := Aside0.mk hc1
    have HL := Aside0.mk hl
    have HR2 := Aside0.mk hr2
    have HC2 := Aside0.mk hc2
    have H3 := Aside0.mk h3
    have HF := Aside0.mk hf
    have HMay : Aside0 (∀ (W : World) (x : Int), Below w.heap.size w W → 0 ≤ x → x < (l0.length : Int) → Calls Try.prog 18 #[.slice A0 l0.length c0, .slice A2 l0.length cp2, .int .i64 x] W fun e w' => ∃ b : Bool, e = .returned (.bool b) ∧ (b = true ↔ MayP (gS l0) l0.length (gB hv) x.toNat) ∧ Below W.heap.size W w') := ⟨fun W x hb h0 h1 => by
      obtain ⟨k, b, e, hbb⟩ := may_f l0 hv hl (by have := HH.out.n0; omega) x.toNat (by omega)
      rw [Int.toNat_of_nonneg h0] at e
      have hq := pannierref25_may.calls k A0 c0 l0 A2 cp2 hv x b W (Kd.C_below HH.out.r0 hb) HH.out.c0 (by rw [hl]; exact Kd.C_below HR2.out hb) (by rw [hl]; exact hc2) e
      rw [hl] at hq
      exact hq.mono fun e w' h => ⟨b, h.1, hbb, Drawn0.below h.2⟩⟩
    have HNum : Aside0 (∀ (W : World) (t : ByteArray), Below w.heap.size w W → Calls Try.prog 19 #[.string t, .slice A1 l1.length cp1] W fun e w' => e = .returned (.int .i64 (num t.toList (toks l1))) ∧ Below W.heap.size W w') := ⟨fun W t hb => by
      obtain ⟨k, e⟩ := number_f t l1 (by have := HH.out.n1; omega)
      exact (pannierref25_number.calls k t A1 cp1 l1 _ W (Kd.C_below HH.out.r1 hb) hc1 e).mono fun e w' h => ⟨h.1, Drawn0.below h.2⟩⟩
    have HIh : Aside0 (∀ (W : World) (hv' : List Bool) (A : Option Addr) (c : Nat) (now : Int), Below w.heap.size w W → hv'.length = l0.length → Kd.C Kd.bool W A l0.length hv' → l0.length ≤ c → 0 ≤ now ∧ now ≤ l1.length → hv'.countP (fun b => !b) < f → Calls Try.prog 10 #[.slice A0 l0.length c0, .slice A1 l1.length cp1, .slice A l0.length c, .int .i64 now] W (TryPost (Row (gS l0) l0.length (toks l1) (gB hv') now) W)) := ⟨fun W hv' A c now hb q1 q2 q3 q4 q5 => ih hv' A0 c0 A1 cp1 A c now W (HH.out.below hb) hc1 q1 q2 q3 q4 q5⟩
    clear ih h hc1 hl hr2 hc2 h3 hf
    have HB := Aside0.mk (Below.refl w.heap.size w)
    go_enter Try.func10, Try.ntmps10
    go_wp2
    go_loopg [9, 10] l0.length (fun kq v9 v10 wc => ∃ (d : Bool) (x : Int), v9 = .bool d ∧ v10 = .int .i64 x ∧ Aside0 (∃ j : Nat, x = (j : Int) ∧ j + kq = l0.length ∧ (d = true ↔ a3 = (l1.length : Int) ∧ AllDone l0 hv j)) ∧ Aside0 (Below w.heap.size w wc))
    case atStart => exact ⟨_, 0, rfl, rfl, ⟨0, rfl, by omega, by rw [beq_iff_eq]; exact ⟨fun h => ⟨h, fun i hi => absurd hi (by omega)⟩, fun h => h.1⟩⟩, HB⟩
    case round =>
      clear HB
      obtain ⟨d, x, rfl, rfl, HJ, HB⟩ := hrel
      cases gk with
      | succ m =>
        have c0b : decide (x < (l0.length : Int)) = true := decide_eq_true (by obtain ⟨j, e, hj, _⟩ := HJ.out; omega)
        have hx1 : IntKind.i64.wrap (x + 1) = x + 1 := by rw [i64_w]; unfold wrap64; obtain ⟨j, e, hj, _⟩ := HJ.out; have := HH.out.n0; omega
        have HX : Aside0 (0 ≤ x ∧ x < (l0.length : Int)) := ⟨by obtain ⟨j, e, hj, _⟩ := HJ.out; omega⟩
        have c1 : 0 ≤ x := HX.out.1
        have c2 : x < (l0.length : Int) := HX.out.2
        cases d with
        | false =>
          clear c1 c2
          go_wp2
          go_roundg m
          case measure => omega
          case rel => exact ⟨false, x + 1, rfl, rfl, ⟨by
            obtain ⟨j, e, hj, hd⟩ := HJ.out
            refine ⟨j + 1, by omega, by omega, ⟨fun h => absurd h (by simp), fun h => ?_⟩⟩
            exact absurd (hd.2 ⟨h.1, fun i hi => h.2 i (by omega)⟩) (by simp)⟩, HB⟩
        | true =>
          obtain ⟨ad2, e2, h2x⟩ := Kd.at_bool (Kd.C_below HR2.out HB.out) x c1 c2
          cases e2
          obtain ⟨ad, rfl, q0, q1, q2, q3, q4⟩ := at_T31 (Kd.C_below HH.out.r0 HB.out) x c1 c2
          clear q0 q1 q2 q4
          replace c1 := eq_true c1
          replace c2 := eq_true c2
          cases hb : rdOf false hv x with
          | true =>
            have HV := Aside0.mk hb
            rw [hb] at h2x
            clear hb
            go_wp2
            go_roundg m
            case measure => omega
            case rel => exact ⟨true, x + 1, rfl, rfl, ⟨by
              obtain ⟨j, e, hj, hd⟩ := HJ.out
              refine ⟨j + 1, by omega, by omega, ⟨fun _ => ?_, fun _ => rfl⟩⟩
              have h := hd.1 (by simp)
              refine ⟨h.1, fun i hi => ?_⟩
              by_cases q : i = j
              · subst q; left; unfold gB; rw [← e]; exact HV.out
              · exact h.2 i (by omega)⟩, HB⟩
          | false =>
            have HV := Aside0.mk hb
            rw [hb] at h2x
            clear hb
            go_wp2
            go_roundg m
            case measure => omega
            case rel => exact ⟨_, x + 1, rfl, rfl, ⟨by
              obtain ⟨j, e, hj, hd⟩ := HJ.out
              refine ⟨j + 1, by omega, by omega, ?_⟩
              have h := hd.1 (by simp)
              rw [beq_iff_eq]
              refine ⟨fun h4 => ⟨h.1, fun i hi => ?_⟩, fun h4 => ?_⟩
              · by_cases q : i = j
                · subst q; right; show (rd_T31 l0 (i : Int)).f3 = 0; rw [← e]; exact h4
                · exact h.2 i (by omega)
              · rcases h4.2 j (by omega) with q | q
                · unfold gB at q; rw [← e, HV.out] at q; exact absurd q (by simp)
                · rw [e]; exact q⟩, HB⟩
      | zero =>
        have c0b : decide (x < (l0.length : Int)) = false := decide_eq_false (by obtain ⟨j, e, hj, _⟩ := HJ.out; omega)
        have HD : Aside0 (d = true ↔ a3 = (l1.length : Int) ∧ AllDone l0 hv l0.length) := ⟨by
          obtain ⟨j, e, hj, hd⟩ := HJ.out
          obtain rfl : j = l0.length := by omega
          exact hd⟩
        clear HJ
        cases d with
        | true =>
          go_wp2
          go_ret
          exact ⟨true, rfl, ⟨fun _ => by
            have h := HD.out.1 (by simp)
            exact .done (by unfold toks; rw [List.length_map]; exact h.1) h.2, fun _ => rfl⟩, HB.out⟩
        | false =>
          have HND : Aside0 (¬ (a3 = (l1.length : Int) ∧ AllDone l0 hv l0.length)) := ⟨fun h => absurd (HD.out.2 h) (by simp)⟩
          clear HD
          go_wp2
          go_loopg [11] l0.length (fun kq v11 wc => ∃ (x : Int), v11 = .int .i64 x ∧ Aside0 (∃ j : Nat, x = (j : Int) ∧ j + kq = l0.length ∧ NoneTo l0 l1 hv a3 j) ∧ Aside0 (Below w.heap.size w wc))
          case atStart => exact ⟨0, rfl, ⟨0, rfl, by omega, fun i hi => absurd hi (by omega)⟩, HB⟩
          case round =>
            clear HB
            obtain ⟨x, rfl, HJ, HB⟩ := hrel
            cases gk with
            | zero =>
              have c0b : decide (x < (l0.length : Int)) = false := decide_eq_false (by obtain ⟨j, e, hj, _⟩ := HJ.out; omega)
              have HR : Aside0 (¬ Row (gS l0) l0.length (toks l1) (gB hv) a3) := ⟨fun hrow => by
                obtain ⟨j, e, hj, hno⟩ := HJ.out
                obtain rfl : j = l0.length := by omega
                cases hrow with
                | done h1 h2 => exact HND.out ⟨by unfold toks at h1; rw [List.length_map] at h1; exact h1, h2⟩
                | step i now hs hr => exact hno i hs.lt now hs hr⟩
              clear HJ
              go_wp2
              go_ret
              exact ⟨false, rfl, ⟨fun h => absurd h (by simp), fun h => absurd h HR.out⟩, HB.out⟩
            | succ m =>
              have c0b : decide (x < (l0.length : Int)) = true := decide_eq_true (by obtain ⟨j, e, hj, _⟩ := HJ.out; omega)
              have hx1 : IntKind.i64.wrap (x + 1) = x + 1 := by rw [i64_w]; unfold wrap64; obtain ⟨j, e, hj, _⟩ := HJ.out; have := HH.out.n0; omega
              have ha1 : IntKind.i64.wrap (a3 + 1) = a3 + 1 := by rw [i64_w]; unfold wrap64; have := H3.out; have := HH.out.n1; omega
              have HX : Aside0 (0 ≤ x ∧ x < (l0.length : Int)) := ⟨by obtain ⟨j, e, hj, _⟩ := HJ.out; omega⟩
              have c1 : 0 ≤ x := HX.out.1
              have c2 : x < (l0.length : Int) := HX.out.2
              obtain ⟨ad, rfl, _, _, _, _, _⟩ := at_T31 (Kd.C_below HH.out.r0 HB.out) x c1 c2
              replace c1 := eq_true c1
              replace c2 := eq_true c2
              go_wp2_with fail
              refine (HMay.out _ x HB.out HX.out.1 HX.out.2).mono ?_
              rintro e w2 ⟨b, rfl, hbm, hb⟩
              have HBM := Aside0.mk hbm
              have HB2 := Aside0.mk (below_step HB.out hb)
              clear hbm hb HB
              cases b with
              | false =>
                go_wp2
                go_roundg m
                case measure => omega
                case rel => exact ⟨x + 1, rfl, ⟨by
                  obtain ⟨j, e, hj, hno⟩ := HJ.out
                  refine ⟨j + 1, by omega, by omega, hno.succ (fun now hs => ?_)⟩
                  have := hs.may
                  rw [show j = x.toNat by omega] at this
                  exact absurd (HBM.out.2 this) (by simp)⟩, HB2⟩
              | true =>
                have HMY : Aside0 (MayP (gS l0) l0.length (gB hv) x.toNat) := ⟨HBM.out.1 rfl⟩
                clear HBM
                obtain ⟨ad', e', q0, q1, q2, q3, q4⟩ := at_T31 (Kd.C_below HH.out.r0 HB2.out) x (of_eq_true c1) (of_eq_true c2)
                cases e'
                clear q2
                obtain ⟨S, eS⟩ : ∃ S, rd_T31 l0 x = S := ⟨_, rfl⟩
                have HSS : Aside0 (gS l0 x.toNat = toSn S) := ⟨by rw [gS_int HX.out.1, eS]⟩
                rw [eS] at q0 q1 q3 q4
                obtain ⟨fc, ft, fb, fe, fi⟩ := S
                dsimp only at q0 q1 q3 q4
                clear eS
                go_wp2_with fail
                refine (HNum.out _ ft HB2.out).mono ?_
                rintro e w3 ⟨rfl, hb⟩
                have HB3 := Aside0.mk (below_step HB2.out hb)
                replace q0 := pw_cell_below hb q0
                replace q3 := pw_cell_below hb q3
                replace q4 := pw_cell_below hb q4
                clear hb HB2 q1
                obtain ⟨N, eN⟩ : ∃ N, num ft.toList (toks l1) = N := ⟨_, rfl⟩
                have HN : Aside0 (num (toSn ⟨fc, ft, fb, fe, fi⟩).tok (toks l1) = N) := ⟨eN⟩
                have HNb : Aside0 (0 ≤ N ∧ N ≤ l1.length) := ⟨by have := num_bound ft.toList (toks l1); rw [eN] at this; unfold toks at this; rw [List.length_map] at this; exact this⟩
                rw [eN]
                clear eN
                cases fc with
                | false =>
                  by_cases k1 : a3 < N
                  · have k1b : decide (a3 < N) = true := decide_eq_true k1
                    have HK1 := Aside0.mk k1
                    by_cases k2 : fe = 0
                    · subst k2
                      have HST : Aside0 (StepP (gS l0) l0.length (toks l1) (gB hv) a3 x.toNat a3) := ⟨step_mk HSS.out HN.out (by have := HX.out; omega) HMY.out (fun h => absurd h.1 (by simp)) (fun _ => rfl) (fun h => absurd rfl h)⟩
                      have HNw : Aside0 (0 ≤ a3 ∧ a3 ≤ l1.length) := ⟨by first | exact H3.out | exact HNb.out⟩
                      go_upto_region 22 with (first
                        | ((with_reducible refine gate_dst (N := 99) rfl ?_); refine Kd.R_lit Kd.bool (w0 := w) w.heap.size 4 ?hg (N := 99) ?hd (xs := ([] : List Bool)) (inner := []) (ok := fun _ => True) (okp := fun _ => True) ?hr ?hp (fun _ hk => hk) trivial HB3.out HB3.out.size (by simp) ?_; (case hd => rfl); (case hg => rfl); (case hr => first | (go_simp; done) | (go_simp; rfl)); (case hp => exact (Reps.none _ _)); intro v1 w1 ho1 hb hg_ hnew_; clear hg_ hnew_; have HO1 := Aside0.mk ho1; have HB4 := Aside0.mk hb; clear hb ho1)
                        | ((with_reducible refine gate_builtin (b := .append) (xs := #[.tmp 99, .tmp 100]) rfl ?_); at_builtin; refine Kd.R_append_rows Kd.bool (w0 := w) w.heap.size rfl (.tmp 99) (.tmp 100) 29 4 (.bool false) 1 rfl Try.underlying29 info4b rfl (by decide) (by decide) v1 ([] : List Bool) hv _ _ _ (fun _ => True) (fun _ => False) rfl rfl ?aO ?aR (fun _ _ h => h) (fun _ h => h.elim) ?aF ?aB ?aS ?aL ?_; (case aR => exact Kd.C_below HR2.out HB4.out); (case aB => exact HB4.out); (case aF => exact (fun _ _ => trivial)); (case aO => exact HO1.out); (case aS => exact HB4.out.size); (case aL => have := HH.out.n0; simp only [List.length_nil]; omega); intro v2 w2 ho hb hg hat; rw [List.nil_append] at ho; have HO2 := Aside0.mk ho; have HB5 := Aside0.mk hb; clear HB4 HO1 ho hb hg hat)
                        | fail)
                      obtain ⟨gb, cap, rfl, _, _, _⟩ := Kd.R_form HO2.out (by have := HX.out; have := HL.out; omega)
                      rw [HL.out] at HO2 ⊢
                      obtain ⟨cc, hcl, hM, hcc, hfr⟩ := Kd.R_elem HO2.out false x HX.out.1 HX.out.2
                      obtain ⟨cu, rfl⟩ : ∃ u, cc = [u] := List.length_eq_one_iff.1 hcl
                      have HCC := Aside0.mk hcc
                      have HCL := Aside0.mk hcl
                      clear hM hcc hfr hcl
                      go_upto_region 23 with (((with_reducible refine gate_store (t := 4) (p := 104) rfl ?_); refine Kd.R_store Kd.bool (w0 := w) w.heap.size ?hN ?hg 4 (.tmp 104) (.const (.bool true)) ?ho 4 (o' := x.toNat) x 0 hv true (.bool true) [.bool true] [cu] (fun _ => True) (fun k => k ≠ gb) ?ha ?hof ?hx rfl rfl ?h1 HO2.out HX.out.1 HX.out.2 HCL.out HCC.out (Nat.le_of_ble_eq_true rfl) rfl (fun k hk => ⟨trivial, hk⟩) HB5.out ?_; (case hg => rfl); (case hN => rfl); (case ho => rfl); (case hof => show x.toNat = x.toNat * 1 + 0; omega); (case ha => first | rfl | (go_simp; done) | (go_simp; rfl)); (case hx => first | rfl | (go_simp; done) | (go_simp; rfl)); (case h1 => intro q hq; rw [List.mem_singleton] at hq; subst hq; rfl); intro w6 ho hb hg; have HO6 := Aside0.mk ho; have HB6 := Aside0.mk hb; clear ho hb hg HO2 HB5 HCC HCL))
                      have HR6 := Kd.R_reads' HO6.out
                      have HGS : Aside0 (gB (hv.set x.toNat true) = upd (gB hv) x.toNat) := ⟨gB_set (by have := HX.out; have := HL.out; omega)⟩
                      have HC6 : Aside0 (Calls Try.prog 10 #[.slice (some ad) l0.length c0, .slice A1 l1.length cp1, .slice (some ⟨gb, 0, none⟩) l0.length cap, .int .i64 a3] w6 (TryPost (Row (gS l0) l0.length (toks l1) (upd (gB hv) x.toNat) a3) w6)) := ⟨by
                        have hlen : (hv.set x.toNat true).length = l0.length := by rw [List.length_set]; exact HL.out
                        have hcnt := count_set (hv := hv) (i := x.toNat) (by have := HX.out; have := HL.out; omega) HMY.out.2
                        have := HIh.out w6 (hv.set x.toNat true) (some ⟨gb, 0, none⟩) cap a3 HB6.out hlen (by have h := HR6.2.2; rw [hlen] at h; exact h) (by have h := HR6.2.1; exact h) HNw.out (by have := HF.out; omega)
                        rw [HGS.out] at this
                        exact this⟩
                      clear HR6
                      go_wp2_with fail
                      refine HC6.out.mono ?_
                      rintro e w7 ⟨b7, rfl, hb7, hb⟩
                      have HB7 := Aside0.mk (below_step HB6.out hb)
                      have HRw := Aside0.mk hb7
                      clear hb hb7
                      cases b7 with
                      | true =>
                        go_wp2
                        go_ret
                        exact ⟨true, rfl, ⟨fun _ => .step x.toNat a3 HST.out (HRw.out.1 (by simp)), fun _ => rfl⟩, HB7.out⟩
                      | false =>
                        go_wp2
                        go_roundg m
                        case measure => omega
                        case rel => exact ⟨x + 1, rfl, ⟨by
                          obtain ⟨j, e, hj, hno⟩ := HJ.out
                          refine ⟨j + 1, by omega, by omega, hno.succ (fun now hs hr => ?_)⟩
                          have hst := HST.out
                          rw [show x.toNat = j by omega] at hst
                          obtain rfl := hs.now_eq hst
                          have hrw := HRw.out
                          rw [show x.toNat = j by omega] at hrw
                          exact absurd (hrw.2 hr) (by simp)⟩, HB7⟩
                    · have k2b : (fe != 0) = true := by rw [bne_iff_ne]; exact k2
                      have HK2 := Aside0.mk k2
                      clear k2
                      by_cases k3 : fi = 0
                      · have k3b : (fi != 0) = false := by rw [k3]; simp
                        have HK3 := Aside0.mk k3
                        clear k3
                        have HST : Aside0 (StepP (gS l0) l0.length (toks l1) (gB hv) a3 x.toNat a3) := ⟨step_mk HSS.out HN.out (by have := HX.out; omega) HMY.out (fun h => absurd h.1 (by simp)) (fun _ => rfl) (fun _ => HK3.out.trans (if_pos HK1.out).symm)⟩
                        have HNw : Aside0 (0 ≤ a3 ∧ a3 ≤ l1.length) := ⟨by first | exact H3.out | exact HNb.out⟩
                        go_upto_region 22 with (first
                          | ((with_reducible refine gate_dst (N := 99) rfl ?_); refine Kd.R_lit Kd.bool (w0 := w) w.heap.size 4 ?hg (N := 99) ?hd (xs := ([] : List Bool)) (inner := []) (ok := fun _ => True) (okp := fun _ => True) ?hr ?hp (fun _ hk => hk) trivial HB3.out HB3.out.size (by simp) ?_; (case hd => rfl); (case hg => rfl); (case hr => first | (go_simp; done) | (go_simp; rfl)); (case hp => exact (Reps.none _ _)); intro v1 w1 ho1 hb hg_ hnew_; clear hg_ hnew_; have HO1 := Aside0.mk ho1; have HB4 := Aside0.mk hb; clear hb ho1)
                          | ((with_reducible refine gate_builtin (b := .append) (xs := #[.tmp 99, .tmp 100]) rfl ?_); at_builtin; refine Kd.R_append_rows Kd.bool (w0 := w) w.heap.size rfl (.tmp 99) (.tmp 100) 29 4 (.bool false) 1 rfl Try.underlying29 info4b rfl (by decide) (by decide) v1 ([] : List Bool) hv _ _ _ (fun _ => True) (fun _ => False) rfl rfl ?aO ?aR (fun _ _ h => h) (fun _ h => h.elim) ?aF ?aB ?aS ?aL ?_; (case aR => exact Kd.C_below HR2.out HB4.out); (case aB => exact HB4.out); (case aF => exact (fun _ _ => trivial)); (case aO => exact HO1.out); (case aS => exact HB4.out.size); (case aL => have := HH.out.n0; simp only [List.length_nil]; omega); intro v2 w2 ho hb hg hat; rw [List.nil_append] at ho; have HO2 := Aside0.mk ho; have HB5 := Aside0.mk hb; clear HB4 HO1 ho hb hg hat)
                          | fail)
                        obtain ⟨gb, cap, rfl, _, _, _⟩ := Kd.R_form HO2.out (by have := HX.out; have := HL.out; omega)
                        rw [HL.out] at HO2 ⊢
                        obtain ⟨cc, hcl, hM, hcc, hfr⟩ := Kd.R_elem HO2.out false x HX.out.1 HX.out.2
                        obtain ⟨cu, rfl⟩ : ∃ u, cc = [u] := List.length_eq_one_iff.1 hcl
                        have HCC := Aside0.mk hcc
                        have HCL := Aside0.mk hcl
                        clear hM hcc hfr hcl
                        go_upto_region 23 with (((with_reducible refine gate_store (t := 4) (p := 104) rfl ?_); refine Kd.R_store Kd.bool (w0 := w) w.heap.size ?hN ?hg 4 (.tmp 104) (.const (.bool true)) ?ho 4 (o' := x.toNat) x 0 hv true (.bool true) [.bool true] [cu] (fun _ => True) (fun k => k ≠ gb) ?ha ?hof ?hx rfl rfl ?h1 HO2.out HX.out.1 HX.out.2 HCL.out HCC.out (Nat.le_of_ble_eq_true rfl) rfl (fun k hk => ⟨trivial, hk⟩) HB5.out ?_; (case hg => rfl); (case hN => rfl); (case ho => rfl); (case hof => show x.toNat = x.toNat * 1 + 0; omega); (case ha => first | rfl | (go_simp; done) | (go_simp; rfl)); (case hx => first | rfl | (go_simp; done) | (go_simp; rfl)); (case h1 => intro q hq; rw [List.mem_singleton] at hq; subst hq; rfl); intro w6 ho hb hg; have HO6 := Aside0.mk ho; have HB6 := Aside0.mk hb; clear ho hb hg HO2 HB5 HCC HCL))
                        have HR6 := Kd.R_reads' HO6.out
                        have HGS : Aside0 (gB (hv.set x.toNat true) = upd (gB hv) x.toNat) := ⟨gB_set (by have := HX.out; have := HL.out; omega)⟩
                        have HC6 : Aside0 (Calls Try.prog 10 #[.slice (some ad) l0.length c0, .slice A1 l1.length cp1, .slice (some ⟨gb, 0, none⟩) l0.length cap, .int .i64 a3] w6 (TryPost (Row (gS l0) l0.length (toks l1) (upd (gB hv) x.toNat) a3) w6)) := ⟨by
                          have hlen : (hv.set x.toNat true).length = l0.length := by rw [List.length_set]; exact HL.out
                          have hcnt := count_set (hv := hv) (i := x.toNat) (by have := HX.out; have := HL.out; omega) HMY.out.2
                          have := HIh.out w6 (hv.set x.toNat true) (some ⟨gb, 0, none⟩) cap a3 HB6.out hlen (by have h := HR6.2.2; rw [hlen] at h; exact h) (by have h := HR6.2.1; exact h) HNw.out (by have := HF.out; omega)
                          rw [HGS.out] at this
                          exact this⟩
                        clear HR6
                        go_wp2_with fail
                        refine HC6.out.mono ?_
                        rintro e w7 ⟨b7, rfl, hb7, hb⟩
                        have HB7 := Aside0.mk (below_step HB6.out hb)
                        have HRw := Aside0.mk hb7
                        clear hb hb7
                        cases b7 with
                        | true =>
                          go_wp2
                          go_ret
                          exact ⟨true, rfl, ⟨fun _ => .step x.toNat a3 HST.out (HRw.out.1 (by simp)), fun _ => rfl⟩, HB7.out⟩
                        | false =>
                          go_wp2
                          go_roundg m
                          case measure => omega
                          case rel => exact ⟨x + 1, rfl, ⟨by
                            obtain ⟨j, e, hj, hno⟩ := HJ.out
                            refine ⟨j + 1, by omega, by omega, hno.succ (fun now hs hr => ?_)⟩
                            have hst := HST.out
                            rw [show x.toNat = j by omega] at hst
                            obtain rfl := hs.now_eq hst
                            have hrw := HRw.out
                            rw [show x.toNat = j by omega] at hrw
                            exact absurd (hrw.2 hr) (by simp)⟩, HB7⟩
                      · have k3b : (fi != 0) = true := by rw [bne_iff_ne]; exact k3
                        have HK3 := Aside0.mk k3
                        clear k3
                        go_wp2
                        go_roundg m
                        case measure => omega
                        case rel => exact ⟨x + 1, rfl, ⟨by
                          obtain ⟨j, e, hj, hno⟩ := HJ.out
                          refine ⟨j + 1, by omega, by omega, hno.succ (fun now hs => ?_)⟩
                          have hss := HSS.out
                          rw [show x.toNat = j by omega] at hss
                          have ho := step_out hss HN.out hs
                          have hnow : now = a3 := ho.2.1 (fun h => absurd h.1 (by simp))
                          subst hnow
                          exact absurd ((ho.2.2 HK2.out).trans (if_pos HK1.out)) HK3.out⟩, HB3⟩
                  · have k1b : decide (a3 < N) = false := decide_eq_false k1
                    have HK1 := Aside0.mk k1
                    by_cases k2 : fe = 0
                    · subst k2
                      have HST : Aside0 (StepP (gS l0) l0.length (toks l1) (gB hv) a3 x.toNat a3) := ⟨step_mk HSS.out HN.out (by have := HX.out; omega) HMY.out (fun h => absurd h.1 (by simp)) (fun _ => rfl) (fun h => absurd rfl h)⟩
                      have HNw : Aside0 (0 ≤ a3 ∧ a3 ≤ l1.length) := ⟨by first | exact H3.out | exact HNb.out⟩
                      go_upto_region 22 with (first
                        | ((with_reducible refine gate_dst (N := 99) rfl ?_); refine Kd.R_lit Kd.bool (w0 := w) w.heap.size 4 ?hg (N := 99) ?hd (xs := ([] : List Bool)) (inner := []) (ok := fun _ => True) (okp := fun _ => True) ?hr ?hp (fun _ hk => hk) trivial HB3.out HB3.out.size (by simp) ?_; (case hd => rfl); (case hg => rfl); (case hr => first | (go_simp; done) | (go_simp; rfl)); (case hp => exact (Reps.none _ _)); intro v1 w1 ho1 hb hg_ hnew_; clear hg_ hnew_; have HO1 := Aside0.mk ho1; have HB4 := Aside0.mk hb; clear hb ho1)
                        | ((with_reducible refine gate_builtin (b := .append) (xs := #[.tmp 99, .tmp 100]) rfl ?_); at_builtin; refine Kd.R_append_rows Kd.bool (w0 := w) w.heap.size rfl (.tmp 99) (.tmp 100) 29 4 (.bool false) 1 rfl Try.underlying29 info4b rfl (by decide) (by decide) v1 ([] : List Bool) hv _ _ _ (fun _ => True) (fun _ => False) rfl rfl ?aO ?aR (fun _ _ h => h) (fun _ h => h.elim) ?aF ?aB ?aS ?aL ?_; (case aR => exact Kd.C_below HR2.out HB4.out); (case aB => exact HB4.out); (case aF => exact (fun _ _ => trivial)); (case aO => exact HO1.out); (case aS => exact HB4.out.size); (case aL => have := HH.out.n0; simp only [List.length_nil]; omega); intro v2 w2 ho hb hg hat; rw [List.nil_append] at ho; have HO2 := Aside0.mk ho; have HB5 := Aside0.mk hb; clear HB4 HO1 ho hb hg hat)
                        | fail)
                      obtain ⟨gb, cap, rfl, _, _, _⟩ := Kd.R_form HO2.out (by have := HX.out; have := HL.out; omega)
                      rw [HL.out] at HO2 ⊢
                      obtain ⟨cc, hcl, hM, hcc, hfr⟩ := Kd.R_elem HO2.out false x HX.out.1 HX.out.2
                      obtain ⟨cu, rfl⟩ : ∃ u, cc = [u] := List.length_eq_one_iff.1 hcl
                      have HCC := Aside0.mk hcc
                      have HCL := Aside0.mk hcl
                      clear hM hcc hfr hcl
                      go_upto_region 23 with (((with_reducible refine gate_store (t := 4) (p := 104) rfl ?_); refine Kd.R_store Kd.bool (w0 := w) w.heap.size ?hN ?hg 4 (.tmp 104) (.const (.bool true)) ?ho 4 (o' := x.toNat) x 0 hv true (.bool true) [.bool true] [cu] (fun _ => True) (fun k => k ≠ gb) ?ha ?hof ?hx rfl rfl ?h1 HO2.out HX.out.1 HX.out.2 HCL.out HCC.out (Nat.le_of_ble_eq_true rfl) rfl (fun k hk => ⟨trivial, hk⟩) HB5.out ?_; (case hg => rfl); (case hN => rfl); (case ho => rfl); (case hof => show x.toNat = x.toNat * 1 + 0; omega); (case ha => first | rfl | (go_simp; done) | (go_simp; rfl)); (case hx => first | rfl | (go_simp; done) | (go_simp; rfl)); (case h1 => intro q hq; rw [List.mem_singleton] at hq; subst hq; rfl); intro w6 ho hb hg; have HO6 := Aside0.mk ho; have HB6 := Aside0.mk hb; clear ho hb hg HO2 HB5 HCC HCL))
                      have HR6 := Kd.R_reads' HO6.out
                      have HGS : Aside0 (gB (hv.set x.toNat true) = upd (gB hv) x.toNat) := ⟨gB_set (by have := HX.out; have := HL.out; omega)⟩
                      have HC6 : Aside0 (Calls Try.prog 10 #[.slice (some ad) l0.length c0, .slice A1 l1.length cp1, .slice (some ⟨gb, 0, none⟩) l0.length cap, .int .i64 a3] w6 (TryPost (Row (gS l0) l0.length (toks l1) (upd (gB hv) x.toNat) a3) w6)) := ⟨by
                        have hlen : (hv.set x.toNat true).length = l0.length := by rw [List.length_set]; exact HL.out
                        have hcnt := count_set (hv := hv) (i := x.toNat) (by have := HX.out; have := HL.out; omega) HMY.out.2
                        have := HIh.out w6 (hv.set x.toNat true) (some ⟨gb, 0, none⟩) cap a3 HB6.out hlen (by have h := HR6.2.2; rw [hlen] at h; exact h) (by have h := HR6.2.1; exact h) HNw.out (by have := HF.out; omega)
                        rw [HGS.out] at this
                        exact this⟩
                      clear HR6
                      go_wp2_with fail
                      refine HC6.out.mono ?_
                      rintro e w7 ⟨b7, rfl, hb7, hb⟩
                      have HB7 := Aside0.mk (below_step HB6.out hb)
                      have HRw := Aside0.mk hb7
                      clear hb hb7
                      cases b7 with
                      | true =>
                        go_wp2
                        go_ret
                        exact ⟨true, rfl, ⟨fun _ => .step x.toNat a3 HST.out (HRw.out.1 (by simp)), fun _ => rfl⟩, HB7.out⟩
                      | false =>
                        go_wp2
                        go_roundg m
                        case measure => omega
                        case rel => exact ⟨x + 1, rfl, ⟨by
                          obtain ⟨j, e, hj, hno⟩ := HJ.out
                          refine ⟨j + 1, by omega, by omega, hno.succ (fun now hs hr => ?_)⟩
                          have hst := HST.out
                          rw [show x.toNat = j by omega] at hst
                          obtain rfl := hs.now_eq hst
                          have hrw := HRw.out
                          rw [show x.toNat = j by omega] at hrw
                          exact absurd (hrw.2 hr) (by simp)⟩, HB7⟩
                    · have k2b : (fe != 0) = true := by rw [bne_iff_ne]; exact k2
                      have HK2 := Aside0.mk k2
                      clear k2
                      by_cases k3 : fi = N
                      · have k3b : (fi != N) = false := by rw [k3]; simp
                        have HK3 := Aside0.mk k3
                        clear k3
                        have HST : Aside0 (StepP (gS l0) l0.length (toks l1) (gB hv) a3 x.toNat a3) := ⟨step_mk HSS.out HN.out (by have := HX.out; omega) HMY.out (fun h => absurd h.1 (by simp)) (fun _ => rfl) (fun _ => HK3.out.trans (if_neg (by have := HK1.out; omega)).symm)⟩
                        have HNw : Aside0 (0 ≤ a3 ∧ a3 ≤ l1.length) := ⟨by first | exact H3.out | exact HNb.out⟩
                        go_upto_region 22 with (first
                          | ((with_reducible refine gate_dst (N := 99) rfl ?_); refine Kd.R_lit Kd.bool (w0 := w) w.heap.size 4 ?hg (N := 99) ?hd (xs := ([] : List Bool)) (inner := []) (ok := fun _ => True) (okp := fun _ => True) ?hr ?hp (fun _ hk => hk) trivial HB3.out HB3.out.size (by simp) ?_; (case hd => rfl); (case hg => rfl); (case hr => first | (go_simp; done) | (go_simp; rfl)); (case hp => exact (Reps.none _ _)); intro v1 w1 ho1 hb hg_ hnew_; clear hg_ hnew_; have HO1 := Aside0.mk ho1; have HB4 := Aside0.mk hb; clear hb ho1)
                          | ((with_reducible refine gate_builtin (b := .append) (xs := #[.tmp 99, .tmp 100]) rfl ?_); at_builtin; refine Kd.R_append_rows Kd.bool (w0 := w) w.heap.size rfl (.tmp 99) (.tmp 100) 29 4 (.bool false) 1 rfl Try.underlying29 info4b rfl (by decide) (by decide) v1 ([] : List Bool) hv _ _ _ (fun _ => True) (fun _ => False) rfl rfl ?aO ?aR (fun _ _ h => h) (fun _ h => h.elim) ?aF ?aB ?aS ?aL ?_; (case aR => exact Kd.C_below HR2.out HB4.out); (case aB => exact HB4.out); (case aF => exact (fun _ _ => trivial)); (case aO => exact HO1.out); (case aS => exact HB4.out.size); (case aL => have := HH.out.n0; simp only [List.length_nil]; omega); intro v2 w2 ho hb hg hat; rw [List.nil_append] at ho; have HO2 := Aside0.mk ho; have HB5 := Aside0.mk hb; clear HB4 HO1 ho hb hg hat)
                          | fail)
                        obtain ⟨gb, cap, rfl, _, _, _⟩ := Kd.R_form HO2.out (by have := HX.out; have := HL.out; omega)
                        rw [HL.out] at HO2 ⊢
                        obtain ⟨cc, hcl, hM, hcc, hfr⟩ := Kd.R_elem HO2.out false x HX.out.1 HX.out.2
                        obtain ⟨cu, rfl⟩ : ∃ u, cc = [u] := List.length_eq_one_iff.1 hcl
                        have HCC := Aside0.mk hcc
                        have HCL := Aside0.mk hcl
                        clear hM hcc hfr hcl
                        go_upto_region 23 with (((with_reducible refine gate_store (t := 4) (p := 104) rfl ?_); refine Kd.R_store Kd.bool (w0 := w) w.heap.size ?hN ?hg 4 (.tmp 104) (.const (.bool true)) ?ho 4 (o' := x.toNat) x 0 hv true (.bool true) [.bool true] [cu] (fun _ => True) (fun k => k ≠ gb) ?ha ?hof ?hx rfl rfl ?h1 HO2.out HX.out.1 HX.out.2 HCL.out HCC.out (Nat.le_of_ble_eq_true rfl) rfl (fun k hk => ⟨trivial, hk⟩) HB5.out ?_; (case hg => rfl); (case hN => rfl); (case ho => rfl); (case hof => show x.toNat = x.toNat * 1 + 0; omega); (case ha => first | rfl | (go_simp; done) | (go_simp; rfl)); (case hx => first | rfl | (go_simp; done) | (go_simp; rfl)); (case h1 => intro q hq; rw [List.mem_singleton] at hq; subst hq; rfl); intro w6 ho hb hg; have HO6 := Aside0.mk ho; have HB6 := Aside0.mk hb; clear ho hb hg HO2 HB5 HCC HCL))
                        have HR6 := Kd.R_reads' HO6.out
                        have HGS : Aside0 (gB (hv.set x.toNat true) = upd (gB hv) x.toNat) := ⟨gB_set (by have := HX.out; have := HL.out; omega)⟩
                        have HC6 : Aside0 (Calls Try.prog 10 #[.slice (some ad) l0.length c0, .slice A1 l1.length cp1, .slice (some ⟨gb, 0, none⟩) l0.length cap, .int .i64 a3] w6 (TryPost (Row (gS l0) l0.length (toks l1) (upd (gB hv) x.toNat) a3) w6)) := ⟨by
                          have hlen : (hv.set x.toNat true).length = l0.length := by rw [List.length_set]; exact HL.out
                          have hcnt := count_set (hv := hv) (i := x.toNat) (by have := HX.out; have := HL.out; omega) HMY.out.2
                          have := HIh.out w6 (hv.set x.toNat true) (some ⟨gb, 0, none⟩) cap a3 HB6.out hlen (by have h := HR6.2.2; rw [hlen] at h; exact h) (by have h := HR6.2.1; exact h) HNw.out (by have := HF.out; omega)
                          rw [HGS.out] at this
                          exact this⟩
                        clear HR6
                        go_wp2_with fail
                        refine HC6.out.mono ?_
                        rintro e w7 ⟨b7, rfl, hb7, hb⟩
                        have HB7 := Aside0.mk (below_step HB6.out hb)
                        have HRw := Aside0.mk hb7
                        clear hb hb7
                        cases b7 with
                        | true =>
                          go_wp2
                          go_ret
                          exact ⟨true, rfl, ⟨fun _ => .step x.toNat a3 HST.out (HRw.out.1 (by simp)), fun _ => rfl⟩, HB7.out⟩
                        | false =>
                          go_wp2
                          go_roundg m
                          case measure => omega
                          case rel => exact ⟨x + 1, rfl, ⟨by
                            obtain ⟨j, e, hj, hno⟩ := HJ.out
                            refine ⟨j + 1, by omega, by omega, hno.succ (fun now hs hr => ?_)⟩
                            have hst := HST.out
                            rw [show x.toNat = j by omega] at hst
                            obtain rfl := hs.now_eq hst
                            have hrw := HRw.out
                            rw [show x.toNat = j by omega] at hrw
                            exact absurd (hrw.2 hr) (by simp)⟩, HB7⟩
                      · have k3b : (fi != N) = true := by rw [bne_iff_ne]; exact k3
                        have HK3 := Aside0.mk k3
                        clear k3
                        go_wp2
                        go_roundg m
                        case measure => omega
                        case rel => exact ⟨x + 1, rfl, ⟨by
                          obtain ⟨j, e, hj, hno⟩ := HJ.out
                          refine ⟨j + 1, by omega, by omega, hno.succ (fun now hs => ?_)⟩
                          have hss := HSS.out
                          rw [show x.toNat = j by omega] at hss
                          have ho := step_out hss HN.out hs
                          have hnow : now = a3 := ho.2.1 (fun h => absurd h.1 (by simp))
                          subst hnow
                          exact absurd ((ho.2.2 HK2.out).trans (if_neg (by have := HK1.out; omega))) HK3.out⟩, HB3⟩
                | true =>
                  by_cases k0 : N = 0
                  · subst k0
                    have k4b : ((0 : Int) != a3 + 1) = true := by rw [bne_iff_ne]; have := H3.out; omega
                    go_wp2
                    go_roundg m
                    case measure => omega
                    case rel => exact ⟨x + 1, rfl, ⟨by
                      obtain ⟨j, e, hj, hno⟩ := HJ.out
                      refine ⟨j + 1, by omega, by omega, hno.succ (fun now hs => ?_)⟩
                      have hss := HSS.out
                      rw [show x.toNat = j by omega] at hss
                      have ho := step_out hss HN.out hs
                      have := (ho.1 ⟨rfl, .inl rfl⟩).1
                      have := H3.out
                      omega⟩, HB3⟩
                  · have k0b : (N == 0) = false := by rw [beq_eq_false_iff_ne]; exact k0
                    have HK0 := Aside0.mk k0
                    clear k0
                    by_cases k1 : a3 < N
                    · have k1b : decide (a3 < N) = true := decide_eq_true k1
                      have HK1 := Aside0.mk k1
                      by_cases k4 : N = a3 + 1
                      · have k4b : (N != a3 + 1) = false := by rw [← k4]; simp
                        have HK4 := Aside0.mk k4
                        clear k4 k1
                        have k5b : decide (N < N) = false := decide_eq_false (by omega)
                        by_cases k2 : fe = 0
                        · subst k2
                          have HST : Aside0 (StepP (gS l0) l0.length (toks l1) (gB hv) a3 x.toNat N) := ⟨step_mk HSS.out HN.out (by have := HX.out; omega) HMY.out (fun _ => ⟨HK4.out, rfl⟩) (fun h => absurd ⟨rfl, .inr HK1.out⟩ h) (fun h => absurd rfl h)⟩
                          have HNw : Aside0 (0 ≤ N ∧ N ≤ l1.length) := ⟨by first | exact H3.out | exact HNb.out⟩
                          go_upto_region 22 with (first
                            | ((with_reducible refine gate_dst (N := 99) rfl ?_); refine Kd.R_lit Kd.bool (w0 := w) w.heap.size 4 ?hg (N := 99) ?hd (xs := ([] : List Bool)) (inner := []) (ok := fun _ => True) (okp := fun _ => True) ?hr ?hp (fun _ hk => hk) trivial HB3.out HB3.out.size (by simp) ?_; (case hd => rfl); (case hg => rfl); (case hr => first | (go_simp; done) | (go_simp; rfl)); (case hp => exact (Reps.none _ _)); intro v1 w1 ho1 hb hg_ hnew_; clear hg_ hnew_; have HO1 := Aside0.mk ho1; have HB4 := Aside0.mk hb; clear hb ho1)
                            | ((with_reducible refine gate_builtin (b := .append) (xs := #[.tmp 99, .tmp 100]) rfl ?_); at_builtin; refine Kd.R_append_rows Kd.bool (w0 := w) w.heap.size rfl (.tmp 99) (.tmp 100) 29 4 (.bool false) 1 rfl Try.underlying29 info4b rfl (by decide) (by decide) v1 ([] : List Bool) hv _ _ _ (fun _ => True) (fun _ => False) rfl rfl ?aO ?aR (fun _ _ h => h) (fun _ h => h.elim) ?aF ?aB ?aS ?aL ?_; (case aR => exact Kd.C_below HR2.out HB4.out); (case aB => exact HB4.out); (case aF => exact (fun _ _ => trivial)); (case aO => exact HO1.out); (case aS => exact HB4.out.size); (case aL => have := HH.out.n0; simp only [List.length_nil]; omega); intro v2 w2 ho hb hg hat; rw [List.nil_append] at ho; have HO2 := Aside0.mk ho; have HB5 := Aside0.mk hb; clear HB4 HO1 ho hb hg hat)
                            | fail)
                          obtain ⟨gb, cap, rfl, _, _, _⟩ := Kd.R_form HO2.out (by have := HX.out; have := HL.out; omega)
                          rw [HL.out] at HO2 ⊢
                          obtain ⟨cc, hcl, hM, hcc, hfr⟩ := Kd.R_elem HO2.out false x HX.out.1 HX.out.2
                          obtain ⟨cu, rfl⟩ : ∃ u, cc = [u] := List.length_eq_one_iff.1 hcl
                          have HCC := Aside0.mk hcc
                          have HCL := Aside0.mk hcl
                          clear hM hcc hfr hcl
                          go_upto_region 23 with (((with_reducible refine gate_store (t := 4) (p := 104) rfl ?_); refine Kd.R_store Kd.bool (w0 := w) w.heap.size ?hN ?hg 4 (.tmp 104) (.const (.bool true)) ?ho 4 (o' := x.toNat) x 0 hv true (.bool true) [.bool true] [cu] (fun _ => True) (fun k => k ≠ gb) ?ha ?hof ?hx rfl rfl ?h1 HO2.out HX.out.1 HX.out.2 HCL.out HCC.out (Nat.le_of_ble_eq_true rfl) rfl (fun k hk => ⟨trivial, hk⟩) HB5.out ?_; (case hg => rfl); (case hN => rfl); (case ho => rfl); (case hof => show x.toNat = x.toNat * 1 + 0; omega); (case ha => first | rfl | (go_simp; done) | (go_simp; rfl)); (case hx => first | rfl | (go_simp; done) | (go_simp; rfl)); (case h1 => intro q hq; rw [List.mem_singleton] at hq; subst hq; rfl); intro w6 ho hb hg; have HO6 := Aside0.mk ho; have HB6 := Aside0.mk hb; clear ho hb hg HO2 HB5 HCC HCL))
                          have HR6 := Kd.R_reads' HO6.out
                          have HGS : Aside0 (gB (hv.set x.toNat true) = upd (gB hv) x.toNat) := ⟨gB_set (by have := HX.out; have := HL.out; omega)⟩
                          have HC6 : Aside0 (Calls Try.prog 10 #[.slice (some ad) l0.length c0, .slice A1 l1.length cp1, .slice (some ⟨gb, 0, none⟩) l0.length cap, .int .i64 N] w6 (TryPost (Row (gS l0) l0.length (toks l1) (upd (gB hv) x.toNat) N) w6)) := ⟨by
                            have hlen : (hv.set x.toNat true).length = l0.length := by rw [List.length_set]; exact HL.out
                            have hcnt := count_set (hv := hv) (i := x.toNat) (by have := HX.out; have := HL.out; omega) HMY.out.2
                            have := HIh.out w6 (hv.set x.toNat true) (some ⟨gb, 0, none⟩) cap N HB6.out hlen (by have h := HR6.2.2; rw [hlen] at h; exact h) (by have h := HR6.2.1; exact h) HNw.out (by have := HF.out; omega)
                            rw [HGS.out] at this
                            exact this⟩
                          clear HR6
                          go_wp2_with fail
                          refine HC6.out.mono ?_
                          rintro e w7 ⟨b7, rfl, hb7, hb⟩
                          have HB7 := Aside0.mk (below_step HB6.out hb)
                          have HRw := Aside0.mk hb7
                          clear hb hb7
                          cases b7 with
                          | true =>
                            go_wp2
                            go_ret
                            exact ⟨true, rfl, ⟨fun _ => .step x.toNat N HST.out (HRw.out.1 (by simp)), fun _ => rfl⟩, HB7.out⟩
                          | false =>
                            go_wp2
                            go_roundg m
                            case measure => omega
                            case rel => exact ⟨x + 1, rfl, ⟨by
                              obtain ⟨j, e, hj, hno⟩ := HJ.out
                              refine ⟨j + 1, by omega, by omega, hno.succ (fun now hs hr => ?_)⟩
                              have hst := HST.out
                              rw [show x.toNat = j by omega] at hst
                              obtain rfl := hs.now_eq hst
                              have hrw := HRw.out
                              rw [show x.toNat = j by omega] at hrw
                              exact absurd (hrw.2 hr) (by simp)⟩, HB7⟩
                        · have k2b : (fe != 0) = true := by rw [bne_iff_ne]; exact k2
                          have HK2 := Aside0.mk k2
                          clear k2
                          by_cases k3 : fi = N
                          · have k3b : (fi != N) = false := by rw [k3]; simp
                            have HK3 := Aside0.mk k3
                            clear k3
                            have HST : Aside0 (StepP (gS l0) l0.length (toks l1) (gB hv) a3 x.toNat N) := ⟨step_mk HSS.out HN.out (by have := HX.out; omega) HMY.out (fun _ => ⟨HK4.out, rfl⟩) (fun h => absurd ⟨rfl, .inr HK1.out⟩ h) (fun _ => HK3.out.trans (if_neg (by omega)).symm)⟩
                            have HNw : Aside0 (0 ≤ N ∧ N ≤ l1.length) := ⟨by first | exact H3.out | exact HNb.out⟩
                            go_upto_region 22 with (first
                              | ((with_reducible refine gate_dst (N := 99) rfl ?_); refine Kd.R_lit Kd.bool (w0 := w) w.heap.size 4 ?hg (N := 99) ?hd (xs := ([] : List Bool)) (inner := []) (ok := fun _ => True) (okp := fun _ => True) ?hr ?hp (fun _ hk => hk) trivial HB3.out HB3.out.size (by simp) ?_; (case hd => rfl); (case hg => rfl); (case hr => first | (go_simp; done) | (go_simp; rfl)); (case hp => exact (Reps.none _ _)); intro v1 w1 ho1 hb hg_ hnew_; clear hg_ hnew_; have HO1 := Aside0.mk ho1; have HB4 := Aside0.mk hb; clear hb ho1)
                              | ((with_reducible refine gate_builtin (b := .append) (xs := #[.tmp 99, .tmp 100]) rfl ?_); at_builtin; refine Kd.R_append_rows Kd.bool (w0 := w) w.heap.size rfl (.tmp 99) (.tmp 100) 29 4 (.bool false) 1 rfl Try.underlying29 info4b rfl (by decide) (by decide) v1 ([] : List Bool) hv _ _ _ (fun _ => True) (fun _ => False) rfl rfl ?aO ?aR (fun _ _ h => h) (fun _ h => h.elim) ?aF ?aB ?aS ?aL ?_; (case aR => exact Kd.C_below HR2.out HB4.out); (case aB => exact HB4.out); (case aF => exact (fun _ _ => trivial)); (case aO => exact HO1.out); (case aS => exact HB4.out.size); (case aL => have := HH.out.n0; simp only [List.length_nil]; omega); intro v2 w2 ho hb hg hat; rw [List.nil_append] at ho; have HO2 := Aside0.mk ho; have HB5 := Aside0.mk hb; clear HB4 HO1 ho hb hg hat)
                              | fail)
                            obtain ⟨gb, cap, rfl, _, _, _⟩ := Kd.R_form HO2.out (by have := HX.out; have := HL.out; omega)
                            rw [HL.out] at HO2 ⊢
                            obtain ⟨cc, hcl, hM, hcc, hfr⟩ := Kd.R_elem HO2.out false x HX.out.1 HX.out.2
                            obtain ⟨cu, rfl⟩ : ∃ u, cc = [u] := List.length_eq_one_iff.1 hcl
                            have HCC := Aside0.mk hcc
                            have HCL := Aside0.mk hcl
                            clear hM hcc hfr hcl
                            go_upto_region 23 with (((with_reducible refine gate_store (t := 4) (p := 104) rfl ?_); refine Kd.R_store Kd.bool (w0 := w) w.heap.size ?hN ?hg 4 (.tmp 104) (.const (.bool true)) ?ho 4 (o' := x.toNat) x 0 hv true (.bool true) [.bool true] [cu] (fun _ => True) (fun k => k ≠ gb) ?ha ?hof ?hx rfl rfl ?h1 HO2.out HX.out.1 HX.out.2 HCL.out HCC.out (Nat.le_of_ble_eq_true rfl) rfl (fun k hk => ⟨trivial, hk⟩) HB5.out ?_; (case hg => rfl); (case hN => rfl); (case ho => rfl); (case hof => show x.toNat = x.toNat * 1 + 0; omega); (case ha => first | rfl | (go_simp; done) | (go_simp; rfl)); (case hx => first | rfl | (go_simp; done) | (go_simp; rfl)); (case h1 => intro q hq; rw [List.mem_singleton] at hq; subst hq; rfl); intro w6 ho hb hg; have HO6 := Aside0.mk ho; have HB6 := Aside0.mk hb; clear ho hb hg HO2 HB5 HCC HCL))
                            have HR6 := Kd.R_reads' HO6.out
                            have HGS : Aside0 (gB (hv.set x.toNat true) = upd (gB hv) x.toNat) := ⟨gB_set (by have := HX.out; have := HL.out; omega)⟩
                            have HC6 : Aside0 (Calls Try.prog 10 #[.slice (some ad) l0.length c0, .slice A1 l1.length cp1, .slice (some ⟨gb, 0, none⟩) l0.length cap, .int .i64 N] w6 (TryPost (Row (gS l0) l0.length (toks l1) (upd (gB hv) x.toNat) N) w6)) := ⟨by
                              have hlen : (hv.set x.toNat true).length = l0.length := by rw [List.length_set]; exact HL.out
                              have hcnt := count_set (hv := hv) (i := x.toNat) (by have := HX.out; have := HL.out; omega) HMY.out.2
                              have := HIh.out w6 (hv.set x.toNat true) (some ⟨gb, 0, none⟩) cap N HB6.out hlen (by have h := HR6.2.2; rw [hlen] at h; exact h) (by have h := HR6.2.1; exact h) HNw.out (by have := HF.out; omega)
                              rw [HGS.out] at this
                              exact this⟩
                            clear HR6
                            go_wp2_with fail
                            refine HC6.out.mono ?_
                            rintro e w7 ⟨b7, rfl, hb7, hb⟩
                            have HB7 := Aside0.mk (below_step HB6.out hb)
                            have HRw := Aside0.mk hb7
                            clear hb hb7
                            cases b7 with
                            | true =>
                              go_wp2
                              go_ret
                              exact ⟨true, rfl, ⟨fun _ => .step x.toNat N HST.out (HRw.out.1 (by simp)), fun _ => rfl⟩, HB7.out⟩
                            | false =>
                              go_wp2
                              go_roundg m
                              case measure => omega
                              case rel => exact ⟨x + 1, rfl, ⟨by
                                obtain ⟨j, e, hj, hno⟩ := HJ.out
                                refine ⟨j + 1, by omega, by omega, hno.succ (fun now hs hr => ?_)⟩
                                have hst := HST.out
                                rw [show x.toNat = j by omega] at hst
                                obtain rfl := hs.now_eq hst
                                have hrw := HRw.out
                                rw [show x.toNat = j by omega] at hrw
                                exact absurd (hrw.2 hr) (by simp)⟩, HB7⟩
                          · have k3b : (fi != N) = true := by rw [bne_iff_ne]; exact k3
                            have HK3 := Aside0.mk k3
                            clear k3
                            go_wp2
                            go_roundg m
                            case measure => omega
                            case rel => exact ⟨x + 1, rfl, ⟨by
                              obtain ⟨j, e, hj, hno⟩ := HJ.out
                              refine ⟨j + 1, by omega, by omega, hno.succ (fun now hs => ?_)⟩
                              have hss := HSS.out
                              rw [show x.toNat = j by omega] at hss
                              have ho := step_out hss HN.out hs
                              have hnow : now = N := (ho.1 ⟨rfl, .inr HK1.out⟩).2
                              subst hnow
                              exact absurd ((ho.2.2 HK2.out).trans (if_neg (by omega))) HK3.out⟩, HB3⟩
                      · have k4b : (N != a3 + 1) = true := by rw [bne_iff_ne]; exact k4
                        have HK4 := Aside0.mk k4
                        clear k4 k1
                        go_wp2
                        go_roundg m
                        case measure => omega
                        case rel => exact ⟨x + 1, rfl, ⟨by
                          obtain ⟨j, e, hj, hno⟩ := HJ.out
                          refine ⟨j + 1, by omega, by omega, hno.succ (fun now hs => ?_)⟩
                          have hss := HSS.out
                          rw [show x.toNat = j by omega] at hss
                          have ho := step_out hss HN.out hs
                          exact absurd (ho.1 ⟨rfl, .inr HK1.out⟩).1 HK4.out⟩, HB3⟩
                    · have k1b : decide (a3 < N) = false := decide_eq_false k1
                      have HK1 := Aside0.mk k1
                      by_cases k2 : fe = 0
                      · subst k2
                        have HST : Aside0 (StepP (gS l0) l0.length (toks l1) (gB hv) a3 x.toNat a3) := ⟨step_mk HSS.out HN.out (by have := HX.out; omega) HMY.out (fun h => h.2.elim (fun h => absurd h HK0.out) (fun h => absurd h (by have := HK1.out; omega))) (fun _ => rfl) (fun h => absurd rfl h)⟩
                        have HNw : Aside0 (0 ≤ a3 ∧ a3 ≤ l1.length) := ⟨by first | exact H3.out | exact HNb.out⟩
                        go_upto_region 22 with (first
                          | ((with_reducible refine gate_dst (N := 99) rfl ?_); refine Kd.R_lit Kd.bool (w0 := w) w.heap.size 4 ?hg (N := 99) ?hd (xs := ([] : List Bool)) (inner := []) (ok := fun _ => True) (okp := fun _ => True) ?hr ?hp (fun _ hk => hk) trivial HB3.out HB3.out.size (by simp) ?_; (case hd => rfl); (case hg => rfl); (case hr => first | (go_simp; done) | (go_simp; rfl)); (case hp => exact (Reps.none _ _)); intro v1 w1 ho1 hb hg_ hnew_; clear hg_ hnew_; have HO1 := Aside0.mk ho1; have HB4 := Aside0.mk hb; clear hb ho1)
                          | ((with_reducible refine gate_builtin (b := .append) (xs := #[.tmp 99, .tmp 100]) rfl ?_); at_builtin; refine Kd.R_append_rows Kd.bool (w0 := w) w.heap.size rfl (.tmp 99) (.tmp 100) 29 4 (.bool false) 1 rfl Try.underlying29 info4b rfl (by decide) (by decide) v1 ([] : List Bool) hv _ _ _ (fun _ => True) (fun _ => False) rfl rfl ?aO ?aR (fun _ _ h => h) (fun _ h => h.elim) ?aF ?aB ?aS ?aL ?_; (case aR => exact Kd.C_below HR2.out HB4.out); (case aB => exact HB4.out); (case aF => exact (fun _ _ => trivial)); (case aO => exact HO1.out); (case aS => exact HB4.out.size); (case aL => have := HH.out.n0; simp only [List.length_nil]; omega); intro v2 w2 ho hb hg hat; rw [List.nil_append] at ho; have HO2 := Aside0.mk ho; have HB5 := Aside0.mk hb; clear HB4 HO1 ho hb hg hat)
                          | fail)
                        obtain ⟨gb, cap, rfl, _, _, _⟩ := Kd.R_form HO2.out (by have := HX.out; have := HL.out; omega)
                        rw [HL.out] at HO2 ⊢
                        obtain ⟨cc, hcl, hM, hcc, hfr⟩ := Kd.R_elem HO2.out false x HX.out.1 HX.out.2
                        obtain ⟨cu, rfl⟩ : ∃ u, cc = [u] := List.length_eq_one_iff.1 hcl
                        have HCC := Aside0.mk hcc
                        have HCL := Aside0.mk hcl
                        clear hM hcc hfr hcl
                        go_upto_region 23 with (((with_reducible refine gate_store (t := 4) (p := 104) rfl ?_); refine Kd.R_store Kd.bool (w0 := w) w.heap.size ?hN ?hg 4 (.tmp 104) (.const (.bool true)) ?ho 4 (o' := x.toNat) x 0 hv true (.bool true) [.bool true] [cu] (fun _ => True) (fun k => k ≠ gb) ?ha ?hof ?hx rfl rfl ?h1 HO2.out HX.out.1 HX.out.2 HCL.out HCC.out (Nat.le_of_ble_eq_true rfl) rfl (fun k hk => ⟨trivial, hk⟩) HB5.out ?_; (case hg => rfl); (case hN => rfl); (case ho => rfl); (case hof => show x.toNat = x.toNat * 1 + 0; omega); (case ha => first | rfl | (go_simp; done) | (go_simp; rfl)); (case hx => first | rfl | (go_simp; done) | (go_simp; rfl)); (case h1 => intro q hq; rw [List.mem_singleton] at hq; subst hq; rfl); intro w6 ho hb hg; have HO6 := Aside0.mk ho; have HB6 := Aside0.mk hb; clear ho hb hg HO2 HB5 HCC HCL))
                        have HR6 := Kd.R_reads' HO6.out
                        have HGS : Aside0 (gB (hv.set x.toNat true) = upd (gB hv) x.toNat) := ⟨gB_set (by have := HX.out; have := HL.out; omega)⟩
                        have HC6 : Aside0 (Calls Try.prog 10 #[.slice (some ad) l0.length c0, .slice A1 l1.length cp1, .slice (some ⟨gb, 0, none⟩) l0.length cap, .int .i64 a3] w6 (TryPost (Row (gS l0) l0.length (toks l1) (upd (gB hv) x.toNat) a3) w6)) := ⟨by
                          have hlen : (hv.set x.toNat true).length = l0.length := by rw [List.length_set]; exact HL.out
                          have hcnt := count_set (hv := hv) (i := x.toNat) (by have := HX.out; have := HL.out; omega) HMY.out.2
                          have := HIh.out w6 (hv.set x.toNat true) (some ⟨gb, 0, none⟩) cap a3 HB6.out hlen (by have h := HR6.2.2; rw [hlen] at h; exact h) (by have h := HR6.2.1; exact h) HNw.out (by have := HF.out; omega)
                          rw [HGS.out] at this
                          exact this⟩
                        clear HR6
                        go_wp2_with fail
                        refine HC6.out.mono ?_
                        rintro e w7 ⟨b7, rfl, hb7, hb⟩
                        have HB7 := Aside0.mk (below_step HB6.out hb)
                        have HRw := Aside0.mk hb7
                        clear hb hb7
                        cases b7 with
                        | true =>
                          go_wp2
                          go_ret
                          exact ⟨true, rfl, ⟨fun _ => .step x.toNat a3 HST.out (HRw.out.1 (by simp)), fun _ => rfl⟩, HB7.out⟩
                        | false =>
                          go_wp2
                          go_roundg m
                          case measure => omega
                          case rel => exact ⟨x + 1, rfl, ⟨by
                            obtain ⟨j, e, hj, hno⟩ := HJ.out
                            refine ⟨j + 1, by omega, by omega, hno.succ (fun now hs hr => ?_)⟩
                            have hst := HST.out
                            rw [show x.toNat = j by omega] at hst
                            obtain rfl := hs.now_eq hst
                            have hrw := HRw.out
                            rw [show x.toNat = j by omega] at hrw
                            exact absurd (hrw.2 hr) (by simp)⟩, HB7⟩
                      · have k2b : (fe != 0) = true := by rw [bne_iff_ne]; exact k2
                        have HK2 := Aside0.mk k2
                        clear k2
                        by_cases k3 : fi = N
                        · have k3b : (fi != N) = false := by rw [k3]; simp
                          have HK3 := Aside0.mk k3
                          clear k3
                          have HST : Aside0 (StepP (gS l0) l0.length (toks l1) (gB hv) a3 x.toNat a3) := ⟨step_mk HSS.out HN.out (by have := HX.out; omega) HMY.out (fun h => h.2.elim (fun h => absurd h HK0.out) (fun h => absurd h (by have := HK1.out; omega))) (fun _ => rfl) (fun _ => HK3.out.trans (if_neg (by have := HK1.out; omega)).symm)⟩
                          have HNw : Aside0 (0 ≤ a3 ∧ a3 ≤ l1.length) := ⟨by first | exact H3.out | exact HNb.out⟩
                          go_upto_region 22 with (first
                            | ((with_reducible refine gate_dst (N := 99) rfl ?_); refine Kd.R_lit Kd.bool (w0 := w) w.heap.size 4 ?hg (N := 99) ?hd (xs := ([] : List Bool)) (inner := []) (ok := fun _ => True) (okp := fun _ => True) ?hr ?hp (fun _ hk => hk) trivial HB3.out HB3.out.size (by simp) ?_; (case hd => rfl); (case hg => rfl); (case hr => first | (go_simp; done) | (go_simp; rfl)); (case hp => exact (Reps.none _ _)); intro v1 w1 ho1 hb hg_ hnew_; clear hg_ hnew_; have HO1 := Aside0.mk ho1; have HB4 := Aside0.mk hb; clear hb ho1)
                            | ((with_reducible refine gate_builtin (b := .append) (xs := #[.tmp 99, .tmp 100]) rfl ?_); at_builtin; refine Kd.R_append_rows Kd.bool (w0 := w) w.heap.size rfl (.tmp 99) (.tmp 100) 29 4 (.bool false) 1 rfl Try.underlying29 info4b rfl (by decide) (by decide) v1 ([] : List Bool) hv _ _ _ (fun _ => True) (fun _ => False) rfl rfl ?aO ?aR (fun _ _ h => h) (fun _ h => h.elim) ?aF ?aB ?aS ?aL ?_; (case aR => exact Kd.C_below HR2.out HB4.out); (case aB => exact HB4.out); (case aF => exact (fun _ _ => trivial)); (case aO => exact HO1.out); (case aS => exact HB4.out.size); (case aL => have := HH.out.n0; simp only [List.length_nil]; omega); intro v2 w2 ho hb hg hat; rw [List.nil_append] at ho; have HO2 := Aside0.mk ho; have HB5 := Aside0.mk hb; clear HB4 HO1 ho hb hg hat)
                            | fail)
                          obtain ⟨gb, cap, rfl, _, _, _⟩ := Kd.R_form HO2.out (by have := HX.out; have := HL.out; omega)
                          rw [HL.out] at HO2 ⊢
                          obtain ⟨cc, hcl, hM, hcc, hfr⟩ := Kd.R_elem HO2.out false x HX.out.1 HX.out.2
                          obtain ⟨cu, rfl⟩ : ∃ u, cc = [u] := List.length_eq_one_iff.1 hcl
                          have HCC := Aside0.mk hcc
                          have HCL := Aside0.mk hcl
                          clear hM hcc hfr hcl
                          go_upto_region 23 with (((with_reducible refine gate_store (t := 4) (p := 104) rfl ?_); refine Kd.R_store Kd.bool (w0 := w) w.heap.size ?hN ?hg 4 (.tmp 104) (.const (.bool true)) ?ho 4 (o' := x.toNat) x 0 hv true (.bool true) [.bool true] [cu] (fun _ => True) (fun k => k ≠ gb) ?ha ?hof ?hx rfl rfl ?h1 HO2.out HX.out.1 HX.out.2 HCL.out HCC.out (Nat.le_of_ble_eq_true rfl) rfl (fun k hk => ⟨trivial, hk⟩) HB5.out ?_; (case hg => rfl); (case hN => rfl); (case ho => rfl); (case hof => show x.toNat = x.toNat * 1 + 0; omega); (case ha => first | rfl | (go_simp; done) | (go_simp; rfl)); (case hx => first | rfl | (go_simp; done) | (go_simp; rfl)); (case h1 => intro q hq; rw [List.mem_singleton] at hq; subst hq; rfl); intro w6 ho hb hg; have HO6 := Aside0.mk ho; have HB6 := Aside0.mk hb; clear ho hb hg HO2 HB5 HCC HCL))
                          have HR6 := Kd.R_reads' HO6.out
                          have HGS : Aside0 (gB (hv.set x.toNat true) = upd (gB hv) x.toNat) := ⟨gB_set (by have := HX.out; have := HL.out; omega)⟩
                          have HC6 : Aside0 (Calls Try.prog 10 #[.slice (some ad) l0.length c0, .slice A1 l1.length cp1, .slice (some ⟨gb, 0, none⟩) l0.length cap, .int .i64 a3] w6 (TryPost (Row (gS l0) l0.length (toks l1) (upd (gB hv) x.toNat) a3) w6)) := ⟨by
                            have hlen : (hv.set x.toNat true).length = l0.length := by rw [List.length_set]; exact HL.out
                            have hcnt := count_set (hv := hv) (i := x.toNat) (by have := HX.out; have := HL.out; omega) HMY.out.2
                            have := HIh.out w6 (hv.set x.toNat true) (some ⟨gb, 0, none⟩) cap a3 HB6.out hlen (by have h := HR6.2.2; rw [hlen] at h; exact h) (by have h := HR6.2.1; exact h) HNw.out (by have := HF.out; omega)
                            rw [HGS.out] at this
                            exact this⟩
                          clear HR6
                          go_wp2_with fail
                          refine HC6.out.mono ?_
                          rintro e w7 ⟨b7, rfl, hb7, hb⟩
                          have HB7 := Aside0.mk (below_step HB6.out hb)
                          have HRw := Aside0.mk hb7
                          clear hb hb7
                          cases b7 with
                          | true =>
                            go_wp2
                            go_ret
                            exact ⟨true, rfl, ⟨fun _ => .step x.toNat a3 HST.out (HRw.out.1 (by simp)), fun _ => rfl⟩, HB7.out⟩
                          | false =>
                            go_wp2
                            go_roundg m
                            case measure => omega
                            case rel => exact ⟨x + 1, rfl, ⟨by
                              obtain ⟨j, e, hj, hno⟩ := HJ.out
                              refine ⟨j + 1, by omega, by omega, hno.succ (fun now hs hr => ?_)⟩
                              have hst := HST.out
                              rw [show x.toNat = j by omega] at hst
                              obtain rfl := hs.now_eq hst
                              have hrw := HRw.out
                              rw [show x.toNat = j by omega] at hrw
                              exact absurd (hrw.2 hr) (by simp)⟩, HB7⟩
                        · have k3b : (fi != N) = true := by rw [bne_iff_ne]; exact k3
                          have HK3 := Aside0.mk k3
                          clear k3
                          go_wp2
                          go_roundg m
                          case measure => omega
                          case rel => exact ⟨x + 1, rfl, ⟨by
                            obtain ⟨j, e, hj, hno⟩ := HJ.out
                            refine ⟨j + 1, by omega, by omega, hno.succ (fun now hs => ?_)⟩
                            have hss := HSS.out
                            rw [show x.toNat = j by omega] at hss
                            have ho := step_out hss HN.out hs
                            have hnow : now = a3 := ho.2.1 (fun h => h.2.elim (fun h => absurd h HK0.out) (fun h => absurd h (by have := HK1.out; omega)))
                            subst hnow
                            exact absurd ((ho.2.2 HK2.out).trans (if_neg (by have := HK1.out; omega))) HK3.out⟩, HB3⟩
end Go.Proofs.Ytmijalplheoekaa.P
