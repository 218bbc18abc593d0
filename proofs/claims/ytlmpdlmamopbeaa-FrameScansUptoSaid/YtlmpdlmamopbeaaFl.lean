/- FrameJoins: the frames of frames and further bytes are the former's, and the latter's behind them. -/
import Derived.Test.YtlmpdlmamopbeaaFk
import Derived.Test.YtlmpdlmamopbeaaFo
import Derived.Test.YtlmpdlmamopbeaaP16
namespace Go.Proofs.Ytlmpdlmamopbeaa.P
open Go.RowKit Go.Proofs.YtlmpdlmamopbeaaW.PrintWords Go.Proofs.YtlmpdlmamopbeaaW.PrintLast Go.Proofs.YtlmpdlmamopbeaaW.PrintMore
set_option linter.unusedVariables false
set_option linter.unusedSimpArgs false
theorem same_l0 (a : List ByteArray) (hl : a.length < 4611686018427387904) : ∀ (d j : Nat), j + d = a.length → pannierlaw02_sameTexts.l0 (d + 1) a a (j : Int) = some true
  | 0, j, hj => by rw [pannierlaw02_sameTexts.l0, if_neg (by omega)]
  | d + 1, j, hj => by
    have ih := same_l0 a hl d (j + 1) (by omega)
    rw [pannierlaw02_sameTexts.l0, if_pos (by omega), if_pos (by omega), if_pos (by omega), if_pos rfl, w64n (by omega), ih]
theorem same_at (A0 : Option Addr) (c0 : Nat) (A1 : Option Addr) (c1 : Nat) (a : List ByteArray) (w : World) (h0 : Kd.C Kd.string w A0 a.length a) (hc0 : a.length ≤ c0) (h1 : Kd.C Kd.string w A1 a.length a) (hc1 : a.length ≤ c1) (hl : a.length < 4611686018427387904) :
    Calls Try.prog 16 #[.slice A0 a.length c0, .slice A1 a.length c1] w fun e w' => e = .returned (.bool true) ∧ Below w.heap.size w w' :=
  (pannierlaw02_sameTexts.calls (a.length + 1) A0 c0 a A1 c1 a true w h0 hc0 h1 hc1 (by
    unfold pannierlaw02_sameTexts.f
    rw [if_pos rfl]
    exact same_l0 a hl a.length 0 (by omega))).mono fun e w' h => ⟨h.1, Drawn0.below h.2⟩
theorem tot_sizes : ∀ l : List ByteArray, totS l ≤ 8 * sizesS l
  | [] => Nat.le_refl _
  | s :: r => by
    have := tot_sizes r
    rw [totS_cons, show sizesS (s :: r) = s.size + 1 + sizesS r by simp [sizesS]]
    omega
theorem len_sizes : ∀ l : List ByteArray, l.length ≤ sizesS l
  | [] => Nat.le_refl _
  | s :: r => by
    have := len_sizes r
    rw [show sizesS (s :: r) = s.size + 1 + sizesS r by simp [sizesS], List.length_cons]
    omega
theorem len_tot : ∀ l : List ByteArray, l.length ≤ totS l
  | [] => Nat.le_refl _
  | s :: r => by rw [totS_cons, List.length_cons]; have := len_tot r; omega
/-- What a loop that puts all payloads keeps. -/
def PutI (l : List ByteArray) (base : Nat) (x : Int) (kq : Nat) (A5 : Option Addr) (n5 c5 : Nat) (W : World) : Prop :=
  ∃ j : Nat, x = (j : Int) ∧ j + kq = l.length ∧ n5 = totS (l.take j) ∧ RB W base (.slice A5 n5 c5) (catF (l.take j)) ∧ ∀ s ∈ l.take j, s.size ≤ 65536
theorem rdS_get {l : List ByteArray} {j : Nat} (h : j < l.length) : rdOf ByteArray.empty l (j : Int) = l[j] := by
  unfold rdOf
  rw [Int.toNat_natCast, List.getD_eq_getElem?_getD, List.getElem?_eq_getElem h]; rfl
/-- One payload more. -/
theorem PutI.put {l : List ByteArray} {base m n5 c5 : Nat} {x : Int} {A5 : Option Addr} {W : World} (h : PutI l base x (m + 1) A5 n5 c5 W) (hb : base ≤ W.heap.size) (hs : (rdOf ByteArray.empty l x).size ≤ 65536) (hl : sizesS l ≤ 1048576) :
    Calls Try.prog 9 #[.slice A5 n5 c5, .string (rdOf ByteArray.empty l x)] W fun e w' => ∃ (A6 : Option Addr) (n6 c6 : Nat), e = .returned (.tuple #[.slice A6 n6 c6, .int .i64 0]) ∧ PutI l base (x + 1) m A6 n6 c6 w' ∧ Below W.heap.size W w' := by
  obtain ⟨j, e, hj, hn, hrow, hsm⟩ := h
  have hjl : j < l.length := by omega
  subst e
  rw [rdS_get hjl] at hs ⊢
  rw [← catF_length] at hn
  subst hn
  have hl5 : (catF (l.take j)).length ≤ 8388608 := by
    rw [catF_length]
    have := totS_take l j
    have := tot_sizes l
    omega
  refine (Put.at A5 c5 (catF (l.take j)) l[j] hs W hrow.C (by omega)).mono ?_
  rintro e2 w' ⟨v, rfl, ho, hbb⟩
  obtain ⟨A6, c6, rfl⟩ := Kd.R_slice ho
  have he : PutL (catF (l.take j)) l[j] = catF (l.take (j + 1)) := by rw [List.take_succ_eq_append_getElem hjl, catF_snoc]
  rw [he] at ho ⊢
  refine ⟨A6, _, c6, rfl, ⟨j + 1, by omega, by omega, catF_length _, RB.down ho hb, fun s hs2 => ?_⟩, hbb⟩
  rw [List.take_succ_eq_append_getElem hjl] at hs2
  rcases List.mem_append.1 hs2 with q | q
  · exact hsm s q
  · rw [List.mem_singleton] at q; rw [q]; exact hs
theorem PutI.below {l : List ByteArray} {base kq n5 c5 : Nat} {x : Int} {A5 : Option Addr} {W W' : World} (h : PutI l base x kq A5 n5 c5 W) (hb : Below W.heap.size W W') : PutI l base x kq A5 n5 c5 W' := by
  obtain ⟨j, e, hj, hn, hrow, hsm⟩ := h
  exact ⟨j, e, hj, hn, RB.below hrow hb, hsm⟩
theorem PutI.all {l : List ByteArray} {base n5 c5 : Nat} {x : Int} {A5 : Option Addr} {W : World} (h : PutI l base x 0 A5 n5 c5 W) : n5 = totS l ∧ RB W base (.slice A5 (catF l).length c5) (catF l) ∧ ∀ s ∈ l, s.size ≤ 65536 := by
  obtain ⟨j, e, hj, hn, hrow, hsm⟩ := h
  rw [List.take_of_length_le (by omega)] at hn hrow hsm
  refine ⟨hn, ?_, hsm⟩
  rw [catF_length, ← hn]
  exact hrow
set_option maxHeartbeats 4000000 in
set_option maxRecDepth 100000 in
theorem FrameJoins.at (A0 : Option Addr) (c0 : Nat) (l : List ByteArray) (A1 : Option Addr) (c1 : Nat) (r : List Int) (w : World) (hr : Kd.C Kd.string w A0 l.length l) (hc : l.length ≤ c0) (hl : sizesS l ≤ 1048576) (hr1 : Kd.C (Kd.int .u8) w A1 r.length r) (hc1 : r.length ≤ c1) (hb : Bts r) (hl1 : r.length ≤ 1048576) :
    Calls Try.prog 7 #[.slice A0 l.length c0, .slice A1 r.length c1] w fun e w' => e = .returned (.bool true) ∧ Below w.heap.size w w' := by
  have HR := Aside0.mk hr
  have HC := Aside0.mk hc
  have HL := Aside0.mk hl
  have HR1 := Aside0.mk hr1
  have HC1 := Aside0.mk hc1
  have HBt := Aside0.mk hb
  have HL1 := Aside0.mk hl1
  have HLl : Aside0 (l.length ≤ 1048576) := ⟨Nat.le_trans (len_sizes l) hl⟩
  clear hr hc hl hr1 hc1 hb hl1
  have HB := Aside0.mk (Below.refl w.heap.size w)
  go_enter Try.func7, Try.ntmps7
  go_wp2
  go_loopg [5, 6] l.length (fun kq v5 v6 wc => ∃ (x : Int) (A5 : Option Addr) (n5 c5 : Nat), v5 = .slice A5 n5 c5 ∧ v6 = .int .i64 x ∧ Aside0 (PutI l w.heap.size x kq A5 n5 c5 wc) ∧ Aside0 (Below w.heap.size w wc))
  case atStart => exact ⟨0, none, 0, 0, rfl, rfl, ⟨0, rfl, by omega, rfl, Kd.R_nil _ _ _ _ _, fun s h => absurd h (by simp)⟩, HB⟩
  case round =>
    clear HB
    obtain ⟨x, A5, n5, c5, rfl, rfl, HJ, HB⟩ := hrel
    cases gk with
    | succ m =>
      have c0b : decide (x < (l.length : Int)) = true := decide_eq_true (by obtain ⟨j, e, hj, _⟩ := HJ.out; omega)
      have hx1 : IntKind.i64.wrap (x + 1) = x + 1 := by rw [i64_w]; unfold wrap64; obtain ⟨j, e, hj, _⟩ := HJ.out; have := HLl.out; omega
      have c1 : 0 ≤ x := by obtain ⟨j, e, hj, _⟩ := HJ.out; omega
      have c2 : x < (l.length : Int) := by obtain ⟨j, e, hj, _⟩ := HJ.out; omega
      obtain ⟨ad, e129, hx129⟩ := Kd.at_string (Kd.C_below HR.out HB.out) x c1 c2
      cases e129
      replace c1 := eq_true c1
      replace c2 := eq_true c2
      by_cases q : 65536 < (rdOf ByteArray.empty l x).size
      · have HQ := Aside0.mk q
        have k1 : decide ((65536 : Int) < ((rdOf ByteArray.empty l x).size : Int)) = true := decide_eq_true (by omega)
        clear q
        go_wp2_with fail
        refine (Put.long A5 c5 n5 _ HQ.out wr).mono ?_
        rintro e w2 ⟨rfl, hb⟩
        have HB2 : Aside0 (Below w.heap.size w w2) := ⟨below_step HB.out hb⟩
        have hx2 := pw_cell_below hb hx129
        clear hb hx129
        go_wp2_with fail
        refine (lives.at _).mono ?_
        rintro e w3 ⟨rfl, hb⟩
        have HB3 : Aside0 (Below w.heap.size w w3) := ⟨below_step HB2.out hb⟩
        have hx3 := pw_cell_below hb hx2
        clear hb hx2
        go_wp2
        go_ret
        exact ⟨rfl, HB3.out⟩
      · have HQ : Aside0 ((rdOf ByteArray.empty l x).size ≤ 65536) := ⟨by omega⟩
        clear q
        go_wp2_with fail
        refine (HJ.out.put HB.out.size HQ.out HL.out).mono ?_
        rintro e w2 ⟨A6, n6, c6, rfl, hj, hb⟩
        have HJ6 := Aside0.mk hj
        have HB6 : Aside0 (Below w.heap.size w w2) := ⟨below_step HB.out hb⟩
        clear hj hb
        go_wp2
        go_roundg m
        case measure => omega
        case rel => exact ⟨x + 1, A6, n6, c6, rfl, rfl, HJ6, HB6⟩
    | zero =>
      have c0b : decide (x < (l.length : Int)) = false := decide_eq_false (by obtain ⟨j, e, hj, _⟩ := HJ.out; omega)
      obtain ⟨e5, hrow, hsm⟩ := HJ.out.all
      have HRow := Aside0.mk hrow
      have HSc : Aside0 (scanS (catF l ++ r) = l ++ scanS r) := ⟨scan_cat l hsm r⟩
      have HTl : Aside0 (n5 = totS l ∧ totS l ≤ 8388608) := ⟨e5, by have := tot_sizes l; have := HL.out; omega⟩
      have HSr := Aside0.mk (scan_spec HBt.out)
      clear HJ hrow hsm e5
      have hn5 : (catF l).length = n5 := by rw [catF_length, HTl.out.1]
      rw [hn5] at HRow
      have HCr : Aside0 (Kd.C (Kd.int .u8) wr A5 n5 (catF l)) := ⟨by have := HRow.out.C; rw [hn5] at this; exact this⟩
      clear hn5
      go_wp2_with (first
        | ((with_reducible refine gate_dst (N := 41) rfl ?_); refine Kd.R_lit (Kd.int .u8) (w0 := wr) (wr).heap.size 5 ?hg (N := 41) ?hd (xs := ([] : List Int)) (inner := []) (ok := fun _ => True) (okp := fun _ => True) ?hr ?hp (fun _ hk => hk) trivial (Below.refl wr.heap.size wr) ((Below.refl wr.heap.size wr)).size (by simp) ?_; (case hd => rfl); (case hg => rfl); (case hr => first | (go_simp; done) | (go_simp; rfl)); (case hp => exact (Reps.none _ _)); intro v1 w1 ho hb hg_ hnew_; clear hg_ hnew_; have H1 : Aside0 (RB w1 (wr).heap.size v1 []) := ⟨ho⟩; have HB1 := Aside0.mk hb; clear hb ho)
        | ((with_reducible refine gate_builtin (b := .append) (xs := #[.tmp 41, .tmp 42]) rfl ?_); at_builtin; refine Kd.R_append_rows (Kd.int .u8) (w0 := wr) wr.heap.size rfl (.tmp 41) (.tmp 42) 22 5 (.int .u8 0) 1 rfl Try.underlying22 info5 rfl (by decide) (by decide) v1 ([] : List Int) (catF l) _ _ _ (fun _ => True) (fun _ => False) rfl rfl H1.out (Kd.C_below HCr.out HB1.out) (fun _ _ h => h) (fun _ h => h.elim) (fun _ _ => trivial) HB1.out HB1.out.size ?hl ?_; (case hl => have := HTl.out; simp only [List.length_nil]; omega); intro v2 w2 ho hb hg hat; have H2 : Aside0 (RB w2 wr.heap.size v2 ([] ++ catF l)) := ⟨ho⟩; have HB2 := Aside0.mk hb; clear ho hb hg hat)
        | ((with_reducible refine gate_builtin (b := .append) (xs := #[.tmp 43, .tmp 44]) rfl ?_); at_builtin; refine appR (w0 := wr) (wr).heap.size rfl (.tmp 43) (.tmp 44) rfl v2 ([] ++ catF l) r _ _ rfl rfl H2.out (Kd.C_below HR1.out (below_step HB.out HB2.out)) HB2.out HB2.out.size ?hl ?_; (case hl => have := HTl.out; have := HL1.out; rw [List.nil_append, catF_length]; omega); intro v3 w3 ho hb; have H3 := Aside0.mk ho; have HB3 := Aside0.mk hb; clear ho hb)
        | fail)
      rw [List.nil_append] at H3
      obtain ⟨A3, c3, rfl⟩ := Kd.R_slice H3.out
      refine (Scan.plain A3 c3 (catF l ++ r) w3 H3.out.C ((catF_bts l).append HBt.out) (by rw [List.length_append, catF_length]; have := HTl.out; have := HL1.out; omega)).mono ?_
      rintro e w4 ⟨A4, c4, rfl, h4, hb⟩
      rw [HSc.out] at h4 ⊢
      have H4 := Aside0.mk h4
      have HB4 : Aside0 (Below w.heap.size w w4) := ⟨below_step HB.out (below_step HB3.out hb)⟩
      clear h4 hb H1 H2 H3 HB1 HB2 HB3
      obtain ⟨K, eK⟩ : ∃ K, scanS r = K := ⟨_, rfl⟩
      have HEk := Aside0.mk eK
      rw [eK] at H4 HSr ⊢
      have HKl : Aside0 (K.length ≤ 1048576 ∧ totS K ≤ 1048576) := ⟨by have := len_tot K; have := HSr.out.2.1; have := HL1.out; omega⟩
      obtain ⟨ml, eml⟩ : ∃ ml, (l ++ K).length = ml := ⟨_, rfl⟩
      have HMl : Aside0 ((l ++ K).length = ml) := ⟨eml⟩
      rw [eml] at H4 ⊢
      have htt : totS (l ++ K) = n5 + totS K := by rw [totS_append, HTl.out.1]
      rw [htt]
      obtain ⟨tk, etk⟩ : ∃ tk, totS K = tk := ⟨_, rfl⟩
      have HTk : Aside0 (tk ≤ 1048576) := ⟨by rw [← etk]; exact HKl.out.2⟩
      have HEt := Aside0.mk etk
      rw [etk]
      clear eK eml htt etk
      go_wp2_with fail
      refine (Scan.plain A1 c1 r w4 (Kd.C_below HR1.out HB4.out) HBt.out (by have := HL1.out; omega)).mono ?_
      rintro e w5 ⟨A6, c6, rfl, h6, hb⟩
      rw [HEk.out] at h6
      rw [HEk.out, HEt.out]
      have H6 := Aside0.mk h6
      have H5 : Aside0 (Kd.string.R 9 w5 w3.heap.size (fun _ => True) (.slice A4 ml c4) (l ++ K)) := ⟨Kd.R_below H4.out hb⟩
      have HB5 : Aside0 (Below w.heap.size w w5) := ⟨below_step HB4.out hb⟩
      clear h6 hb H4 HB4
      go_wp2_with fail
      refine (lives.at _).mono ?_
      rintro e w6 ⟨rfl, hb⟩
      have H7 : Aside0 (Kd.string.R 9 w6 w3.heap.size (fun _ => True) (.slice A4 ml c4) (l ++ K)) := ⟨Kd.R_below H5.out hb⟩
      have H8 : Aside0 (Kd.string.R 9 w6 w4.heap.size (fun _ => True) (.slice A6 K.length c6) K) := ⟨Kd.R_below H6.out hb⟩
      have HB6 : Aside0 (Below w.heap.size w w6) := ⟨below_step HB5.out hb⟩
      clear hb H5 H6 HB5
      have hsum : IntKind.i64.wrap ((n5 : Int) + (tk : Int)) = (n5 : Int) + (tk : Int) := by rw [i64_w]; unfold wrap64; have := HTl.out; have := HTk.out; omega
      go_wp2_with (first
        | ((with_reducible refine gate_dst (N := 57) rfl ?_); (try (refine gate_guard (by rfl) ?_; dsimp only)); refine Kd.R_lit Kd.string (w0 := w6) (w6).heap.size 9 ?hg (N := 57) ?hd (xs := ([] : List ByteArray)) (inner := []) (ok := fun _ => True) (okp := fun _ => True) ?hr ?hp (fun _ hk => hk) trivial (Below.refl w6.heap.size w6) ((Below.refl w6.heap.size w6)).size (by simp) ?_; (case hd => rfl); (case hg => rfl); (case hr => first | (go_simp; done) | (go_simp; rfl)); (case hp => exact (Reps.none _ _)); intro v1 y1 ho hb hg_ hnew_; clear hg_ hnew_; have H1 : Aside0 (Kd.string.R 9 y1 (w6).heap.size (fun _ => True) v1 []) := ⟨ho⟩; have HB1 := Aside0.mk hb; clear hb ho)
        | ((with_reducible refine gate_builtin (b := .append) (xs := #[.tmp 57, .tmp 58]) rfl ?_); (try (refine gate_guard (by rfl) ?_; dsimp only)); at_builtin; refine Kd.R_append_rows Kd.string (w0 := w6) (w6).heap.size rfl (.tmp 57) (.tmp 58) 30 9 (.string ⟨#[]⟩) 16 rfl Try.underlying30 info9 rfl (by decide) (by decide) v1 [] l _ _ _ (fun _ => True) (fun _ => False) rfl rfl H1.out (Kd.C_below HR.out (below_step HB6.out HB1.out)) (fun _ _ h => h) (fun _ h => h.elim) (fun _ _ => trivial) HB1.out HB1.out.size ?hl ?_; (case hl => have := HLl.out; simp only [List.length_nil]; omega); intro v2 y2 ho hb hg hat; have H2 := Aside0.mk ho; have HB2 := Aside0.mk hb; clear ho hb hg hat)
        | ((with_reducible refine gate_builtin (b := .append) (xs := #[.tmp 59, .tmp 60]) rfl ?_); (try (refine gate_guard (by rfl) ?_; dsimp only)); at_builtin; refine Kd.R_append_rows Kd.string (w0 := w6) (w6).heap.size rfl (.tmp 59) (.tmp 60) 30 9 (.string ⟨#[]⟩) 16 rfl Try.underlying30 info9 rfl (by decide) (by decide) v2 ([] ++ l) K _ _ _ (fun _ => True) (fun _ => False) rfl rfl H2.out (Kd.C_below (Kd.R_reads' H8.out).2.2 HB2.out) (fun _ _ h => h) (fun _ h => h.elim) (fun _ _ => trivial) HB2.out HB2.out.size ?hl ?_; (case hl => have := HLl.out; have := HKl.out; rw [List.nil_append]; omega); intro v3 y3 ho hb hg hat; have H3 := Aside0.mk ho; have HB3 := Aside0.mk hb; clear ho hb hg hat)
        | fail)
      rw [List.nil_append] at H3
      obtain ⟨B3, d3, rfl⟩ := Kd.R_slice H3.out
      rw [HMl.out] at H3 ⊢
      have hm := (Kd.R_reads' (Kd.R_below H7.out HB3.out)).2
      have hm3 := (Kd.R_reads' H3.out).2
      have HSame : Aside0 (Calls Try.prog 16 #[.slice A4 ml c4, .slice B3 ml d3] y3 fun e w' => e = .returned (.bool true) ∧ Below y3.heap.size y3 w') := ⟨by
        have := same_at A4 c4 B3 d3 (l ++ K) y3 hm.2 (by rw [HMl.out]; exact hm.1) hm3.2 (by rw [HMl.out]; exact hm3.1) (by rw [List.length_append]; have := HLl.out; have := HKl.out; omega)
        rw [HMl.out] at this
        exact this⟩
      clear hm hm3 H1 H2 HB1 HB2
      refine HSame.out.mono ?_
      rintro e w9 ⟨rfl, hb⟩
      have HB9 : Aside0 (Below w.heap.size w w9) := ⟨below_step HB6.out (below_step HB3.out hb)⟩
      clear hb HSame
      go_wp2
      go_ret
      exact ⟨rfl, HB9.out⟩
theorem pannierlaw02_FrameJoins.walked (w : World) (A0 : Option Addr) (c0 : Nat) (l : List ByteArray) (hr : Kd.C Kd.string w A0 l.length l) (hc : l.length ≤ c0) (hs : ∀ s ∈ l, s.size ≤ maxLen) (hl : sizesS l ≤ 1048576) (A1 : Option Addr) (c1 : Nat) (r : List Int) (hr1 : Kd.C (Kd.int .u8) w A1 r.length r) (hc1 : r.length ≤ c1) (hb : Bts r) (hl1 : r.length ≤ 1048576) :
    Calls Try.prog 7 #[.slice A0 l.length c0, .slice A1 r.length c1] w fun e w' => e = .returned (.bool true) ∧ Below w.heap.size w w' := FrameJoins.at A0 c0 l A1 c1 r w hr hc hl hr1 hc1 hb hl1
end Go.Proofs.Ytlmpdlmamopbeaa.P
