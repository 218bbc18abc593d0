/- head and Put, in plain words: the frame of a payload behind bytes. -/
import Derived.Test.YtlmpdlmamopbeaaFc
namespace Go.Proofs.Ytlmpdlmamopbeaa.P
open Go.RowKit Go.Proofs.YtlmpdlmamopbeaaW.PrintWords Go.Proofs.YtlmpdlmamopbeaaW.PrintLast Go.Proofs.YtlmpdlmamopbeaaW.PrintMore
set_option linter.unusedVariables false
set_option linter.unusedSimpArgs false
abbrev RB (W : World) (base : Nat) (v : Value) (xs : List Int) : Prop := (Kd.int .u8).R 5 W base (fun _ => True) v xs
section
variable {ops : Array Oper} {rest : List Oper} {o : Oper} {a : Act} {Q : Exit → Act → World → Prop}
/-- make([]byte, 0, n). -/
theorem make0 {w0 W : World} (base : Nat) (hgd : o.guard = none) {x y : Operand} (ho : o.op = .makeSlice 22 x y) (n : Int) (hx : a.eval x = .int .i64 0) (hy : a.eval y = .int .i64 n) (h0 : 0 ≤ n) (hl : n ≤ 281474976710656) (HB : Below base w0 W) (hbase : base ≤ W.heap.size)
    (h : ∀ v1 w1, RB w1 base v1 [] → Below base w0 w1 → wpList Try.prog ops Q rest (a.put o.dst v1) w1) : wpList Try.prog ops Q (o :: rest) a W := by
  obtain ⟨i0, hi, hzz⟩ := Option.map_eq_some_iff.1 info5
  simp only [Prod.mk.injEq] at hzz
  obtain ⟨hz0, hz1, hz2⟩ := hzz
  obtain ⟨m, rfl⟩ := Int.eq_ofNat_of_zero_le h0
  have hr := run_make (P := Try.prog) W 22 5 i0 (.int .u8 0) Try.underlying22 hi hz0 .i64 .i64 0 (m : Int) (by omega) (by omega) (by rw [hz2]; omega) (by omega)
  have hrun : (execOp a.eval o).run Try.prog W = .ok (.value (.slice (some ⟨W.heap.size, 0, none⟩) 0 m)) (W.alloc (.cells (madeCells (Value.int .u8 0).cells (m * i0.size)) 5)) := by
    simp only [execOp, ho, hx, hy, Sem.run_bind, hr, Result.andThen_ok]
    rfl
  have hown : (W.alloc (.cells (madeCells (Value.int .u8 0).cells (m * i0.size)) 5)).ownsRow base 5 1 (.slice (some ⟨W.heap.size, 0, none⟩) 0 m) 0 [] :=
    ⟨rfl, .inr ⟨W.heap.size, m, _, rfl, hbase, heap_alloc_new W _, Nat.zero_le _, by simp only [maxLen]; omega, by rw [size_madeCells, hz1], rfl⟩⟩
  refine Kd.event_run hgd hrun (h _ _ (Kd.R_of_own (xs := ([] : List Int)) hown (fun _ _ => trivial)) (HB.alloc hbase _))
/-- append(b, s...), s a string. -/
theorem appS {w0 W : World} (base : Nat) (hgd : o.guard = none) (s x : Operand) (ho : o.op = .call { callee := .builtin .append, args := #[s, x], argTypes := #[22, 9] })
    (v : Value) (xs : List Int) (y : ByteArray) (hs : a.eval s = v) (hx : a.eval x = .string y) (HO : RB W base v xs) (HB : Below base w0 W) (hbase : base ≤ W.heap.size) (hl : xs.length + y.size ≤ 140737488355328)
    (h : ∀ v1 w1, RB w1 base v1 (xs ++ bytesOf y) → Below base w0 w1 → wpList Try.prog ops Q rest (a.put o.dst v1) w1) : wpList Try.prog ops Q (o :: rest) a W :=
  print_append_str base hgd s x 22 9 5 ho Try.underlying22 Try.underlying9 info5 v xs y hs hx (Kd.own_of_R HO) HB hbase hl (fun v1 w1 ho hb hg => h v1 w1 (Kd.R_of_own ho (fun _ _ => trivial)) hb)
/-- append(b, c...). -/
theorem appR {w0 W : World} (base : Nat) (hgd : o.guard = none) (s x : Operand) (ho : o.op = .call { callee := .builtin .append, args := #[s, x], argTypes := #[22, 22] })
    (v : Value) (xs ys : List Int) (A : Option Addr) (c : Nat) (hs : a.eval s = v) (hx : a.eval x = .slice A ys.length c) (HO : RB W base v xs) (HR : (Kd.int .u8).C W A ys.length ys) (HB : Below base w0 W) (hbase : base ≤ W.heap.size) (hl : xs.length + ys.length ≤ 140737488355328)
    (h : ∀ v1 w1, RB w1 base v1 (xs ++ ys) → Below base w0 w1 → wpList Try.prog ops Q rest (a.put o.dst v1) w1) : wpList Try.prog ops Q (o :: rest) a W :=
  Kd.R_append_rows (Kd.int .u8) (w0 := w0) base hgd s x 22 5 (.int .u8 0) 1 ho Try.underlying22 info5 rfl (by decide) (by decide) v xs ys A ys.length c (fun _ => True) (fun _ => False) hs hx HO HR (fun _ _ h => h) (fun _ h => h.elim) (fun _ _ => trivial) HB hbase (by omega) (fun v1 w1 ho hb hg hat => h v1 w1 ho hb)
end
/-- A payload's head. -/
def headL (p : List Int) : List Int := wordL p.length ++ wordL (crc (wordL p.length ++ p))
theorem bytesOf_bts (s : ByteArray) : Bts (bytesOf s) := fun x hx => by
  unfold bytesOf at hx
  rw [List.mem_map] at hx
  obtain ⟨b, _, rfl⟩ := hx
  have := b.toNat_lt
  omega
theorem Bts.append {a b : List Int} (ha : Bts a) (hb : Bts b) : Bts (a ++ b) := fun x hx => (List.mem_append.1 hx).elim (ha x) (hb x)
theorem headL_length (p : List Int) : (headL p).length = 8 := rfl
theorem headL_bts (p : List Int) : Bts (headL p) := (wordL_bts _).append (wordL_bts _)
theorem word_at (x : Nat) (hx : x < 2 ^ 32) (W : World) : Calls Try.prog 25 #[.int .u32 (x : Int)] W fun e w' => ∃ v0_ : Value, e = .returned v0_ ∧ RB w' W.heap.size v0_ (wordL x) ∧ Below W.heap.size W w' := frame_word.calls _ _ W (word_f hx)
theorem four_at (x : Nat) (hx : x < 2 ^ 32) (W : World) : Calls Try.prog 19 #[.int .u32 (x : Int)] W fun e w' => ∃ v0_ : Value, e = .returned v0_ ∧ RB w' W.heap.size v0_ (wordL x) ∧ Below W.heap.size W w' := pannierref02_four.calls _ _ W (four_f hx)
theorem refSum_at (A0 : Option Addr) (c0 : Nat) (b : List Int) (w : World) (hr : Kd.C (Kd.int .u8) w A0 b.length b) (hc : b.length ≤ c0) (hb : Bts b) (hl : b.length < 4611686018427387904) :
    Calls Try.prog 13 #[.slice A0 b.length c0] w fun e w' => e = .returned (.int .u32 ((crc b : Nat) : Int)) ∧ Below w.heap.size w w' := by
  obtain ⟨K, hK⟩ := refsum_f b hb hl
  exact (pannierref02_Sum.calls K A0 c0 b _ w hr hc hK).mono fun e w' h => ⟨h.1, Drawn0.below h.2⟩
theorem RB.down {W : World} {b b' : Nat} {v : Value} {xs : List Int} (h : RB W b v xs) (hb : b' ≤ b) : RB W b' v xs := Kd.R_lower h hb
theorem RB.below {W W' : World} {b : Nat} {v : Value} {xs : List Int} (h : RB W b v xs) (hb : Below W.heap.size W W') : RB W' b v xs := Kd.R_below h hb
theorem RB.far {W W' : World} {b : Nat} {v : Value} {xs : List Int} (h : RB W b v xs) (hb : Below W.heap.size W W') : RB W' b v xs := Kd.R_below h hb
set_option maxHeartbeats 2000000 in
set_option maxRecDepth 100000 in
theorem head.at (p : ByteArray) (hp : p.size ≤ 2097152) (w : World) : Calls Try.prog 18 #[.string p] w fun e w' => ∃ v0_ : Value, e = .returned v0_ ∧ RB w' w.heap.size v0_ (headL (bytesOf p)) ∧ Below w.heap.size w w' := by
  have HP := Aside0.mk hp
  clear hp
  have HLn : Aside0 (headL (bytesOf p) = wordL p.size ++ wordL (crc (wordL p.size ++ bytesOf p))) := ⟨by unfold headL; rw [bytesOf_length]⟩
  have HLen : Aside0 ((wordL p.size ++ bytesOf p).length = 4 + p.size ∧ Bts (wordL p.size ++ bytesOf p)) := ⟨by rw [List.length_append, bytesOf_length]; rfl, (wordL_bts _).append (bytesOf_bts p)⟩
  have HCr : Aside0 (crc (wordL p.size ++ bytesOf p) < 2 ^ 32) := ⟨crc_lt HLen.out.2⟩
  have hm : ((p.size : Nat) : Int) % 4294967296 = (p.size : Nat) := by have := HP.out; omega
  go_enter Try.func18, Try.ntmps18
  go_wp2_with fail
  refine (word_at p.size (by have := HP.out; omega) _).mono ?_
  rintro e w1 ⟨vn, rfl, hn, hb⟩
  obtain ⟨An, cn, rfl⟩ := Kd.R_slice hn
  have HN := Aside0.mk hn
  have HB1 := Aside0.mk hb
  clear hn hb
  go_wp2_with fail
  refine (Clone.at An cn (wordL p.size) w1 (Kd.R_reads' HN.out).2.2 (by rw [wordL_length]; decide)).mono ?_
  rintro e w2 ⟨vc, rfl, hcl, hb⟩
  have HCl : Aside0 (RB w2 w1.heap.size vc (wordL p.size)) := ⟨hcl⟩
  have HB2 := Aside0.mk hb
  clear hcl hb
  go_wp2_with (first
    | ((with_reducible refine gate_builtin (b := .append) (xs := #[.tmp 10, .tmp 11]) rfl ?_); at_builtin; refine appS (w0 := w1) (w1).heap.size rfl (.tmp 10) (.tmp 11) rfl vc (wordL p.size) p rfl rfl HCl.out HB2.out HB2.out.size ?hl ?_; (case hl => have := HP.out; rw [wordL_length]; omega); intro v3 w3 ho hb; have H3 := Aside0.mk ho; have HB3 := Aside0.mk hb; clear ho hb)
    | fail)
  obtain ⟨A3, c3, rfl⟩ := Kd.R_slice H3.out
  rw [show (wordL p.size ++ bytesOf p).length = 4 + p.size from HLen.out.1] at H3 ⊢
  have HSm : Aside0 (Calls Try.prog 12 #[.slice A3 (4 + p.size) c3] w3 fun e w' => e = .returned (.int .u32 ((crc (wordL p.size ++ bytesOf p) : Nat) : Int)) ∧ Below w3.heap.size w3 w') := ⟨by
    have := Sum.at A3 c3 (wordL p.size ++ bytesOf p) w3 (Kd.R_reads' H3.out).2.2 HLen.out.2 (by rw [HLen.out.1]; have := HP.out; omega)
    rw [HLen.out.1] at this
    exact this⟩
  go_wp2_with fail
  refine HSm.out.mono ?_
  rintro e w4 ⟨rfl, hb⟩
  have HB4 : Aside0 (Below w1.heap.size w1 w4) := ⟨below_step HB3.out hb⟩
  clear hb HSm
  go_wp2_with fail
  refine (word_at _ HCr.out _).mono ?_
  rintro e w5 ⟨vx, rfl, hx, hb⟩
  obtain ⟨Ax, cx, rfl⟩ := Kd.R_slice hx
  have HX := Aside0.mk hx
  have HB5 : Aside0 (Below w1.heap.size w1 w5) := ⟨below_step HB4.out hb⟩
  clear hb hx
  have HN5 : Aside0 (RB w5 w.heap.size (.slice An (wordL p.size).length cn) (wordL p.size)) := ⟨RB.below HN.out HB5.out⟩
  have HBw : Aside0 (Below w.heap.size w w5) := ⟨below_step HB1.out HB5.out⟩
  clear HN HCl HB2 H3 HB3 HB4
  go_wp2_with (first
    | ((with_reducible refine gate_builtin (b := .append) (xs := #[.tmp 8, .tmp 14]) rfl ?_); at_builtin; refine appR (w0 := w) (w).heap.size rfl (.tmp 8) (.tmp 14) rfl (.slice An (wordL p.size).length cn) (wordL p.size) (wordL (crc (wordL p.size ++ bytesOf p))) _ _ rfl rfl HN5.out (Kd.R_reads' HX.out).2.2 HBw.out HBw.out.size ?hl ?_; (case hl => rw [wordL_length, wordL_length]; omega); intro v6 w6 ho hb; have H6 := Aside0.mk ho; have HB6 := Aside0.mk hb; clear ho hb)
    | fail)
  go_ret
  exact ⟨v6, rfl, by rw [HLn.out]; exact H6.out, HB6.out⟩
/-- What Put answers. -/
def PutL (b : List Int) (p : ByteArray) : List Int := b ++ (headL (bytesOf p) ++ bytesOf p)
set_option maxHeartbeats 2000000 in
set_option maxRecDepth 100000 in
theorem Put.long (A0 : Option Addr) (c0 n : Nat) (p : ByteArray) (hp : 65536 < p.size) (w : World) : Calls Try.prog 9 #[.slice A0 n c0, .string p] w fun e w' => e = .returned (.tuple #[.slice none 0 0, .int .i64 20]) ∧ Below w.heap.size w w' := by
  have k1 : decide ((65536 : Int) < (p.size : Int)) = true := decide_eq_true (by omega)
  have HB := Aside0.mk (Below.refl w.heap.size w)
  clear hp
  go_enter Try.func9, Try.ntmps9
  go_wp2
  go_ret2
  exact ⟨rfl, HB.out⟩
set_option maxHeartbeats 2000000 in
set_option maxRecDepth 100000 in
theorem Put.at (A0 : Option Addr) (c0 : Nat) (b : List Int) (p : ByteArray) (hp : p.size ≤ 65536) (w : World) (hr : Kd.C (Kd.int .u8) w A0 b.length b) (hl : b.length ≤ 70368744177664) :
    Calls Try.prog 9 #[.slice A0 b.length c0, .string p] w fun e w' => ∃ v0_ : Value, e = .returned (.tuple #[v0_, .int .i64 0]) ∧ RB w' w.heap.size v0_ (PutL b p) ∧ Below w.heap.size w w' := by
  have k1 : decide ((65536 : Int) < (p.size : Int)) = false := decide_eq_false (by omega)
  have HP := Aside0.mk hp
  have HR := Aside0.mk hr
  have HL := Aside0.mk hl
  have HB := Aside0.mk (Below.refl w.heap.size w)
  clear hp hr hl
  have e1 : IntKind.i64.wrap ((b.length : Int) + 8) = (b.length : Int) + 8 := by rw [i64_w]; unfold wrap64; have := HL.out; omega
  have e2 : IntKind.i64.wrap ((b.length : Int) + 8 + (p.size : Int)) = (b.length : Int) + 8 + (p.size : Int) := by rw [i64_w]; unfold wrap64; have := HL.out; have := HP.out; omega
  go_enter Try.func9, Try.ntmps9
  go_wp2_with (first
    | ((with_reducible refine gate_dst (N := 16) rfl ?_); refine make0 (w0 := w) w.heap.size rfl (x := .const (.int .i64 0)) (y := .tmp 15) rfl ((b.length : Int) + 8 + (p.size : Int)) rfl rfl (by omega) (by have := HL.out; have := HP.out; omega) HB.out HB.out.size ?_; intro v1 w1 ho hb; have H1 := Aside0.mk ho; have HB1 := Aside0.mk hb; clear ho hb HB)
    | ((with_reducible refine gate_builtin (b := .append) (xs := #[.tmp 17, .tmp 18]) rfl ?_); at_builtin; refine appR (w0 := w) (w).heap.size rfl (.tmp 17) (.tmp 18) rfl v1 [] b _ _ rfl rfl H1.out (Kd.C_below HR.out HB1.out) HB1.out HB1.out.size ?hl ?_; (case hl => have := HL.out; simp only [List.length_nil]; omega); intro v2 w2 ho hb; have H2 := Aside0.mk ho; have HB2 := Aside0.mk hb; clear ho hb)
    | fail)
  rw [List.nil_append] at H2
  refine (head.at p (by have := HP.out; omega) _).mono ?_
  rintro e w3 ⟨vh, rfl, hh, hb⟩
  obtain ⟨Ah, ch, rfl⟩ := Kd.R_slice hh
  have HH := Aside0.mk hh
  have HB3 : Aside0 (Below w.heap.size w w3) := ⟨below_step HB2.out hb⟩
  have H3 : Aside0 (RB w3 w.heap.size v2 b) := ⟨RB.below H2.out hb⟩
  clear hh hb H2 HB2
  go_wp2_with (first
    | ((with_reducible refine gate_builtin (b := .append) (xs := #[.tmp 19, .tmp 21]) rfl ?_); at_builtin; refine appR (w0 := w) (w).heap.size rfl (.tmp 19) (.tmp 21) rfl v2 b (headL (bytesOf p)) _ _ rfl rfl H3.out (Kd.R_reads' HH.out).2.2 HB3.out HB3.out.size ?hl ?_; (case hl => have := HL.out; rw [headL_length]; omega); intro v4 w4 ho hb; have H4 := Aside0.mk ho; have HB4 := Aside0.mk hb; clear ho hb)
    | ((with_reducible refine gate_builtin (b := .append) (xs := #[.tmp 22, .tmp 23]) rfl ?_); at_builtin; refine appS (w0 := w) (w).heap.size rfl (.tmp 22) (.tmp 23) rfl v4 (b ++ headL (bytesOf p)) p rfl rfl H4.out HB4.out HB4.out.size ?hl ?_; (case hl => have := HL.out; have := HP.out; rw [List.length_append, headL_length]; omega); intro v5 w5 ho hb; have H5 := Aside0.mk ho; have HB5 := Aside0.mk hb; clear ho hb)
    | fail)
  go_ret2
  exact ⟨v5, rfl, by unfold PutL; rw [← List.append_assoc]; exact H5.out, HB5.out⟩
set_option maxHeartbeats 2000000 in
set_option maxRecDepth 100000 in
theorem refPut.long (A0 : Option Addr) (c0 n : Nat) (p : ByteArray) (hp : 65536 < p.size) (w : World) : Calls Try.prog 10 #[.slice A0 n c0, .string p] w fun e w' => e = .returned (.tuple #[.slice none 0 0, .int .i64 20]) ∧ Below w.heap.size w w' := by
  have k1 : decide ((65536 : Int) < (p.size : Int)) = true := decide_eq_true (by omega)
  have HB := Aside0.mk (Below.refl w.heap.size w)
  clear hp
  go_enter Try.func10, Try.ntmps10
  go_wp2
  go_ret2
  exact ⟨rfl, HB.out⟩
set_option maxHeartbeats 4000000 in
set_option maxRecDepth 100000 in
theorem refPut.at (A0 : Option Addr) (c0 : Nat) (b : List Int) (p : ByteArray) (hp : p.size ≤ 65536) (w : World) (hr : Kd.C (Kd.int .u8) w A0 b.length b) (hl : b.length ≤ 70368744177664) :
    Calls Try.prog 10 #[.slice A0 b.length c0, .string p] w fun e w' => ∃ v0_ : Value, e = .returned (.tuple #[v0_, .int .i64 0]) ∧ RB w' w.heap.size v0_ (PutL b p) ∧ Below w.heap.size w w' := by
  have k1 : decide ((65536 : Int) < (p.size : Int)) = false := decide_eq_false (by omega)
  have HP := Aside0.mk hp
  have HR := Aside0.mk hr
  have HL := Aside0.mk hl
  have HLen : Aside0 ((wordL p.size ++ bytesOf p).length = 4 + p.size ∧ Bts (wordL p.size ++ bytesOf p)) := ⟨by rw [List.length_append, bytesOf_length]; rfl, (wordL_bts _).append (bytesOf_bts p)⟩
  have HCr : Aside0 (crc (wordL p.size ++ bytesOf p) < 2 ^ 32) := ⟨crc_lt HLen.out.2⟩
  have hm : ((p.size : Nat) : Int) % 4294967296 = (p.size : Nat) := by have := HP.out; omega
  clear hp hr hl
  go_enter Try.func10, Try.ntmps10
  go_wp2_with fail
  refine (four_at p.size (by have := HP.out; omega) _).mono ?_
  rintro e w1 ⟨vn, rfl, hn, hb⟩
  obtain ⟨An, cn, rfl⟩ := Kd.R_slice hn
  have HN := Aside0.mk hn
  have HB1 := Aside0.mk hb
  have HR1 : Aside0 (Kd.C (Kd.int .u8) w1 A0 b.length b) := ⟨Kd.C_below HR.out hb⟩
  clear hn hb
  go_wp2_with (first
    | ((with_reducible refine gate_dst (N := 15) rfl ?_); refine Kd.R_lit (Kd.int .u8) (w0 := w1) (w1).heap.size 5 ?hg (N := 15) ?hd (xs := ([] : List Int)) (inner := []) (ok := fun _ => True) (okp := fun _ => True) ?hr ?hp (fun _ hk => hk) trivial (Below.refl w1.heap.size w1) ((Below.refl w1.heap.size w1)).size (by simp) ?_; (case hd => rfl); (case hg => rfl); (case hr => first | (go_simp; done) | (go_simp; rfl)); (case hp => exact (Reps.none _ _)); intro v2 w2 ho hb hg_ hnew_; clear hg_ hnew_; have H2 : Aside0 (RB w2 (w1).heap.size v2 []) := ⟨ho⟩; have HB2 := Aside0.mk hb; clear hb ho)
    | ((with_reducible refine gate_builtin (b := .append) (xs := #[.tmp 15, .tmp 16]) rfl ?_); at_builtin; refine appR (w0 := w1) (w1).heap.size rfl (.tmp 15) (.tmp 16) rfl v2 [] b _ _ rfl rfl H2.out (Kd.C_below HR1.out HB2.out) HB2.out HB2.out.size ?hl ?_; (case hl => have := HL.out; simp only [List.length_nil]; omega); intro v3 w3 ho hb; have H3 := Aside0.mk ho; have HB3 := Aside0.mk hb; clear ho hb)
    | ((with_reducible refine gate_builtin (b := .append) (xs := #[.tmp 17, .tmp 18]) rfl ?_); at_builtin; refine appR (w0 := w1) (w1).heap.size rfl (.tmp 17) (.tmp 18) rfl v3 ([] ++ b) (wordL p.size) _ _ rfl rfl H3.out (Kd.C_below (Kd.R_reads' HN.out).2.2 HB3.out) HB3.out HB3.out.size ?hl ?_; (case hl => have := HL.out; rw [List.nil_append, wordL_length]; omega); intro v4 w4 ho hb; have H4 := Aside0.mk ho; have HB4 := Aside0.mk hb; clear ho hb)
    | ((with_reducible refine gate_dst (N := 21) rfl ?_); refine Kd.R_lit (Kd.int .u8) (w0 := w4) (w4).heap.size 5 ?hg (N := 21) ?hd (xs := ([] : List Int)) (inner := []) (ok := fun _ => True) (okp := fun _ => True) ?hr ?hp (fun _ hk => hk) trivial (Below.refl w4.heap.size w4) ((Below.refl w4.heap.size w4)).size (by simp) ?_; (case hd => rfl); (case hg => rfl); (case hr => first | (go_simp; done) | (go_simp; rfl)); (case hp => exact (Reps.none _ _)); intro v5 w5 ho hb hg_ hnew_; clear hg_ hnew_; have H5 : Aside0 (RB w5 (w4).heap.size v5 []) := ⟨ho⟩; have HB5 := Aside0.mk hb; clear hb ho)
    | ((with_reducible refine gate_builtin (b := .append) (xs := #[.tmp 21, .tmp 22]) rfl ?_); at_builtin; refine appR (w0 := w4) (w4).heap.size rfl (.tmp 21) (.tmp 22) rfl v5 [] (wordL p.size) _ _ rfl rfl H5.out (Kd.C_below (Kd.R_reads' HN.out).2.2 (below_step HB4.out HB5.out)) HB5.out HB5.out.size ?hl ?_; (case hl => rw [wordL_length]; simp); intro v6 w6 ho hb; have H6 := Aside0.mk ho; have HB6 := Aside0.mk hb; clear ho hb)
    | ((with_reducible refine gate_builtin (b := .append) (xs := #[.tmp 23, .tmp 24]) rfl ?_); at_builtin; refine appS (w0 := w4) (w4).heap.size rfl (.tmp 23) (.tmp 24) rfl v6 ([] ++ wordL p.size) p rfl rfl H6.out HB6.out HB6.out.size ?hl ?_; (case hl => have := HP.out; rw [List.nil_append, wordL_length]; omega); intro v7 w7 ho hb; have H7 := Aside0.mk ho; have HB7 := Aside0.mk hb; clear ho hb)
    | fail)
  rw [List.nil_append] at H7 H4
  obtain ⟨A7, c7, rfl⟩ := Kd.R_slice H7.out
  rw [show (wordL p.size ++ bytesOf p).length = 4 + p.size from HLen.out.1] at H7 ⊢
  have HSm : Aside0 (Calls Try.prog 13 #[.slice A7 (4 + p.size) c7] w7 fun e w' => e = .returned (.int .u32 ((crc (wordL p.size ++ bytesOf p) : Nat) : Int)) ∧ Below w7.heap.size w7 w') := ⟨by
    have hq := Kd.R_reads' H7.out
    have := refSum_at A7 c7 (wordL p.size ++ bytesOf p) w7 hq.2.2 (by have := hq.2.1; rw [HLen.out.1]; exact this) HLen.out.2 (by rw [HLen.out.1]; have := HP.out; omega)
    rw [HLen.out.1] at this
    exact this⟩
  go_wp2_with fail
  refine HSm.out.mono ?_
  rintro e w8 ⟨rfl, hb⟩
  have HB8 : Aside0 (Below w4.heap.size w4 w8) := ⟨below_step HB7.out hb⟩
  clear hb HSm
  go_wp2_with fail
  refine (four_at _ HCr.out _).mono ?_
  rintro e w9 ⟨vx, rfl, hx, hb⟩
  obtain ⟨Ax, cx, rfl⟩ := Kd.R_slice hx
  have HX := Aside0.mk hx
  have HB9 : Aside0 (Below w4.heap.size w4 w9) := ⟨below_step HB8.out hb⟩
  clear hb hx
  have HBw : Aside0 (Below w.heap.size w w9) := ⟨below_step HB1.out (below_step HB4.out HB9.out)⟩
  have H9 : Aside0 (RB w9 w.heap.size v4 (b ++ wordL p.size)) := ⟨(RB.below H4.out HB9.out).down HB1.out.size⟩
  clear HN H2 HB2 H3 HB3 H4 HB4 H5 HB5 H6 HB6 H7 HB7 HB8
  go_wp2_with (first
    | ((with_reducible refine gate_builtin (b := .append) (xs := #[.tmp 20, .tmp 27]) rfl ?_); at_builtin; refine appR (w0 := w) (w).heap.size rfl (.tmp 20) (.tmp 27) rfl v4 (b ++ wordL p.size) (wordL (crc (wordL p.size ++ bytesOf p))) _ _ rfl rfl H9.out (Kd.R_reads' HX.out).2.2 HBw.out HBw.out.size ?hl ?_; (case hl => have := HL.out; rw [List.length_append, wordL_length, wordL_length]; omega); intro v10 w10 ho hb; have H10 := Aside0.mk ho; have HB10 := Aside0.mk hb; clear ho hb)
    | ((with_reducible refine gate_builtin (b := .append) (xs := #[.tmp 29, .tmp 30]) rfl ?_); at_builtin; refine appS (w0 := w) (w).heap.size rfl (.tmp 29) (.tmp 30) rfl v10 (b ++ wordL p.size ++ wordL (crc (wordL p.size ++ bytesOf p))) p rfl rfl H10.out HB10.out HB10.out.size ?hl ?_; (case hl => have := HL.out; have := HP.out; rw [List.length_append, List.length_append, wordL_length, wordL_length]; omega); intro v11 w11 ho hb; have H11 := Aside0.mk ho; have HB11 := Aside0.mk hb; clear ho hb)
    | fail)
  go_ret2
  refine ⟨v11, rfl, ?_, HB11.out⟩
  have h := H11.out
  rw [show PutL b p = b ++ wordL p.size ++ wordL (crc (wordL p.size ++ bytesOf p)) ++ bytesOf p from by unfold PutL headL; rw [bytesOf_length]; simp only [List.append_assoc]]
  exact h
end Go.Proofs.Ytlmpdlmamopbeaa.P
