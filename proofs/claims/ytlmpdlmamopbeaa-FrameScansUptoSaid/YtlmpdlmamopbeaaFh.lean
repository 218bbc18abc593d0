/- lives: what must come of every program comes. -/
import Derived.Test.YtlmpdlmamopbeaaFg
import Derived.Lib.SlBytesConst
import Derived.Lib.SmallJoins
namespace Go.Proofs.Ytlmpdlmamopbeaa.P
open Go.RowKit Go.Proofs.YtlmpdlmamopbeaaW.PrintWords Go.Proofs.YtlmpdlmamopbeaaW.PrintLast Go.Proofs.YtlmpdlmamopbeaaW.PrintMore
set_option linter.unusedVariables false
set_option linter.unusedSimpArgs false
theorem litB (W : World) (xs : List Int) (h : xs.length ≤ maxLen) : RB (W.alloc (.cells (nums .u8 xs).toArray 5)) W.heap.size (.slice (some ⟨W.heap.size, 0, none⟩) xs.length xs.length) xs := by
  refine Kd.R_of_own ?_ (fun _ _ => trivial)
  have := World.ownsRow_lit (base := W.heap.size) (e := 5) (size := 1) W (nums .u8 xs).toArray xs.length (Nat.le_refl _) h (by simp [nums])
  simpa [nums, encs] using this
def L9 : List Int := [1, 0, 0, 0, 0, 72, 103, 75, 199]
def D9 : List Int := [49, 50, 51, 52, 53, 54, 55, 56, 57]
theorem put9 : PutL [1] (⟨#[]⟩ : ByteArray) = L9 := by decide +kernel
theorem bts9 : Bts L9 := by unfold Bts L9; decide
theorem btsD : Bts D9 := by unfold Bts D9; decide
theorem frames8 : (frames (L9.drop 1)).length = 1 ∧ endOf (frames (L9.drop 1)) = 8 := by decide +kernel
theorem crc9 : crc D9 = 3808858755 := by decide +kernel
theorem str9 : strOfNums L9 = (⟨#[1, 0, 0, 0, 0, 72, 103, 75, 199]⟩ : ByteArray) := by decide +kernel
theorem eqIn_fn (d : Nat) (w : World) (f : Fn) (a c : Array Value) : (Op.equalIn (d + 1) 35 (.func f a c) .nilFunc).run Try.prog w = .ok false w := by
  simp [Op.equalIn, run_underlying Try.underlying35]
theorem neq_fn (w : World) (f : Fn) (a c : Array Value) : (binOp .neq 35 (.func f a c) .nilFunc).run Try.prog w = .ok (.bool true) w := by
  simp only [binOp]
  simp [Op.equal, Op.maxDepth, eqIn_fn 9999 w f a c]
theorem eql_fn (w : World) (f : Fn) (a c : Array Value) : (binOp .eql 35 (.func f a c) .nilFunc).run Try.prog w = .ok (.bool false) w := by
  simp only [binOp]
  simp [Op.equal, Op.maxDepth, eqIn_fn 9999 w f a c]
theorem markC (W : World) : Kd.C (Kd.int .u8) (W.alloc (.cells (nums .u8 D9).toArray 5 (9, 10))) (some ⟨W.heap.size, 0, none⟩) D9.length D9 := by
  refine Kd.C_of_reads (enc := Value.int .u8) (d := (0 : Int)) (h1 := fun _ => rfl) ⟨rfl, by decide, fun _ => ⟨_, rfl, fun j hj => ?_⟩⟩
  have h := Joins.cell_alloc_mark_at W (nums .u8 D9).toArray 5 (9, 10) W.heap.size j rfl
  have e : ((⟨W.heap.size, 0, none⟩ : Addr).add j) = ⟨W.heap.size, j, none⟩ := by rw [add_plain]
  rw [e, h]
  have hj9 : j < 9 := hj
  match j, hj9 with
  | 0, _ => rfl
  | 1, _ => rfl
  | 2, _ => rfl
  | 3, _ => rfl
  | 4, _ => rfl
  | 5, _ => rfl
  | 6, _ => rfl
  | 7, _ => rfl
  | 8, _ => rfl
set_option maxHeartbeats 4000000 in
set_option maxRecDepth 100000 in
theorem lives.at (w : World) : Calls Try.prog 11 #[] w fun e w' => e = .returned (.bool true) ∧ Below w.heap.size w w' := by
  have HB1 : Aside0 (Below w.heap.size w (w.alloc (.cells #[.int .u8 1] 5))) := ⟨below_alloc (Below.refl _ _) _⟩
  have HR1 : Aside0 (Kd.C (Kd.int .u8) (w.alloc (.cells #[.int .u8 1] 5)) (some ⟨w.heap.size, 0, none⟩) 1 [1]) := ⟨(Kd.R_reads' (litB w [1] (by decide))).2.2⟩
  go_enter Try.func11, Try.ntmps11
  go_wp2_with fail
  refine (Put.at (some ⟨w.heap.size, 0, none⟩) 1 [1] ⟨#[]⟩ (by decide) _ HR1.out (by decide)).mono ?_
  rintro e w2 ⟨v, rfl, ho, hb⟩
  rw [put9] at ho
  obtain ⟨A, c, rfl⟩ := Kd.R_slice ho
  have HO := Aside0.mk ho
  have HB2 := Aside0.mk (below_step HB1.out hb)
  have hc : L9.length ≤ c := (Kd.R_reads' ho).2.1
  clear ho hb HB1 HR1
  obtain ⟨i0, hi0, _, hsz, _⟩ := info_parts info5
  obtain ⟨A', hrun, hrd, hlen⟩ := print_drop_of (P := Try.prog) (Value.int .u8) 0 22 5 .i64 Try.underlying22 hi0 hsz A c L9 1 (by decide) (by decide) hc
  rw [show (1 : Int).toNat = 1 from rfl] at hrun hrd hlen
  have HSc : Aside0 (Calls Try.prog 14 #[.slice A' 8 (c - 1)] w2 fun e w' => ∃ (A3 : Option Addr) (c3 : Nat), e = .returned (.tuple #[.slice A3 1 c3, .int .i64 8]) ∧ Below w2.heap.size w2 w') := ⟨by
    have := Scan.at A' (c - 1) (L9.drop 1) w2 (Kd.C_of_reads (enc := Value.int .u8) (h1 := fun _ => rfl) (hrd _ (Kd.reads_of_C (Kd.R_reads' HO.out).2.2))) (bts9.drop 1) (by decide)
    rw [frames8.2] at this
    refine this.mono ?_
    rintro e w' ⟨v, rfl, hr, hb⟩
    obtain ⟨A3, c3, rfl⟩ := Kd.R_slice hr
    rw [show (paysOf (frames (L9.drop 1))).length = 1 from by unfold paysOf; rw [List.length_map]; exact frames8.1]
    exact ⟨A3, c3, rfl, hb⟩⟩
  rw [show (L9.drop 1).length = 8 from rfl] at hrun
  rw [show L9.length = 9 from rfl] at hrun HO ⊢
  clear hrd hlen hi0 hsz hc
  go_wp2_with fail
  refine HSc.out.mono ?_
  rintro e w3 ⟨A3, c3, rfl, hb⟩
  have HB3 := Aside0.mk (below_step HB2.out hb)
  have hcv := Kd.C_string (P := Try.prog) (A := A) (c := c) Try.underlying22 Try.underlying5 Try.underlying9 (Kd.C_below (Kd.R_reads' HO.out).2.2 hb)
  rw [str9, show L9.length = 9 from rfl] at hcv
  clear hb HSc hrun
  have hcb := Lib.run_convert_bytes_const (P := Try.prog) w3 22 5 (nums .u8 D9).toArray 9 9 Try.underlying22 Try.underlying5
  rw [show (nums .u8 D9).toArray.size = 9 from rfl] at hcb
  rw [show (nums .u8 D9).toArray = #[.int .u8 49, .int .u8 50, .int .u8 51, .int .u8 52, .int .u8 53, .int .u8 54, .int .u8 55, .int .u8 56, .int .u8 57] from rfl] at hcb
  go_wp2_with fail
  have HB4 : Aside0 (Below w.heap.size w (w3.alloc (.cells (nums .u8 D9).toArray 5 (9, 10)))) := ⟨below_alloc HB3.out _⟩
  refine (Sum.at (some ⟨w3.heap.size, 0, none⟩) 9 D9 (w3.alloc (.cells (nums .u8 D9).toArray 5 (9, 10))) (markC w3) btsD (by decide)).mono ?_
  rintro e w4 ⟨rfl, hb⟩
  rw [crc9]
  have HB5 := Aside0.mk (below_step HB4.out hb)
  clear hb HB4
  go_wp2_with fail
  refine (All.at none 0 [] w4 (Kd.C_nil _ _) (by decide)).mono ?_
  rintro e w5 ⟨bx, A5, c5, rfl, _, _, _, hb⟩
  have HB6 := Aside0.mk (below_step HB5.out hb)
  have hnf := neq_fn w5 (.func 23) #[] #[.pointer (some ⟨bx, 0, none⟩)]
  clear hb
  go_wp2
  go_ret
  exact ⟨rfl, HB6.out⟩
end Go.Proofs.Ytlmpdlmamopbeaa.P
