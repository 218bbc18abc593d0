/- WholeLate: the cases joined. -/
import Derived.Test.YtnnalcfdeldocaaGreatDoorL30
import Derived.Test.YtnnalcfdeldocaaGreatDoorL32
import Derived.Test.YtnnalcfdeldocaaGreatDoorL34
import Derived.Test.YtnnalcfdeldocaaGreatDoorL36
namespace Go.Proofs.YtnnalcfdeldocaaGreatDoor.X
open Go
theorem o1_walk : isS ((evF Tryz.prog lateH 100000).call 3 [.sym .i64 14 0, .sym .i64 17 1] st2 saysTrue) = true := by kernel_rfl
theorem o2_walk : isS ((evF Tryz.prog lateH 100000).call 3 [.sym .i64 15 0, .sym .i64 17 1] st2 saysTrue) = true := by kernel_rfl
theorem o3_walk : isS ((evF Tryz.prog lateH 100000).call 3 [.sym .i64 16 0, .sym .i64 14 1] st2 saysTrue) = true := by kernel_rfl
theorem o4_walk : isS ((evF Tryz.prog lateH 100000).call 3 [.sym .i64 16 0, .sym .i64 15 1] st2 saysTrue) = true := by kernel_rfl
theorem two_syms {c d q l : Nat} {x y : Int} (hx : symVal c q = some x) (hy : symVal d l = some y) : concs (nu2 q l) [.sym .i64 c 0, .sym .i64 d 1] = some [.int .i64 x, .int .i64 y] :=
  concs_cons.2 ⟨_, _, sym_mk (inf := ⟨0, 0, q⟩) rfl hx, concs_cons.2 ⟨_, _, sym_mk (inf := ⟨0, 0, l⟩) rfl hy, concs_nil, rfl⟩, rfl⟩
theorem val_any {y : Int} (h0 : -9223372036854775808 ≤ y) (h1 : y ≤ 9223372036854775807) : symVal 17 (y + 9223372036854775808).toNat = some y := by
  simp only [symVal]
  rw [if_pos (by omega)]
  exact congrArg some (by show (((y + 9223372036854775808).toNat : Nat) : Int) - 9223372036854775808 = y; omega)
theorem val_low {y : Int} (h0 : -9223372036854775808 ≤ y) (h1 : y ≤ 0) : symVal 14 (-y).toNat = some y := by
  simp only [symVal]
  rw [if_pos (by omega)]
  exact congrArg some (by show -(((-y).toNat : Nat) : Int) = y; omega)
theorem val_high {y : Int} (h0 : 1001 ≤ y) (h1 : y ≤ 9223372036854775807) : symVal 15 y.toNat = some y := by
  simp only [symVal]
  rw [if_pos (by omega)]
  exact congrArg some (by show ((y.toNat : Nat) : Int) = y; omega)
theorem val_mid {y : Int} (h0 : 1 ≤ y) (h1 : y ≤ 1000) : symVal 16 y.toNat = some y := by
  simp only [symVal]
  rw [if_pos (by omega)]
  exact congrArg some (by show ((y.toNat : Nat) : Int) = y; omega)
theorem val_one {y : Int} (h0 : 1 ≤ y) (h1 : y ≤ 127) : symVal 1 y.toNat = some y := by
  simp only [symVal]
  rw [if_pos (by omega)]
  exact congrArg some (by show ((y.toNat : Nat) : Int) = y; omega)
theorem val_two {y : Int} (h0 : 128 ≤ y) (h1 : y ≤ 1000) : symVal 2 y.toNat = some y := by
  simp only [symVal]
  rw [if_pos (by omega)]
  exact congrArg some (by show ((y.toNat : Nat) : Int) = y; omega)
/-- THE WALK: WholeLate answers true at every input. -/
theorem late_calls (x y : Int) (W : World) (hW : 0 < W.heap.size) (hx : -9223372036854775808 ≤ x ∧ x ≤ 9223372036854775807) (hy : -9223372036854775808 ≤ y ∧ y ≤ 9223372036854775807) :
    Calls Tryz.prog 3 #[.int .i64 x, .int .i64 y] W fun e w' => e = .returned (.bool true) ∧ Go.RowKit.Below W.heap.size W w' := by
  by_cases h1 : x ≤ 0
  · exact calls_sym mixed lateH_ok o1_walk W hW (two_syms (val_low hx.1 h1) (val_any hy.1 hy.2))
  by_cases h2 : 1001 ≤ x
  · exact calls_sym mixed lateH_ok o2_walk W hW (two_syms (val_high h2 hx.2) (val_any hy.1 hy.2))
  by_cases h3 : y ≤ 0
  · exact calls_sym mixed lateH_ok o3_walk W hW (two_syms (val_mid (by omega) (by omega)) (val_low hy.1 h3))
  by_cases h4 : 1001 ≤ y
  · exact calls_sym mixed lateH_ok o4_walk W hW (two_syms (val_mid (by omega) (by omega)) (val_high h4 hy.2))
  by_cases h5 : x ≤ 127 <;> by_cases h6 : y ≤ 127
  · exact calls_sym mixed a_hook a_walk W hW (two_syms (val_one (by omega) h5) (val_one (by omega) h6))
  · exact calls_sym mixed b_hook b_walk W hW (two_syms (val_one (by omega) h5) (val_two (by omega) (by omega)))
  · exact calls_sym mixed c_hook c_walk W hW (two_syms (val_two (by omega) (by omega)) (val_one (by omega) h6))
  · exact calls_sym mixed d_hook d_walk W hW (two_syms (val_two (by omega) (by omega)) (val_two (by omega) (by omega)))
#print axioms late_calls
end Go.Proofs.YtnnalcfdeldocaaGreatDoor.X
