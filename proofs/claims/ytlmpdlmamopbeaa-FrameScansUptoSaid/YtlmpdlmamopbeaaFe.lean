/- first, in plain words: the payload of the frame with which bytes begin. -/
import Derived.Test.YtlmpdlmamopbeaaFd
namespace Go.Proofs.Ytlmpdlmamopbeaa.P
open Go.RowKit Go.Proofs.YtlmpdlmamopbeaaW.PrintWords Go.Proofs.YtlmpdlmamopbeaaW.PrintLast Go.Proofs.YtlmpdlmamopbeaaW.PrintMore
set_option linter.unusedVariables false
set_option linter.unusedSimpArgs false
theorem bytesOf_strOf {b : List Int} (hb : Bts b) : bytesOf (strOfNums b) = b := by
  unfold bytesOf
  rw [strOfNums_data, List.map_map]
  have : ∀ x ∈ b, ((fun c : UInt8 => ((c.toNat : Nat) : Int)) ∘ fun n : Int => UInt8.ofNat n.toNat) x = x := fun x hx => by
    have h := hb x hx
    show (((UInt8.ofNat x.toNat).toNat : Nat) : Int) = x
    rw [UInt8.toNat_ofNat']
    omega
  exact (List.map_congr_left this).trans (List.map_id b)
theorem strOf_inj {a b : List Int} (ha : Bts a) (hb : Bts b) (h : strOfNums a = strOfNums b) : a = b := by rw [← bytesOf_strOf ha, ← bytesOf_strOf hb, h]
theorem bytesOf_inj {s t : ByteArray} (h : bytesOf s = bytesOf t) : s = t := by
  unfold bytesOf at h
  have h2 : s.data.toList = t.data.toList := by
    refine List.map_inj_right (f := fun b : UInt8 => ((b.toNat : Nat) : Int)) ?_ |>.1 h
    intro x y hxy
    exact UInt8.toNat_inj.1 (Int.ofNat.inj hxy)
  have h3 : s.data = t.data := by rw [← Array.toArray_toList (xs := s.data), h2, Array.toArray_toList]
  cases s; cases t; simpa using h3
theorem toList_inj {s t : ByteArray} : s.toList = t.toList ↔ s = t := by
  constructor
  · intro h
    rw [ByteArray.toList_eq, ByteArray.toList_eq] at h
    cases s; cases t
    simpa using h
  · intro h; rw [h]
theorem Bts.take {b : List Int} (h : Bts b) (n : Nat) : Bts (b.take n) := fun x hx => h x (List.mem_of_mem_take hx)
theorem Bts.drop {b : List Int} (h : Bts b) (n : Nat) : Bts (b.drop n) := fun x hx => h x (List.mem_of_mem_drop hx)
/-- The payload of the frame with which bytes begin. -/
def firstL (b : List Int) : Option (List Int) :=
  if b.length < 8 then none else if 65536 < numL b ∨ b.length < 8 + numL b then none else if headL ((b.drop 8).take (numL b)) = b.take 8 then some ((b.drop 8).take (numL b)) else none
def FirstPost (b : List Int) (w : World) (e : Ending) (w' : World) : Prop := ∃ (s : ByteArray) (ok : Bool), e = .returned (.tuple #[.string s, .bool ok]) ∧ (ok = true → firstL b = some (bytesOf s)) ∧ (ok = false → firstL b = none) ∧ Below w.heap.size w w'
set_option maxHeartbeats 4000000 in
set_option maxRecDepth 100000 in
theorem first.at (A0 : Option Addr) (c0 : Nat) (b : List Int) (w : World) (hr : Kd.C (Kd.int .u8) w A0 b.length b) (hc : b.length ≤ c0) (hb : Bts b) (hl : b.length ≤ 70368744177664) :
    Calls Try.prog 24 #[.slice A0 b.length c0] w (FirstPost b w) := by
  have HR := Aside0.mk hr
  have HC := Aside0.mk hc
  have HBt := Aside0.mk hb
  have HL := Aside0.mk hl
  have HB := Aside0.mk (Below.refl w.heap.size w)
  clear hr hc hb hl
  have HNum : Aside0 (∀ W, Below w.heap.size w W → 4 ≤ b.length → Calls Try.prog 26 #[.slice A0 b.length c0] W fun e w' => e = .returned (.int .u32 ((numL b : Nat) : Int)) ∧ Below W.heap.size W w') := ⟨fun W hb h4 => number.at A0 c0 b W (Kd.C_below HR.out hb) HBt.out h4⟩
  by_cases k1 : b.length < 8
  · have HF : Aside0 (firstL b = none) := ⟨by unfold firstL; rw [if_pos k1]⟩
    have k1b : decide ((b.length : Int) < 8) = true := decide_eq_true (by omega)
    clear k1
    go_enter Try.func24, Try.ntmps24
    go_wp2
    go_ret2
    exact ⟨_, false, rfl, fun h => absurd h (by simp), fun _ => HF.out, HB.out⟩
  have k1b : decide ((b.length : Int) < 8) = false := decide_eq_false (by omega)
  have HK1 := Aside0.mk k1
  clear k1
  obtain ⟨n, en⟩ : ∃ n, numL b = n := ⟨_, rfl⟩
  have HNn := Aside0.mk en
  have HN32 : Aside0 (n < 2 ^ 32) := ⟨by rw [← en]; exact numL_lt HBt.out⟩
  rw [en] at HNum
  clear en
  have e1 : IntKind.i64.wrap ((n : Int)) = (n : Int) := by rw [i64_w]; unfold wrap64; have := HN32.out; omega
  have e2 : IntKind.i64.wrap ((b.length : Int) - 8) = (b.length : Int) - 8 := by rw [i64_w]; unfold wrap64; have := HL.out; omega
  have e3 : IntKind.i64.wrap (8 + (n : Int)) = 8 + (n : Int) := by rw [i64_w]; unfold wrap64; have := HN32.out; omega
  go_enter Try.func24, Try.ntmps24
  go_wp2_with fail
  refine (HNum.out _ HB.out (by have := HK1.out; omega)).mono ?_
  rintro e w2 ⟨rfl, hb⟩
  have HB2 := Aside0.mk hb
  clear hb HB HNum
  by_cases k2 : 65536 < n
  · have HF : Aside0 (firstL b = none) := ⟨by unfold firstL; rw [if_neg HK1.out, HNn.out, if_pos (.inl k2)]⟩
    have k2b : decide ((65536 : Int) < (n : Int)) = true := decide_eq_true (by omega)
    clear k2
    go_wp2
    go_ret2
    exact ⟨_, false, rfl, fun h => absurd h (by simp), fun _ => HF.out, HB2.out⟩
  have k2b : decide ((65536 : Int) < (n : Int)) = false := decide_eq_false (by omega)
  have HK2 := Aside0.mk k2
  clear k2
  by_cases k3 : b.length < 8 + n
  · have HF : Aside0 (firstL b = none) := ⟨by unfold firstL; rw [if_neg HK1.out, HNn.out, if_pos (.inr k3)]⟩
    have k3b : decide ((b.length : Int) - 8 < (n : Int)) = true := decide_eq_true (by omega)
    clear k3
    go_wp2
    go_ret2
    exact ⟨_, false, rfl, fun h => absurd h (by simp), fun _ => HF.out, HB2.out⟩
  have k3b : decide ((b.length : Int) - 8 < (n : Int)) = false := decide_eq_false (by omega)
  have HK3 := Aside0.mk k3
  clear k3
  obtain ⟨i0, hi0, _, hsz, _⟩ := info_parts info5
  obtain ⟨AP, hcutP, hAP, hCP⟩ := print_mid_of (P := Try.prog) (Value.int .u8) 0 22 5 .i64 .i64 Try.underlying22 hi0 hsz A0 c0 b 8 (8 + (n : Int)) (by omega) (by omega) (by have := HK3.out; omega) HC.out
  obtain ⟨hcut8, hA8, hC8⟩ := print_take_of (P := Try.prog) (Value.int .u8) 0 22 5 .i64 Try.underlying22 hi0 hsz A0 c0 b 8 (by omega) (by have := HK1.out; omega) HC.out
  obtain ⟨P, eP⟩ : ∃ P, (b.drop 8).take n = P := ⟨_, rfl⟩
  have eP2 : (b.take (8 + (n : Int)).toNat).drop (8 : Int).toNat = P := by
    rw [← eP, show (8 + (n : Int)).toNat = 8 + n by omega, show (8 : Int).toNat = 8 from rfl, List.drop_take, Nat.add_sub_cancel_left]
  have HPl : Aside0 (P.length = n ∧ Bts P) := ⟨by rw [← eP, List.length_take, List.length_drop]; have := HK3.out; omega, by rw [← eP]; exact (HBt.out.drop 8).take n⟩
  rw [eP2] at hcutP hAP hCP
  rw [show (8 : Int).toNat = 8 from rfl] at hcutP hCP hcut8 hA8 hC8
  have h8l : (b.take 8).length = 8 := by rw [List.length_take]; have := HK1.out; omega
  rw [h8l] at hcut8 hA8 hC8
  have HCP : Aside0 (∀ W, Below w.heap.size w W → (convert 22 9 (.slice AP P.length (c0 - 8))).run Try.prog W = .ok (.string (strOfNums P)) W) := ⟨fun W hb => Kd.C_string (P := Try.prog) Try.underlying22 Try.underlying5 Try.underlying9 (Kd.C_of_reads (h1 := fun _ => rfl) (hAP _ (Kd.reads_of_C (Kd.C_below HR.out hb))))⟩
  have HCv : Aside0 (∀ W, Below w.heap.size w W → (convert 22 9 (.slice A0 8 c0)).run Try.prog W = .ok (.string (strOfNums (b.take 8))) W) := ⟨fun W hb => Kd.C_string (P := Try.prog) Try.underlying22 Try.underlying5 Try.underlying9 (Kd.C_of_reads (enc := Value.int .u8) (h1 := fun _ => rfl) (hA8 _ (Kd.reads_of_C (Kd.C_below HR.out hb))))⟩
  have hcvP := HCP.out _ HB2.out
  have HHd : Aside0 (∀ W, Below w.heap.size w W → Calls Try.prog 18 #[.string (strOfNums P)] W fun e w' => ∃ v0_ : Value, e = .returned v0_ ∧ RB w' W.heap.size v0_ (headL P) ∧ Below W.heap.size W w') := ⟨fun W hb => by
    have := head.at (strOfNums P) (by rw [strOfNums_size, HPl.out.1]; have := HK2.out; omega) W
    rw [bytesOf_strOf HPl.out.2] at this
    exact this⟩
  have HBd : Aside0 (Below w.heap.size w w2.drew) := ⟨HB2.out.drew⟩
  have HEq : Aside0 (firstL b = if headL P = b.take 8 then some P else none) := ⟨by
    unfold firstL
    rw [if_neg HK1.out, HNn.out, if_neg (by have := HK2.out; have := HK3.out; omega), eP]⟩
  clear hi0 hsz hAP hCP hA8 hC8 eP eP2 h8l HCP
  have hPs : Aside0 (bytesOf (strOfNums P) = P) := ⟨bytesOf_strOf HPl.out.2⟩
  have hcl : P.length ≤ c0 - 8 := by rw [HPl.out.1]; have := HK3.out; have := HC.out; omega
  have hc8 : (8 ≤ c0) = True := eq_true (by have := HK1.out; have := HC.out; omega)
  go_upto_region 7 with (fail)
  by_cases q : headL P = b.take 8
  · have q2 : ((strOfNums (headL P)).toList == (strOfNums (b.take 8)).toList) = true := by rw [q]; simp
    have HF : Aside0 (firstL b = some P) := ⟨by rw [HEq.out, if_pos q]⟩
    clear q
    refine start_ (n := 10) (S := fun w' => (convert 22 9 (.slice A0 8 c0)).run Try.prog w' = .ok (.string (strOfNums (b.take 8))) w') (ds := []) #[false, false, false, false, false, false, false, false, false, false] (by kernel_rfl) rfl rfl ((HCv.out _ HBd.out)) (fun hHeld => ?_)
    refine pure_ (i := 0) (N := some 27) (v := ?_) (a' := ?_) #[true, false, false, false, false, false, false, false, false, false] rfl rfl (by kernel_rfl) (fun _ _ _ h => h) (Or.inl ⟨by rfl, ?_⟩) ?_ ?_
    rotate_left
    · intro w'
      go_simp
      with_reducible rfl
    rotate_left
    · simp only [Act.put, List.setIfInBounds_toArray, List.set_cons_zero, List.set_cons_succ, i64_w, i32_w]
      rfl
    refine pure_ (i := 1) (N := some 28) (v := ?_) (a' := ?_) #[true, true, false, false, false, false, false, false, false, false] rfl rfl (by kernel_rfl) (fun _ _ _ h => h) (Or.inl ⟨by rfl, ?_⟩) ?_ ?_
    rotate_left
    · intro w'
      go_simp
      with_reducible rfl
    rotate_left
    · simp only [Act.put, List.setIfInBounds_toArray, List.set_cons_zero, List.set_cons_succ, i64_w, i32_w]
      rfl
    refine pure_ (i := 4) (N := some 31) (v := ?_) (a' := ?_) #[true, true, false, false, true, false, false, false, false, false] rfl rfl (by kernel_rfl) (fun _ _ _ h => h) (Or.inl ⟨by rfl, ?_⟩) ?_ ?_
    rotate_left
    · intro w'
      go_simp
      with_reducible rfl
    rotate_left
    · simp only [Act.put, List.setIfInBounds_toArray, List.set_cons_zero, List.set_cons_succ, i64_w, i32_w]
      rfl
    refine pure_ (i := 5) (N := some 32) (v := ?_) (a' := ?_) #[true, true, false, false, true, true, false, false, false, false] rfl rfl (by kernel_rfl) (fun _ _ _ h => h) (Or.inl ⟨by rfl, ?_⟩) ?_ ?_
    rotate_left
    · intro w'
      go_simp
      with_reducible rfl
    rotate_left
    · simp only [Act.put, List.setIfInBounds_toArray, List.set_cons_zero, List.set_cons_succ, i64_w, i32_w]
      rfl
    refine take_ (i := 6) (N := some 33) (v := ?_) (a' := ?_) #[true, true, false, false, true, true, true, false, false, false] rfl rfl (by kernel_rfl) (fun _ _ _ h => h) (Or.inl ⟨by rfl, ?_⟩) hHeld ?_ ?_
    rotate_left
    · intro w' s0
      go_simp
      with_reducible rfl
    rotate_left
    · simp only [Act.put, List.setIfInBounds_toArray, List.set_cons_zero, List.set_cons_succ, i64_w, i32_w]
      rfl
    refine one_ (i := 2) (N := some 29) #[true, true, true, false, true, true, true, false, false, false] rfl rfl (by kernel_rfl) (by decide) (fun K hK => ?_)
    refine goes_ Try.func18 (by kernel_rfl) rfl #[.string (strOfNums P)] (by rfl) rfl rfl (by simp only [List.map_toArray, List.map_cons, List.map_nil]; rfl) ?_
    with_reducible refine (HHd.out _ HBd.out).mono ?_
    rintro e w3 ⟨vh, rfl, hh, hb⟩
    refine ⟨_, rfl, ?_⟩
    obtain ⟨Ah, ch, rfl⟩ := Kd.R_slice hh
    have HH := Aside0.mk hh
    have HB3 := Aside0.mk hb
    have hcv3 := Kd.C_string (P := Try.prog) (A := Ah) (c := ch) Try.underlying22 Try.underlying5 Try.underlying9 (Kd.R_reads' hh).2.2
    rw [headL_length] at hcv3 ⊢
    have hcv4 : (convert 22 9 (.slice A0 8 c0)).run Try.prog w3 = .ok (.string (strOfNums (b.take 8))) w3 := HCv.out _ (below_step HBd.out hb)
    clear hh hb
    refine hK.out _ _ (hcv4) (fun hHeld => ?_)
    clear hK K
    refine norm_ (a' := ?_) ?_ ?_
    rotate_left
    · show Act.put _ (some 29) _ = _
      simp only [Act.put, List.setIfInBounds_toArray, List.set_cons_zero, List.set_cons_succ, i64_w, i32_w]
      rfl
    refine pure_ (i := 8) (N := some 2) (v := ?_) (a' := ?_) #[true, true, true, false, true, true, true, false, true, false] rfl rfl (by kernel_rfl) (fun _ _ _ h => h) (Or.inl ⟨by rfl, ?_⟩) ?_ ?_
    rotate_left
    · intro w'
      go_simp
      with_reducible rfl
    rotate_left
    · simp only [Act.put, List.setIfInBounds_toArray, List.set_cons_zero, List.set_cons_succ, i64_w, i32_w]
      rfl
    refine one_ (i := 3) (N := some 30) #[true, true, true, true, true, true, true, false, true, false] rfl rfl (by kernel_rfl) (by decide) (fun K hK => ?_)
    refine value_ (w1 := ?_) (v := ?_) (by rfl) rfl ?_ ?_
    rotate_left 2
    · go_simp
      constructor
      · rfl
      · rfl
    refine hK.out _ _ (hcv4) (fun hHeld => ?_)
    clear hK K
    refine norm_ (a' := ?_) ?_ ?_
    rotate_left
    · show Act.put _ (some 30) _ = _
      simp only [Act.put, List.setIfInBounds_toArray, List.set_cons_zero, List.set_cons_succ, i64_w, i32_w]
      rfl
    refine pure_ (i := 7) (N := some 34) (v := ?_) (a' := ?_) #[true, true, true, true, true, true, true, true, true, false] rfl rfl (by kernel_rfl) (fun _ _ _ h => h) (Or.inl ⟨by rfl, ?_⟩) ?_ ?_
    rotate_left
    · intro w'
      go_simp
      with_reducible rfl
    rotate_left
    · simp only [Act.put, List.setIfInBounds_toArray, List.set_cons_zero, List.set_cons_succ, i64_w, i32_w]
      rfl
    refine pure_ (i := 9) (N := some 3) (v := ?_) (a' := ?_) #[true, true, true, true, true, true, true, true, true, true] rfl rfl (by kernel_rfl) (fun _ _ _ h => h) (Or.inl ⟨by rfl, ?_⟩) ?_ ?_
    rotate_left
    · intro w'
      go_simp
      with_reducible rfl
    rotate_left
    · simp only [Act.put, List.setIfInBounds_toArray, List.set_cons_zero, List.set_cons_succ, i64_w, i32_w]
      rfl
    refine done_ (by kernel_rfl) ?_
    go_wp2
    go_ret2
    exact ⟨_, true, rfl, fun _ => by rw [hPs.out]; exact HF.out, fun h => absurd h (by simp), below_step HB2.out.drew HB3.out⟩
  · have q2 : ((strOfNums (headL P)).toList == (strOfNums (b.take 8)).toList) = false := by
      rw [beq_eq_false_iff_ne]
      exact fun h => q (strOf_inj (headL_bts P) (HBt.out.take 8) (toList_inj.1 h))
    have HF : Aside0 (firstL b = none) := ⟨by rw [HEq.out, if_neg q]⟩
    clear q
    refine start_ (n := 10) (S := fun w' => (convert 22 9 (.slice A0 8 c0)).run Try.prog w' = .ok (.string (strOfNums (b.take 8))) w') (ds := []) #[false, false, false, false, false, false, false, false, false, false] (by kernel_rfl) rfl rfl ((HCv.out _ HBd.out)) (fun hHeld => ?_)
    refine pure_ (i := 0) (N := some 27) (v := ?_) (a' := ?_) #[true, false, false, false, false, false, false, false, false, false] rfl rfl (by kernel_rfl) (fun _ _ _ h => h) (Or.inl ⟨by rfl, ?_⟩) ?_ ?_
    rotate_left
    · intro w'
      go_simp
      with_reducible rfl
    rotate_left
    · simp only [Act.put, List.setIfInBounds_toArray, List.set_cons_zero, List.set_cons_succ, i64_w, i32_w]
      rfl
    refine pure_ (i := 1) (N := some 28) (v := ?_) (a' := ?_) #[true, true, false, false, false, false, false, false, false, false] rfl rfl (by kernel_rfl) (fun _ _ _ h => h) (Or.inl ⟨by rfl, ?_⟩) ?_ ?_
    rotate_left
    · intro w'
      go_simp
      with_reducible rfl
    rotate_left
    · simp only [Act.put, List.setIfInBounds_toArray, List.set_cons_zero, List.set_cons_succ, i64_w, i32_w]
      rfl
    refine pure_ (i := 4) (N := some 31) (v := ?_) (a' := ?_) #[true, true, false, false, true, false, false, false, false, false] rfl rfl (by kernel_rfl) (fun _ _ _ h => h) (Or.inl ⟨by rfl, ?_⟩) ?_ ?_
    rotate_left
    · intro w'
      go_simp
      with_reducible rfl
    rotate_left
    · simp only [Act.put, List.setIfInBounds_toArray, List.set_cons_zero, List.set_cons_succ, i64_w, i32_w]
      rfl
    refine pure_ (i := 5) (N := some 32) (v := ?_) (a' := ?_) #[true, true, false, false, true, true, false, false, false, false] rfl rfl (by kernel_rfl) (fun _ _ _ h => h) (Or.inl ⟨by rfl, ?_⟩) ?_ ?_
    rotate_left
    · intro w'
      go_simp
      with_reducible rfl
    rotate_left
    · simp only [Act.put, List.setIfInBounds_toArray, List.set_cons_zero, List.set_cons_succ, i64_w, i32_w]
      rfl
    refine take_ (i := 6) (N := some 33) (v := ?_) (a' := ?_) #[true, true, false, false, true, true, true, false, false, false] rfl rfl (by kernel_rfl) (fun _ _ _ h => h) (Or.inl ⟨by rfl, ?_⟩) hHeld ?_ ?_
    rotate_left
    · intro w' s0
      go_simp
      with_reducible rfl
    rotate_left
    · simp only [Act.put, List.setIfInBounds_toArray, List.set_cons_zero, List.set_cons_succ, i64_w, i32_w]
      rfl
    refine one_ (i := 2) (N := some 29) #[true, true, true, false, true, true, true, false, false, false] rfl rfl (by kernel_rfl) (by decide) (fun K hK => ?_)
    refine goes_ Try.func18 (by kernel_rfl) rfl #[.string (strOfNums P)] (by rfl) rfl rfl (by simp only [List.map_toArray, List.map_cons, List.map_nil]; rfl) ?_
    with_reducible refine (HHd.out _ HBd.out).mono ?_
    rintro e w3 ⟨vh, rfl, hh, hb⟩
    refine ⟨_, rfl, ?_⟩
    obtain ⟨Ah, ch, rfl⟩ := Kd.R_slice hh
    have HH := Aside0.mk hh
    have HB3 := Aside0.mk hb
    have hcv3 := Kd.C_string (P := Try.prog) (A := Ah) (c := ch) Try.underlying22 Try.underlying5 Try.underlying9 (Kd.R_reads' hh).2.2
    rw [headL_length] at hcv3 ⊢
    have hcv4 : (convert 22 9 (.slice A0 8 c0)).run Try.prog w3 = .ok (.string (strOfNums (b.take 8))) w3 := HCv.out _ (below_step HBd.out hb)
    clear hh hb
    refine hK.out _ _ (hcv4) (fun hHeld => ?_)
    clear hK K
    refine norm_ (a' := ?_) ?_ ?_
    rotate_left
    · show Act.put _ (some 29) _ = _
      simp only [Act.put, List.setIfInBounds_toArray, List.set_cons_zero, List.set_cons_succ, i64_w, i32_w]
      rfl
    refine pure_ (i := 8) (N := some 2) (v := ?_) (a' := ?_) #[true, true, true, false, true, true, true, false, true, false] rfl rfl (by kernel_rfl) (fun _ _ _ h => h) (Or.inl ⟨by rfl, ?_⟩) ?_ ?_
    rotate_left
    · intro w'
      go_simp
      with_reducible rfl
    rotate_left
    · simp only [Act.put, List.setIfInBounds_toArray, List.set_cons_zero, List.set_cons_succ, i64_w, i32_w]
      rfl
    refine one_ (i := 3) (N := some 30) #[true, true, true, true, true, true, true, false, true, false] rfl rfl (by kernel_rfl) (by decide) (fun K hK => ?_)
    refine value_ (w1 := ?_) (v := ?_) (by rfl) rfl ?_ ?_
    rotate_left 2
    · go_simp
      constructor
      · rfl
      · rfl
    refine hK.out _ _ (hcv4) (fun hHeld => ?_)
    clear hK K
    refine norm_ (a' := ?_) ?_ ?_
    rotate_left
    · show Act.put _ (some 30) _ = _
      simp only [Act.put, List.setIfInBounds_toArray, List.set_cons_zero, List.set_cons_succ, i64_w, i32_w]
      rfl
    refine pure_ (i := 7) (N := some 34) (v := ?_) (a' := ?_) #[true, true, true, true, true, true, true, true, true, false] rfl rfl (by kernel_rfl) (fun _ _ _ h => h) (Or.inl ⟨by rfl, ?_⟩) ?_ ?_
    rotate_left
    · intro w'
      go_simp
      with_reducible rfl
    rotate_left
    · simp only [Act.put, List.setIfInBounds_toArray, List.set_cons_zero, List.set_cons_succ, i64_w, i32_w]
      rfl
    refine pure_ (i := 9) (N := some 3) (v := ?_) (a' := ?_) #[true, true, true, true, true, true, true, true, true, true] rfl rfl (by kernel_rfl) (fun _ _ _ h => h) (Or.inl ⟨by rfl, ?_⟩) ?_ ?_
    rotate_left
    · intro w'
      go_simp
      with_reducible rfl
    rotate_left
    · simp only [Act.put, List.setIfInBounds_toArray, List.set_cons_zero, List.set_cons_succ, i64_w, i32_w]
      rfl
    refine done_ (by kernel_rfl) ?_
    go_wp2
    go_ret2
    exact ⟨_, false, rfl, fun h => absurd h (by simp), fun _ => HF.out, below_step HB2.out.drew HB3.out⟩
end Go.Proofs.Ytlmpdlmamopbeaa.P
