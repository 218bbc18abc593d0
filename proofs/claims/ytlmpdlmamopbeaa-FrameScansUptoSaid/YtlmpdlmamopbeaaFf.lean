/- The frames of bytes in plain words, and the iterator that goes over them. -/
import Derived.Test.YtlmpdlmamopbeaaFe
import Derived.OwnWalkIn
import Derived.LoopIn
import Derived.LoopNIn
import Derived.Sort.LoopGhostIn
import Derived.Sort.CutIn
import Derived.RangeFuncNested
import Derived.RangeFuncBound
import Derived.RangeFuncCalls
import Derived.RangeFuncLeaves
import Derived.Shelf.RegionOpen
namespace Go.Proofs.Ytlmpdlmamopbeaa.P
open Go.RowKit Go.Proofs.YtlmpdlmamopbeaaW.PrintWords Go.Proofs.YtlmpdlmamopbeaaW.PrintLast Go.Proofs.YtlmpdlmamopbeaaW.PrintMore
attribute [local go_sem] Oper.semAt_some
set_option linter.unusedVariables false
set_option linter.unusedSimpArgs false
/-- A frame that is found: where it begins, and its payload. -/
structure Fr where
  i : Int
  s : ByteArray
def encF (d : Fr) : Array Value := #[.int .i64 d.i, .string d.s]
/-- The frames from a place on. -/
def frL : Nat → List Int → Nat → List Fr
  | 0, _, _ => []
  | f + 1, b, at_ => match firstL (b.drop at_) with
    | none => []
    | some p => ⟨(at_ : Int), strOfNums p⟩ :: frL f b (at_ + 8 + p.length)
def frames (b : List Int) : List Fr := frL (b.length + 1) b 0
theorem firstL_some {b p : List Int} (h : firstL b = some p) : b.length ≥ 8 + p.length ∧ p = (b.drop 8).take p.length ∧ p.length = numL b ∧ p.length ≤ 65536 ∧ headL p = b.take 8 := by
  unfold firstL at h
  by_cases h1 : b.length < 8
  · rw [if_pos h1] at h; exact absurd h (by simp)
  · rw [if_neg h1] at h
    by_cases h2 : 65536 < numL b ∨ b.length < 8 + numL b
    · rw [if_pos h2] at h; exact absurd h (by simp)
    · rw [if_neg h2] at h
      by_cases h3 : headL ((b.drop 8).take (numL b)) = b.take 8
      · rw [if_pos h3] at h
        obtain rfl := Option.some.inj h
        have hl : ((b.drop 8).take (numL b)).length = numL b := by rw [List.length_take, List.length_drop]; omega
        refine ⟨by omega, by rw [hl], hl, by omega, h3⟩
      · rw [if_neg h3] at h; exact absurd h (by simp)
theorem firstL_bts {b p : List Int} (hb : Bts b) (h : firstL b = some p) : Bts p := by
  rw [(firstL_some h).2.1]
  exact (hb.drop 8).take _
set_option maxHeartbeats 2000000 in
set_option maxRecDepth 100000 in
theorem All.in_ (n : Nat) (hn : 1 ≤ n) (T : Nat → Prop) (b : List Int) (hb : Bts b) (hl : b.length ≤ 70368744177664) (bx : Nat) (A0 : Option Addr) (c0 : Nat) (hc : b.length ≤ c0) (l : Nat) (J Jx : List Fr → World → Prop) (hJ : ∀ pre A B, J pre A → Below A.heap.size A B → J pre B)
    (hY : ∀ pre x W, J pre W → pre.length < (frames b).length → YieldAt Fence.wide (n - 1) Try.prog l (encF x) W fun e W' => (e = .returned (.bool true) ∧ J (pre ++ [x]) W' ∧ Kept W W' T) ∨ (e = .returned (.bool false) ∧ Jx (pre ++ [x]) W'))
    (W : World) (hx : W.cell? ⟨bx, 0, none⟩ = some (.slice A0 b.length c0)) (hTx : ¬ T bx)
    (hr : ∀ W', Kept W W' T → Kd.C (Kd.int .u8) W' A0 b.length b) (h0 : J [] W) :
    CallsIn Fence.wide n Try.prog 23 #[.func (.yield l) #[] #[], .pointer (some ⟨bx, 0, none⟩)] W fun e W' => (∃ v, e = .returned v) ∧ (J (frames b) W' ∨ (∃ pre, pre <+: frames b ∧ Jx pre W')) := by
  have HJ0 := Aside0.mk hJ
  have HY := Aside0.mk hY
  have HX := Aside0.mk hx
  have HT := Aside0.mk hTx
  have HR := Aside0.mk hr
  have HC := Aside0.mk hc
  have HL := Aside0.mk hl
  have HBt := Aside0.mk hb
  have H0 := Aside0.mk h0
  clear hJ hY hTx hr hl h0 hc hb hx
  refine callsIn_of_wp Try.func23 rfl trivial ?_ rfl
  simp only [Try.ntmps23, List.size_toArray, List.length_cons, List.length_nil, Nat.reduceAdd, Nat.reduceSub, Array.replicate_succ, Array.replicate_zero, List.push_toArray, List.append_toArray, List.nil_append, List.cons_append]
  gi_wp2
  gi_loopg [3] (b.length + 1) (fun kq v3 wr => ∃ x : Int, v3 = .int .i64 x ∧ Aside0 (∃ (a f : Nat) (pre : List Fr), x = (a : Int) ∧ a ≤ b.length ∧ b.length < a + kq ∧ f = kq ∧ frames b = pre ++ frL f b a ∧ J pre wr) ∧ Aside0 (Kept W wr T))
  case atStart => exact ⟨0, rfl, ⟨0, b.length + 1, [], rfl, by omega, by omega, rfl, rfl, H0.out⟩, ⟨Kept.refl _ _⟩⟩
  case round =>
    obtain ⟨x, rfl, HO, HK⟩ := hrel
    cases gk with
    | zero => exact absurd HO.out (by rintro ⟨a, f, pre, h1, h2, h3, _⟩; omega)
    | succ m =>
      have q1 := Go.Proofs.YtlmpdlmamopbeaaW.PrintWords.cell_kept HX.out HK.out HT.out
      have HX0 : Aside0 (0 ≤ x ∧ x ≤ (b.length : Int)) := ⟨by obtain ⟨a, f, pre, h1, h2, _⟩ := HO.out; omega⟩
      obtain ⟨i0, hi0, _, hsz, _⟩ := info_parts info5
      have hcut := print_drop_of (P := Try.prog) (Value.int .u8) 0 22 5 .i64 Try.underlying22 hi0 hsz A0 c0 b x HX0.out.1 HX0.out.2 HC.out
      obtain ⟨A', hrun, hrd, hlen⟩ := hcut
      have HFirst : Aside0 (Calls Try.prog 24 #[.slice A' (b.drop x.toNat).length (c0 - x.toNat)] wr (FirstPost (b.drop x.toNat) wr)) := ⟨first.at A' (c0 - x.toNat) (b.drop x.toNat) wr (Kd.C_of_reads (enc := Value.int .u8) (h1 := fun _ => rfl) (hrd _ (Kd.reads_of_C (HR.out _ HK.out)))) hlen (HBt.out.drop _) (by rw [List.length_drop]; have := HL.out; omega)⟩
      obtain ⟨bl, ebl⟩ : ∃ bl, (b.drop x.toNat).length = bl := ⟨_, rfl⟩
      obtain ⟨bc, ebc⟩ : ∃ bc, c0 - x.toNat = bc := ⟨_, rfl⟩
      rw [ebl, ebc] at hrun HFirst
      clear hrd hlen hi0 hsz ebl ebc
      obtain ⟨a, pre, HOo⟩ : ∃ (a : Nat) (pre : List Fr), Aside0 (x = (a : Int) ∧ a ≤ b.length ∧ b.length < a + (m + 1) ∧ frames b = pre ++ frL (m + 1) b a ∧ J pre wr) := by
        obtain ⟨a, f, pre, h1, h2, h3, h4, h5, h6⟩ := HO.out
        subst h4
        exact ⟨a, pre, ⟨h1, h2, h3, h5, h6⟩⟩
      have hxa : b.drop x.toNat = b.drop a := by rw [HOo.out.1, Int.toNat_natCast]
      rw [hxa] at HFirst
      clear HO hxa
      cases hfl : firstL (b.drop a) with
      | none =>
        have HE : Aside0 (frames b = pre) := ⟨by
          have e : frL (m + 1) b a = [] := by show (match firstL (b.drop a) with | none => [] | some p => _) = _; rw [hfl]
          rw [HOo.out.2.2.2.1, e, List.append_nil]⟩
        have HF0 : Aside0 (Calls Try.prog 24 #[.slice A' bl bc] wr fun e w' => ∃ s, e = .returned (.tuple #[.string s, .bool false]) ∧ Below wr.heap.size wr w') := ⟨HFirst.out.mono fun e w' ⟨s, ok, h1, h2, h3, h4⟩ => by
          cases ok with
          | false => exact ⟨s, h1, h4⟩
          | true => rw [hfl] at h2; exact absurd (h2 rfl) (by simp)⟩
        clear HFirst hfl
        gi_wp2_with (first
          | (gi_at_call 24; refine (callsIn_wide.2 HF0.out).mono ?_; rintro e w' ⟨s, rfl, hb⟩; have HBf := Aside0.mk hb; clear hb HF0)
          | (refine ⟨trivial, ?_⟩; gi_at_call 24; refine (callsIn_wide.2 HF0.out).mono ?_; rintro e w' ⟨s, rfl, hb⟩; have HBf := Aside0.mk hb; clear hb HF0))
        all_goals
          refine ⟨fun f h => absurd h (by simp), ?_⟩
          gi_wp2
          refine bodyPost_ret (results_none rfl _ _ _) rfl ?_
          exact ⟨⟨_, rfl⟩, .inl (by rw [HE.out]; exact HJ0.out _ _ _ HOo.out.2.2.2.2 HBf.out)⟩
      | some p =>
        obtain ⟨s, es⟩ : ∃ s, strOfNums p = s := ⟨_, rfl⟩
        have hpb : p = bytesOf s := by rw [← es, bytesOf_strOf (firstL_bts (HBt.out.drop a) hfl)]
        have HF1 : Aside0 (Calls Try.prog 24 #[.slice A' bl bc] wr fun e w' => e = .returned (.tuple #[.string s, .bool true]) ∧ Below wr.heap.size wr w') := ⟨HFirst.out.mono fun e w' ⟨s2, ok, h1, h2, h3, h4⟩ => by
          cases ok with
          | false => rw [hfl] at h3; exact absurd (h3 rfl) (by simp)
          | true =>
            have h5 := h2 rfl
            rw [hfl, hpb] at h5
            obtain rfl := bytesOf_inj (Option.some.inj h5)
            exact ⟨h1, h4⟩⟩
        have HFs := Aside0.mk (firstL_some hfl)
        have HPe : Aside0 (frL (m + 1) b a = ⟨x, s⟩ :: frL m b (a + 8 + s.size)) := ⟨by
          have e : frL (m + 1) b a = ⟨(a : Int), strOfNums p⟩ :: frL m b (a + 8 + p.length) := by show (match firstL (b.drop a) with | none => [] | some p => _) = _; rw [hfl]
          rw [e, es, HOo.out.1, hpb, bytesOf_length]⟩
        have HSz : Aside0 (a + 8 + s.size ≤ b.length) := ⟨by
          have h := HFs.out.1
          rw [List.length_drop, hpb, bytesOf_length] at h
          omega⟩
        clear hfl es hpb HFirst
        have e1 : IntKind.i64.wrap (8 + (s.size : Int)) = 8 + (s.size : Int) := by rw [i64_w]; unfold wrap64; have := HSz.out; have := HL.out; omega
        have e2 : IntKind.i64.wrap (x + (8 + (s.size : Int))) = x + (8 + (s.size : Int)) := by rw [i64_w]; unfold wrap64; have := HSz.out; have := HL.out; have := HOo.out.1; omega
        have HPr : Aside0 (pre ++ [⟨x, s⟩] <+: frames b) := ⟨by rw [HOo.out.2.2.2.1, HPe.out]; exact ⟨frL m b (a + 8 + s.size), by simp⟩⟩
        have HLt : Aside0 (pre.length < (frames b).length) := ⟨by have := HPr.out.length_le; rw [List.length_append, List.length_singleton] at this; omega⟩
        gi_wp2_with (first
          | (gi_at_call 24; refine (callsIn_wide.2 HF1.out).mono ?_; rintro e w' ⟨rfl, hb⟩; have HBf := Aside0.mk hb; obtain ⟨fn, tmps, assign, body, hy, hR⟩ := HY.out pre ⟨x, s⟩ w' (HJ0.out _ _ _ HOo.out.2.2.2.2 hb) HLt.out; dsimp only [encF] at hy; clear hb HF1)
          | (refine ⟨trivial, ?_⟩; gi_at_call 24; refine (callsIn_wide.2 HF1.out).mono ?_; rintro e w' ⟨rfl, hb⟩; have HBf := Aside0.mk hb; obtain ⟨fn, tmps, assign, body, hy, hR⟩ := HY.out pre ⟨x, s⟩ w' (HJ0.out _ _ _ HOo.out.2.2.2.2 hb) HLt.out; dsimp only [encF] at hy; clear hb HF1))
        all_goals
          have HK2 : Aside0 (Kept W w' T) := ⟨HK.out.below HBf.out⟩
          clear HK
          refine hR.mono ?_
          rintro e W3 (⟨rfl, hJ3, hk3⟩ | ⟨rfl, hJx3⟩)
          · have HJ4 := Aside0.mk hJ3
            have HK4 : Aside0 (Kept W W3 T) := ⟨HK2.out.then_ hk3 (fun _ h => .inl h)⟩
            clear hJ3 hk3 hy hR q1
            gi_wp2
            gi_roundg m
            case measure => omega
            case rel => exact ⟨x + (8 + (s.size : Int)), rfl, ⟨a + 8 + s.size, m, pre ++ [⟨x, s⟩], by have := HOo.out.1; omega, HSz.out, by have := HOo.out.2.2.1; omega, rfl, by rw [HOo.out.2.2.2.1, HPe.out]; simp, HJ4.out⟩, HK4⟩
          · have HJ4 := Aside0.mk hJx3
            clear hJx3 hy hR q1
            gi_wp2
            refine bodyPost_ret (results_none rfl _ _ _) rfl ?_
            exact ⟨⟨_, rfl⟩, .inr ⟨_, HPr.out, HJ4.out⟩⟩
theorem All.stops (n : Nat) (hn : 1 ≤ n) (T : Nat → Prop) (b : List Int) (hb : Bts b) (hl : b.length ≤ 70368744177664) (bx : Nat) (A0 : Option Addr) (c0 : Nat) (hc : b.length ≤ c0) (w : World) (hx : w.cell? ⟨bx, 0, none⟩ = some (.slice A0 b.length c0)) (hTx : ¬ T bx)
    (hr : ∀ W', Kept w W' T → Kd.C (Kd.int .u8) W' A0 b.length b) :
    SeqStopsK Fence.wide n Try.prog 23 #[.pointer (some ⟨bx, 0, none⟩)] encF (fun A B => Kept A B T) (fun xs => xs = frames b) (fun pre => pre <+: frames b) (frames b).length w := fun l J Jx W hW hJ _ hY h0 => by
  have hk : Kept w W T := Kept.of_below hW T
  refine (All.in_ n hn T b hb hl bx A0 c0 hc l J Jx (fun pre A B hj hb => hJ pre A B none hj ⟨hb.os, hb.tape, hb.output, hb.size, fun i hi _ => hb.block i hi⟩ (fun r e => by cases e)) hY W (Go.Proofs.YtlmpdlmamopbeaaW.PrintWords.cell_kept hx hk hTx) hTx (Kd.C_kept_step hr hk) h0).mono ?_
  rintro e W' ⟨he, hj | ⟨pre, hp, hj⟩⟩
  · exact ⟨he, .inl ⟨_, rfl, hj⟩⟩
  · exact ⟨he, .inr ⟨pre, hp, hj⟩⟩
end Go.Proofs.Ytlmpdlmamopbeaa.P
