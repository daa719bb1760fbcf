/-
  Contracts of the reference espalierref01: Hex, Uint, Word, Text.
-/
import Derived.Test.YtkmnkbmmgopldaaRef1a
namespace Go.Proofs.Ytkmnkbmmgopldaa
open Go.RowKit
set_option linter.unusedVariables false
set_option linter.unusedSimpArgs false

theorem hexd_small (q : Nat) (h : q < 10) : 48 + (q : Int) = ((hexd q).toNat : Int) := by
  unfold hexd; rw [if_pos h, UInt8.toNat_ofNat']; omega
theorem hexd_big (q : Nat) (h : ¬ q < 10) (h2 : q < 16) : 97 + (q : Int) - 10 = ((hexd q).toNat : Int) := by
  unfold hexd; rw [if_neg h, UInt8.toNat_ofNat']; omega

set_option maxRecDepth 100000 in
set_option maxHeartbeats 800000 in
theorem refword_calls (w : World) (x : Nat) (xv : Int) (hxv : xv = (x : Int)) (hx64 : x < 18446744073709551616) :
    Calls Try.prog 71 #[.int .u64 xv] w fun e w' => ∃ v, e = .returned v ∧ OwnB w' w.heap.size v (wide x) ∧ Chg No w w' := by
  subst hxv
  have hmk : ∀ w, (Instr.makeSlice 38 (.int .i64 8) (.int .i64 8)).run Try.prog w = .ok (.slice (some ⟨w.heap.size, 0, none⟩) 8 8) (w.alloc (.cells #[.int .u8 0, .int .u8 0, .int .u8 0, .int .u8 0, .int .u8 0, .int .u8 0, .int .u8 0, .int .u8 0] 5)) := fun _ => by kernel_rfl
  go_enter Try.func71, Try.ntmps71
  go_wp2
  go_loopw [0, 4] (fun xs s wr => ∃ k : Nat, k ≤ 8 ∧ s = .int .i64 (7 - (k : Int)) ∧ xs = .int .u64 ((x / 256 ^ k : Nat) : Int) ∧ Hid (FillArr 5 wr w.heap.size 8 (fun j => UInt8.ofNat (x / 256 ^ (7 - j))) k) ∧ Hid (Chg No w wr)) (fun _ s _ => (intOf s + 1).toNat)
  case atStart => exact ⟨0, by omega, by simp, by simp, FillArr.start _ rfl, (Chg.refl _ _).alloc _⟩
  case round =>
    obtain ⟨k, hk, rfl, rfl, HX, HC⟩ := hrel
    by_cases hb : k < 8
    · obtain ⟨u, hu⟩ := HX.out.cell (7 - k) (by omega)
      have hf := HX.out.frozen (7 - k)
      have hs0 : 0 ≤ 7 - (k : Int) := by omega
      generalize hy : x / 256 ^ k = y at *
      have hy64 : y < 18446744073709551616 := by rw [← hy]; exact Nat.lt_of_le_of_lt (Nat.div_le_self _ _) hx64
      have HY := Lib.hid hy
      clear hy
      go_wp2
      go_roundw
      case rel =>
        refine ⟨k + 1, hb, by go_num, ?_, HX.out.store hb (7 - k) (by omega) _ ?_, HC.out.setCell (.inl (Nat.le_refl _)) _⟩
        · rw [Nat.pow_succ, ← Nat.div_div_eq_div_mul, HY.out]; go_num
        · simp only [show 7 - (7 - k) = k by omega]; rw [HY.out, UInt8.toNat_ofNat']; omega
      case measure => simp [intOf]; omega
    · have : k = 8 := by omega
      subst this
      go_wp2
      go_ret
      exact ⟨_, rfl, HX.out.own (by unfold maxLen; omega) (Nat.le_refl _), HC.out⟩

set_option maxRecDepth 100000 in
set_option maxHeartbeats 800000 in
theorem refuint_calls (w : World) (x : Nat) (xv : Int) (hxv : xv = (x : Int)) (hx64 : x < 18446744073709551616) :
    Calls Try.prog 69 #[.int .u64 xv] w fun e w' => ∃ v, e = .returned v ∧ OwnB w' w.heap.size v (leb x) ∧ Chg No w w' := by
  subst hxv
  go_enter Try.func69, Try.ntmps69
  go_wp2
  go_loopw [0, 3] (fun xv v wr => ∃ (y : Nat) (acc : List UInt8), y ≤ x ∧ xv = .int .u64 (y : Int) ∧ Hid (OwnB wr w.heap.size v acc) ∧ Hid (acc ++ leb y = leb x) ∧ Hid (Chg No w wr)) (fun xv _ _ => (intOf xv).toNat)
  case atStart => exact ⟨x, [], Nat.le_refl _, rfl, World.ownsRow_nil _ _ _ _, by simp [Hid], Chg.refl _ _⟩
  case round =>
    obtain ⟨y, acc, hy, rfl, HO, HA, HC⟩ := hrel
    have hlen : acc.length ≤ 10 := by
      have h1 := congrArg List.length HA.out
      have h2 := leb_len10 x hx64
      simp only [List.length_append] at h1
      omega
    have HLen := Lib.hid hlen
    clear hlen
    have hsz : w.heap.size ≤ wr.heap.size := HC.out.size
    by_cases hb : y < 128
    · have HE := Lib.hid (leb_small y hb)
      have HV : Hid (((UInt8.ofNat y).toNat : Int) = (y : Int)) := by simp only [Hid, UInt8.toNat_ofNat']; omega
      go_wp2_with (at_builtin; (refine wpList_app _ rfl (.tmp 15) (.tmp 18) 38 38 rfl w.heap.size 5 (.int .u8 0) 1 1 infoU8 Try.underlying38 rfl (by decide) u3 (.slice (some ⟨wr.heap.size, 0, none⟩) 1 1) acc.length 1 (u8s acc) [.int .u8 (y : Int)] rfl rfl ?own ?src ?b1 ?b2 ?b3 ?_; (case own => exact HO.out.alloc _); (case src => exact Src.one Try.underlying38 _ rfl); (case b1 => have := HLen.out; omega); (case b2 => unfold maxLen; have := HLen.out; omega); (case b3 => simp; omega); intro v' w' hown hg))
      go_ret
      refine ⟨_, rfl, .of hown ?_, (HC.out.alloc _).grown hg ?_⟩
      · rw [← HA.out, HE.out]; exact u8s_snoc _ _ _ HV.out
      · intro k hk
        exact .inl (HO.out.block k hk).1
    · have HE := Lib.hid (leb_big y hb)
      have HV : Hid (((UInt8.ofNat (y % 128 + 128)).toNat : Int) = (y : Int) % 128 + 128) := by simp only [Hid, UInt8.toNat_ofNat']; omega
      go_wp2_with (at_builtin; (refine wpList_app _ rfl (.tmp 6) (.tmp 11) 38 38 rfl w.heap.size 5 (.int .u8 0) 1 1 infoU8 Try.underlying38 rfl (by decide) u3 (.slice (some ⟨wr.heap.size, 0, none⟩) 1 1) acc.length 1 (u8s acc) [.int .u8 ((y : Int) % 128 + 128)] rfl rfl ?own ?src ?b1 ?b2 ?b3 ?_; (case own => exact HO.out.alloc _); (case src => exact Src.one Try.underlying38 _ rfl); (case b1 => have := HLen.out; omega); (case b2 => unfold maxLen; have := HLen.out; omega); (case b3 => simp; omega); intro v' w' hown hg))
      go_roundw
      case rel =>
        refine ⟨y / 128, acc ++ [UInt8.ofNat (y % 128 + 128)], by omega, by go_num, ?_, ?_, ?_⟩
        · refine OwnB.of hown ?_
          exact u8s_snoc _ _ _ HV.out
        · rw [Hid, ← HA.out, HE.out]; simp
        · exact (HC.out.alloc _).grown hg (fun k hk => .inl (HO.out.block k hk).1)
      case measure => simp [intOf]; omega

set_option maxRecDepth 100000 in
set_option maxHeartbeats 800000 in
theorem reftext_calls (w : World) (s : ByteArray) (hs : s.size ≤ 140737488355318) :
    Calls Try.prog 70 #[.string s] w fun e w' => ∃ v, e = .returned v ∧ OwnB w' w.heap.size v (leb s.size ++ s.data.toList) ∧ Chg No w w' := by
  have HS := Lib.hid (size_list s)
  have HLen := Lib.hid (leb_len10 s.size (by omega))
  go_enter Try.func70, Try.ntmps70
  go_wp2_with fail
  refine (refuint_calls _ s.size _ rfl (by omega)).mono ?_
  rintro e w1 ⟨v1, rfl, hown1, hc1⟩
  have HO1 := Lib.hid hown1
  have HC1 := Lib.hid hc1
  clear hown1 hc1
  go_wp2
  go_loopw [3, 4] (fun v i wr => ∃ k : Nat, k ≤ s.size ∧ i = .int .i64 (k : Int) ∧ Hid (OwnB wr w.heap.size v (leb s.size ++ s.data.toList.take k)) ∧ Hid (Chg No w wr)) (fun _ i _ => s.size - (intOf i).toNat)
  case atStart => exact ⟨0, by omega, rfl, by simpa [Hid] using HO1.out, HC1.out⟩
  case round =>
    obtain ⟨k, hk, rfl, HO, HC⟩ := hrel
    have hsz : w.heap.size ≤ wr.heap.size := HC.out.size
    by_cases hlt : k < s.size
    · have HT : Hid (s.data.toList.take (k + 1) = s.data.toList.take k ++ [s[k]'(by omega)]) := List.take_succ_eq_append_getElem (by rw [HS.out]; omega)
      go_wp2_with (at_builtin; (refine wpList_app _ rfl (.tmp 15) (.tmp 19) 38 38 rfl w.heap.size 5 (.int .u8 0) 1 1 infoU8 Try.underlying38 rfl (by decide) u3 (.slice (some ⟨wr.heap.size, 0, none⟩) 1 1) (leb s.size ++ s.data.toList.take k).length 1 (u8s (leb s.size ++ s.data.toList.take k)) [.int .u8 ((s[k]'(by omega)).toNat : Int)] rfl rfl ?own ?src ?b1 ?b2 ?b3 ?_; (case own => exact HO.out.alloc _); (case src => exact Src.one Try.underlying38 _ rfl); (case b1 => simp only [List.length_append, List.length_take]; have := HLen.out; have := HS.out; omega); (case b2 => unfold maxLen; simp only [List.length_append, List.length_take]; have := HLen.out; have := HS.out; omega); (case b3 => simp; omega); intro v' w' hown hg))
      go_roundw
      case rel =>
        refine ⟨k + 1, hlt, by go_num, ?_, (HC.out.alloc _).grown hg (fun k hk => .inl (HO.out.block k hk).1)⟩
        refine OwnB.of hown ?_
        rw [HT.out, ← List.append_assoc]; exact u8s_snoc _ _ _ rfl
      case measure => simp [intOf]; omega
    · have hkk : k = s.size := by omega
      subst hkk
      go_wp2
      go_ret
      have := HO.out
      rw [List.take_of_length_le (by rw [HS.out]; omega)] at this
      exact ⟨_, rfl, this, HC.out⟩
end Go.Proofs.Ytkmnkbmmgopldaa
