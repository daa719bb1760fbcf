/-
  Contracts of the reference's Both and of the law's 'same'.
-/
import Derived.Test.YtbbfjnfmfigcfaaRef1b
namespace Go.Proofs.Ytbbfjnfmfigcfaa
open Go.RowKit
set_option linter.unusedVariables false
set_option linter.unusedSimpArgs false

theorem mkS_toList (l : List UInt8) : (mkS l).toList = l := by first | (rw [ByteArray.toList_eq]; exact mkS_list l) | (simp [ByteArray.toList, mkS])
set_option maxRecDepth 100000 in
set_option maxHeartbeats 1600000 in
theorem both_calls (w : World) (A : Option Addr) (n c : Nat) (us : List UInt8) (B : Option Addr) (m d : Nat) (vs : List UInt8) (ha : Bytes w (.slice A n c) us) (hla : us.length = n) (hb : Bytes w (.slice B m d) vs) (hlb : vs.length = m) (hs : n + m ≤ 140737488355328) :
    Calls Try.prog 33 #[.slice A n c, .slice B m d] w fun e w' => ∃ v, e = .returned v ∧ OwnB w' w.heap.size v (us ++ vs) ∧ Chg No w w' := by
  have HA := Lib.hid ha
  have HB := Lib.hid hb
  have HLa := Lib.hid hla
  have HLb := Lib.hid hlb
  have HS := Lib.hid hs
  obtain ⟨i0, hi, hz0, hz1, hz2⟩ := info_parts infoU8
  clear ha hb hla hlb
  go_enter Try.func33, Try.ntmps33
  go_wp2_with (at_make; refine wpList_make_own _ rfl _ _ 22 rfl w.heap.size 5 i0 (.int .u8 0) 1 Try.underlying22 hi hz0 hz1 .i64 .i64 _ (n + m) rfl rfl (by simp) (by rw [hz2]; omega) (by unfold maxLen; omega) (Nat.le_refl _) ?_; intro w1 hown1 hg1)
  have HO1 : Hid (OwnB w1 w.heap.size (.slice (some ⟨w.heap.size, 0, none⟩) 0 (n + m)) []) := hown1
  have HC1 : Hid (Chg No w w1) := Chg.ofGrown hg1 (fun k hk => by cases hk)
  clear hown1 hg1 hi hz0 hz1 hz2
  go_loopw [5, 6] (fun v i wr => ∃ k : Nat, k ≤ n ∧ i = .int .i64 (k : Int) ∧ Hid (OwnB wr w.heap.size v (us.take k)) ∧ Hid (Chg No w wr)) (fun _ i _ => n - (intOf i).toNat)
  case atStart => exact ⟨0, by omega, rfl, HO1.out, HC1.out⟩
  case round =>
    obtain ⟨k, hk, rfl, HO, HC⟩ := hrel
    have hsz : w.heap.size ≤ wr.heap.size := HC.out.size
    by_cases hlt : k < n
    · obtain ⟨b, o, rfl, hcell⟩ := (HA.out.no HC.out).addr (by rw [HLa.out]; omega)
      have hc := hcell k (by rw [HLa.out]; exact hlt)
      have HT : Hid (us.take (k + 1) = us.take k ++ [us[k]'(by rw [HLa.out]; exact hlt)]) := List.take_succ_eq_append_getElem (by rw [HLa.out]; exact hlt)
      generalize us[k]'(by rw [HLa.out]; exact hlt) = u at hc HT
      clear hcell
      go_wp2_with (at_builtin; (refine wpList_app _ rfl (.tmp 20) (.tmp 25) 22 22 rfl w.heap.size 5 (.int .u8 0) 1 1 infoU8 Try.underlying22 rfl (by decide) u5 (.slice (some ⟨wr.heap.size, 0, none⟩) 1 1) (us.take k).length 1 (u8s (us.take k)) [.int .u8 (u.toNat : Int)] rfl rfl ?own ?src ?b1 ?b2 ?b3 ?_; (case own => exact HO.out.alloc _); (case src => exact Src.one Try.underlying22 _ rfl); (case b1 => simp only [List.length_take]; have := HS.out; have := HLa.out; omega); (case b2 => unfold maxLen; simp only [List.length_take]; have := HS.out; have := HLa.out; omega); (case b3 => simp; omega); intro v' w' hown hg))
      go_roundw
      case rel =>
        refine ⟨k + 1, hlt, by go_num, ?_, (HC.out.alloc _).grown hg (fun k hk => .inl (HO.out.block k hk).1)⟩
        refine OwnB.of hown ?_
        rw [HT.out]; exact u8s_snoc _ _ _ rfl
      case measure => simp [intOf]; omega
    · have hkn : k = n := by omega
      subst hkn
      have HO' : Hid (OwnB wr w.heap.size u5 us) := by have := HO.out; rwa [List.take_of_length_le (by rw [HLa.out]; exact Nat.le_refl _)] at this
      obtain ⟨wo, hwo⟩ : ∃ wo : World, wo = wr := ⟨_, rfl⟩
      clear HO
      subst hwo
      go_wp2
      go_loopw [5, 7] (fun v i wr => ∃ k : Nat, k ≤ m ∧ i = .int .i64 (k : Int) ∧ Hid (OwnB wr w.heap.size v (us ++ vs.take k)) ∧ Hid (Chg No w wr)) (fun _ i _ => m - (intOf i).toNat)
      case atStart => exact ⟨0, by omega, rfl, by simpa [Hid] using HO'.out, HC.out⟩
      case round =>
        clear HC HO'
        obtain ⟨k, hk, rfl, HO, HC⟩ := hrel
        have hsz : w.heap.size ≤ wr.heap.size := HC.out.size
        by_cases hlt : k < m
        · obtain ⟨b, o, rfl, hcell⟩ := (HB.out.no HC.out).addr (by rw [HLb.out]; omega)
          have hc := hcell k (by rw [HLb.out]; exact hlt)
          have HT : Hid (vs.take (k + 1) = vs.take k ++ [vs[k]'(by rw [HLb.out]; exact hlt)]) := List.take_succ_eq_append_getElem (by rw [HLb.out]; exact hlt)
          generalize vs[k]'(by rw [HLb.out]; exact hlt) = u at hc HT
          clear hcell
          go_wp2_with (at_builtin; (refine wpList_app _ rfl (.tmp 33) (.tmp 38) 22 22 rfl w.heap.size 5 (.int .u8 0) 1 1 infoU8 Try.underlying22 rfl (by decide) u5 (.slice (some ⟨wr.heap.size, 0, none⟩) 1 1) (us ++ vs.take k).length 1 (u8s (us ++ vs.take k)) [.int .u8 (u.toNat : Int)] rfl rfl ?own ?src ?b1 ?b2 ?b3 ?_; (case own => exact HO.out.alloc _); (case src => exact Src.one Try.underlying22 _ rfl); (case b1 => simp only [List.length_append, List.length_take]; have := HS.out; have := HLa.out; have := HLb.out; omega); (case b2 => unfold maxLen; simp only [List.length_append, List.length_take]; have := HS.out; have := HLa.out; have := HLb.out; omega); (case b3 => simp; omega); intro v' w' hown hg))
          go_roundw
          case rel =>
            refine ⟨k + 1, hlt, by go_num, ?_, (HC.out.alloc _).grown hg (fun k hk => .inl (HO.out.block k hk).1)⟩
            refine OwnB.of hown ?_
            rw [HT.out, ← List.append_assoc]; exact u8s_snoc _ _ _ rfl
          case measure => simp [intOf]; omega
        · go_wp2
          go_ret
          have := HO.out
          rw [List.take_of_length_le (by rw [HLb.out]; omega)] at this
          exact ⟨_, rfl, this, HC.out⟩
end Go.Proofs.Ytbbfjnfmfigcfaa
