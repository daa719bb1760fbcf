/-
  Contracts of strings.HasPrefix, strings.IndexByte; of package quote's control, broken, digit.
-/
import Derived.Test.YtpeedclcnfbppaaQd
import Derived.Lib.Strings
import Derived.Lib.Slices
import Derived.Lib.Walk
import Derived.Lib.Bytealg
namespace Go.Proofs.Ytpeedclcnfbppaa
open Go.RowKit
set_option linter.unusedVariables false
set_option linter.unusedSimpArgs false

set_option maxHeartbeats 1000000 in
theorem hasprefix_calls (s p : ByteArray) (w : World) :
    Calls Try.prog 37 #[.string s, .string p] w fun e w' => e = .returned (.bool (Lib.hasPrefix s.data.toList p.data.toList)) ∧ w = w' := by
  rw [← Lib.hasPrefix_of_take, ← Lib.size_eq, ← Lib.size_eq]
  go_enter Try.func37, Try.ntmps37
  go_wp2
  · rename_i h
    go_ret
    refine ⟨?_, rfl⟩
    show Ending.returned (Value.bool ((s.extract 0 p.size).toList == p.toList)) = _
    rw [Lib.extract_toList, Lib.toList_data]
    simp [h]
  · rename_i h
    go_ret
    refine ⟨?_, rfl⟩
    show Ending.returned (Value.bool false) = _
    simp [h]

set_option maxHeartbeats 1000000 in
set_option maxRecDepth 100000 in
theorem indexbyte1_calls (s : ByteArray) (c : Int) (w : World) :
    Calls Try.prog 36 #[.string s, .int .u8 c] w fun e w' => e = .returned (.int .i64 (Lib.indexByte s.data.toList c.toNat.toUInt8)) ∧ w = w' := by
  go_enter Try.func36, Try.ntmps36
  go_wp2
  rw [run_callFunc_extern Try.func43 (by kernel_rfl) (by kernel_rfl) (by kernel_rfl) (e := Extern.BytealgIndexByte.indexByte) (by kernel_rfl), Lib.run_indexByteString]
  simp only [Result.andThen]
  rw [Oper.upon_value]
  go_wp2
  go_ret
  exact ⟨rfl, rfl⟩
set_option maxHeartbeats 1000000 in
theorem indexbyte_calls (s : ByteArray) (c : Int) (w : World) :
    Calls Try.prog 24 #[.string s, .int .u8 c] w fun e w' => e = .returned (.int .i64 (Lib.indexByte s.data.toList c.toNat.toUInt8)) ∧ w = w' := by
  go_enter Try.func24, Try.ntmps24
  go_wp2_with (go_at_call 36; refine (indexbyte1_calls _ _ _).mono ?_; rintro e w' ⟨rfl, rfl⟩)
  go_ret
  exact ⟨rfl, rfl⟩

def ctl (r : Nat) : Bool := decide (r < 32) || decide (127 ≤ r ∧ r ≤ 159)
set_option maxHeartbeats 400000 in
theorem control_calls (w : World) (r : Nat) : Calls Try.prog 27 #[.int .i32 (r : Int)] w fun e w' => e = .returned (.bool (ctl r)) ∧ w = w' := by
  by_cases h1 : r < 32
  · have HU : Hid (ctl r = true) := by simp [Hid, ctl, h1]
    go_enter Try.func27, Try.ntmps27
    go_wp2
    go_ret
    exact ⟨by rw [HU.out]; first | rfl | (simp; done) | (simp; omega), rfl⟩
  · by_cases h2 : 127 ≤ r
    · by_cases h3 : r ≤ 159
      · have HU : Hid (ctl r = true) := by simp [Hid, ctl, h2, h3]
        go_enter Try.func27, Try.ntmps27
        go_wp2
        go_ret
        exact ⟨by rw [HU.out]; first | rfl | (simp; done) | (simp; omega), rfl⟩
      · have HU : Hid (ctl r = false) := by simp [Hid, ctl]; omega
        go_enter Try.func27, Try.ntmps27
        go_wp2
        go_ret
        exact ⟨by rw [HU.out]; first | rfl | (simp; done) | (simp; omega), rfl⟩
    · have HU : Hid (ctl r = false) := by simp [Hid, ctl]; omega
      go_enter Try.func27, Try.ntmps27
      go_wp2
      go_ret
      exact ⟨by rw [HU.out]; first | rfl | (simp; done) | (simp; omega), rfl⟩

theorem extract_list (s : ByteArray) (i : Nat) : (s.extract i s.size).data.toList = s.data.toList.drop i := by
  rw [ByteArray.data_extract, Array.toList_extract, List.extract_eq_take_drop]
  rw [List.take_of_length_le]
  rw [List.length_drop, size_list]
  exact Nat.le_refl _

set_option maxHeartbeats 400000 in
theorem broken_calls (w : World) (s : ByteArray) (hs : s.size ≤ 9223372036854775807) (i : Nat) (hi : i ≤ s.size) :
    Calls Try.prog 25 #[.string s, .int .i64 (i : Int), .int .i32 ((decL (s.data.toList.drop i)).1 : Int)] w fun e w' => e = .returned (.bool (brk (s.data.toList.drop i))) ∧ w = w' := by
  have hx := extract_list s i
  by_cases h1 : (decL (s.data.toList.drop i)).1 = 65533
  · have HU : Hid (brk (s.data.toList.drop i) = !Lib.hasPrefix (List.take (s.size - i) (List.drop i s.data.toList)) [239, 191, 189]) := by
      rw [Hid, List.take_of_length_le (by rw [List.length_drop, size_list]; exact Nat.le_refl _)]
      unfold brk
      rw [h1]
      rfl
    rw [h1]
    have hi' : (i : Int) ≤ (s.size : Int) := by omega
    clear h1 hx
    go_enter Try.func25, Try.ntmps25
    go_wp2_with (go_at_call 37; refine (hasprefix_calls _ _ _).mono ?_; rintro e w' ⟨rfl, rfl⟩)
    go_ret
    exact ⟨by rw [HU.out]; rfl, rfl⟩
  · have HU : Hid (brk (s.data.toList.drop i) = false) := by
      unfold brk
      simp [Hid, h1]
    have hr : (((decL (s.data.toList.drop i)).1 : Int) == 65533) = false := by simp; omega
    generalize (decL (s.data.toList.drop i)).1 = r at *
    clear h1 hx
    go_enter Try.func25, Try.ntmps25
    go_wp2
    go_ret
    exact ⟨by rw [HU.out]; rfl, rfl⟩
end Go.Proofs.Ytpeedclcnfbppaa
