/-
  Contracts of strings.HasPrefix, strings.IndexByte; of package quote's control, broken, digit.
-/
import Derived.Test.YtcomcoolmabmgaaDoorPcs
import Derived.Test.YtcomcoolmabmgaaDoorTx
import Derived.Test.YtcomcoolmabmgaaDoorQd
import Derived.Lib.Strings
import Derived.Lib.Slices
import Derived.Lib.Walk
import Derived.Lib.Bytealg
namespace Go.Proofs.YtcomcoolmabmgaaDoor
open Go.RowKit
set_option linter.unusedVariables false
set_option linter.unusedSimpArgs false

set_option maxHeartbeats 1000000 in
set_option maxRecDepth 100000 in
theorem indexbyte1_calls (s : ByteArray) (c : Int) (w : World) :
    Calls Tryd.prog 57 #[.string s, .int .u8 c] w fun e w' => e = .returned (.int .i64 (Lib.indexByte s.data.toList c.toNat.toUInt8)) ∧ w = w' := by
  go_enter Tryd.func57, Tryd.ntmps57
  go_wp2
  rw [run_callFunc_extern Tryd.func73 (by kernel_rfl) (by kernel_rfl) (by kernel_rfl) (e := Extern.BytealgIndexByte.indexByte) (by kernel_rfl), Lib.run_indexByteString]
  simp only [Result.andThen]
  rw [Oper.upon_value]
  go_wp2
  go_ret
  exact ⟨rfl, rfl⟩
set_option maxHeartbeats 1000000 in
theorem indexbyte_calls (s : ByteArray) (c : Int) (w : World) :
    Calls Tryd.prog 38 #[.string s, .int .u8 c] w fun e w' => e = .returned (.int .i64 (Lib.indexByte s.data.toList c.toNat.toUInt8)) ∧ w = w' := by
  go_enter Tryd.func38, Tryd.ntmps38
  go_wp2_with (go_at_call 57; refine (indexbyte1_calls _ _ _).mono ?_; rintro e w' ⟨rfl, rfl⟩)
  go_ret
  exact ⟨rfl, rfl⟩

def ctl (r : Nat) : Bool := decide (r < 32) || decide (127 ≤ r ∧ r ≤ 159)
set_option maxHeartbeats 400000 in
theorem control_calls (w : World) (r : Nat) : Calls Tryd.prog 42 #[.int .i32 (r : Int)] w fun e w' => e = .returned (.bool (ctl r)) ∧ w = w' := by
  by_cases h1 : r < 32
  · have HU : Hid (ctl r = true) := by simp [Hid, ctl, h1]
    go_enter Tryd.func42, Tryd.ntmps42
    go_wp2
    go_ret
    exact ⟨by rw [HU.out]; first | rfl | (simp; done) | (simp; omega), rfl⟩
  · by_cases h2 : 127 ≤ r
    · by_cases h3 : r ≤ 159
      · have HU : Hid (ctl r = true) := by simp [Hid, ctl, h2, h3]
        go_enter Tryd.func42, Tryd.ntmps42
        go_wp2
        go_ret
        exact ⟨by rw [HU.out]; first | rfl | (simp; done) | (simp; omega), rfl⟩
      · have HU : Hid (ctl r = false) := by simp [Hid, ctl]; omega
        go_enter Tryd.func42, Tryd.ntmps42
        go_wp2
        go_ret
        exact ⟨by rw [HU.out]; first | rfl | (simp; done) | (simp; omega), rfl⟩
    · have HU : Hid (ctl r = false) := by simp [Hid, ctl]; omega
      go_enter Tryd.func42, Tryd.ntmps42
      go_wp2
      go_ret
      exact ⟨by rw [HU.out]; first | rfl | (simp; done) | (simp; omega), rfl⟩

set_option maxHeartbeats 400000 in
theorem broken_calls (w : World) (s : ByteArray) (hs : s.size ≤ 9223372036854775807) (i : Nat) (hi : i ≤ s.size) :
    Calls Tryd.prog 40 #[.string s, .int .i64 (i : Int), .int .i32 ((decL (s.data.toList.drop i)).1 : Int)] w fun e w' => e = .returned (.bool (brk (s.data.toList.drop i))) ∧ w = w' := by
  have hx := extract_list s i
  by_cases h1 : (decL (s.data.toList.drop i)).1 = 65533
  · have HU : Hid (brk (s.data.toList.drop i) = !Lib.hasPrefix (List.take (s.size - i) (List.drop i s.data.toList)) [239, 191, 189]) := by
      rw [Hid, List.take_of_length_le (by rw [List.length_drop, size_list]; exact Nat.le_refl _)]
      unfold brk
      rw [h1]
      rfl
    rw [h1]
    have hi' : (i : Int) ≤ (s.size : Int) := by omega
    clear h1 hx
    go_enter Tryd.func40, Tryd.ntmps40
    go_wp2_with (go_at_call 58; refine (hasprefix_calls _ _ _).mono ?_; rintro e w' ⟨rfl, rfl⟩)
    go_ret
    exact ⟨by rw [HU.out]; rfl, rfl⟩
  · have HU : Hid (brk (s.data.toList.drop i) = false) := by
      unfold brk
      simp [Hid, h1]
    have hr : (((decL (s.data.toList.drop i)).1 : Int) == 65533) = false := by simp; omega
    generalize (decL (s.data.toList.drop i)).1 = r at *
    clear h1 hx
    go_enter Tryd.func40, Tryd.ntmps40
    go_wp2
    go_ret
    exact ⟨by rw [HU.out]; rfl, rfl⟩
end Go.Proofs.YtcomcoolmabmgaaDoor
