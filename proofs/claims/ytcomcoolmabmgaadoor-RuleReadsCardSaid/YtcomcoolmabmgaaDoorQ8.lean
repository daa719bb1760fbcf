/-
  digit; the reference's value.
-/
import Derived.Test.YtcomcoolmabmgaaDoorQ7
namespace Go.Proofs.YtcomcoolmabmgaaDoor
open Go.RowKit
set_option linter.unusedVariables false
set_option linter.unusedSimpArgs false

/-- What a digit says; 16: it is none. -/
def dg (c : Nat) : Nat := if 48 ≤ c ∧ c ≤ 57 then c - 48 else if 97 ≤ c ∧ c ≤ 102 then c - 87 else 16
theorem dg_le (c : Nat) : dg c ≤ 16 := by unfold dg; split <;> (try split) <;> omega

set_option maxHeartbeats 400000 in
theorem digit_calls (w : World) (c : Nat) (hc : c < 256) : Calls Tryd.prog 72 #[.int .u8 (c : Int)] w fun e w' => e = .returned (.int .u8 ((dg c : Nat) : Int)) ∧ w = w' := by
  by_cases h1 : 48 ≤ c
  · by_cases h2 : c ≤ 57
    · have HU : Hid (((dg c : Nat) : Int) = (c : Int) - 48) := by simp only [Hid, dg]; rw [if_pos ⟨h1, h2⟩]; omega
      go_enter Tryd.func72, Tryd.ntmps72
      go_wp2
      go_ret
      exact ⟨by rw [HU.out]; first | rfl | (simp; done) | (simp; omega), rfl⟩
    · by_cases h3 : 97 ≤ c
      · by_cases h4 : c ≤ 102
        · have HU : Hid (((dg c : Nat) : Int) = (c : Int) - 97 + 10) := by simp only [Hid, dg]; rw [if_neg (by omega), if_pos ⟨h3, h4⟩]; omega
          go_enter Tryd.func72, Tryd.ntmps72
          go_wp2
          go_ret
          exact ⟨by rw [HU.out]; first | rfl | (simp; done) | (simp; omega), rfl⟩
        · have HU : Hid (((dg c : Nat) : Int) = 16) := by simp only [Hid, dg]; rw [if_neg (by omega), if_neg (by omega)]; rfl
          go_enter Tryd.func72, Tryd.ntmps72
          go_wp2
          go_ret
          exact ⟨by rw [HU.out]; first | rfl | (simp; done) | (simp; omega), rfl⟩
      · have HU : Hid (((dg c : Nat) : Int) = 16) := by simp only [Hid, dg]; rw [if_neg (by omega), if_neg (by omega)]; rfl
        go_enter Tryd.func72, Tryd.ntmps72
        go_wp2
        go_ret
        exact ⟨by rw [HU.out]; first | rfl | (simp; done) | (simp; omega), rfl⟩
  · have HU : Hid (((dg c : Nat) : Int) = 16) := by simp only [Hid, dg]; rw [if_neg (by omega), if_neg (by omega)]; rfl
    go_enter Tryd.func72, Tryd.ntmps72
    go_wp2
    go_ret
    exact ⟨by rw [HU.out]; first | rfl | (simp; done) | (simp; omega), rfl⟩
set_option maxHeartbeats 400000 in
theorem value_calls (w : World) (c : Nat) (hc : c < 256) : Calls Tryd.prog 63 #[.int .u8 (c : Int)] w fun e w' => e = .returned (.int .u8 ((dg c : Nat) : Int)) ∧ w = w' := by
  by_cases h1 : 48 ≤ c
  · by_cases h2 : c ≤ 57
    · have HU : Hid (((dg c : Nat) : Int) = (c : Int) - 48) := by simp only [Hid, dg]; rw [if_pos ⟨h1, h2⟩]; omega
      go_enter Tryd.func63, Tryd.ntmps63
      go_wp2
      go_ret
      exact ⟨by rw [HU.out]; first | rfl | (simp; done) | (simp; omega), rfl⟩
    · by_cases h3 : 97 ≤ c
      · by_cases h4 : c ≤ 102
        · have HU : Hid (((dg c : Nat) : Int) = (c : Int) - 97 + 10) := by simp only [Hid, dg]; rw [if_neg (by omega), if_pos ⟨h3, h4⟩]; omega
          go_enter Tryd.func63, Tryd.ntmps63
          go_wp2
          go_ret
          exact ⟨by rw [HU.out]; first | rfl | (simp; done) | (simp; omega), rfl⟩
        · have HU : Hid (((dg c : Nat) : Int) = 16) := by simp only [Hid, dg]; rw [if_neg (by omega), if_neg (by omega)]; rfl
          go_enter Tryd.func63, Tryd.ntmps63
          go_wp2
          go_ret
          exact ⟨by rw [HU.out]; first | rfl | (simp; done) | (simp; omega), rfl⟩
      · have HU : Hid (((dg c : Nat) : Int) = 16) := by simp only [Hid, dg]; rw [if_neg (by omega), if_neg (by omega)]; rfl
        go_enter Tryd.func63, Tryd.ntmps63
        go_wp2
        go_ret
        exact ⟨by rw [HU.out]; first | rfl | (simp; done) | (simp; omega), rfl⟩
  · have HU : Hid (((dg c : Nat) : Int) = 16) := by simp only [Hid, dg]; rw [if_neg (by omega), if_neg (by omega)]; rfl
    go_enter Tryd.func63, Tryd.ntmps63
    go_wp2
    go_ret
    exact ⟨by rw [HU.out]; first | rfl | (simp; done) | (simp; omega), rfl⟩
end Go.Proofs.YtcomcoolmabmgaaDoor
