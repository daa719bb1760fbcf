/-
  The reference's control, hex, Piece.
-/
import Derived.Test.YtcomcoolmabmgaaDoorQ4
namespace Go.Proofs.YtcomcoolmabmgaaDoor
open Go.RowKit
set_option linter.unusedVariables false
set_option linter.unusedSimpArgs false

set_option maxHeartbeats 400000 in
theorem rcontrol_calls (w : World) (r : Nat) : Calls Tryd.prog 65 #[.int .i32 (r : Int)] w fun e w' => e = .returned (.bool (ctl r)) ∧ w = w' := by
  by_cases h1 : r < 32
  · have HU : Hid (ctl r = true) := by simp [Hid, ctl, h1]
    go_enter Tryd.func65, Tryd.ntmps65
    go_wp2
    go_ret
    exact ⟨by rw [HU.out]; first | rfl | (simp; done) | (simp; omega), rfl⟩
  · by_cases h2 : 127 ≤ r
    · by_cases h3 : r < 160
      · have HU : Hid (ctl r = true) := by simp [Hid, ctl, h2]; omega
        go_enter Tryd.func65, Tryd.ntmps65
        go_wp2
        go_ret
        exact ⟨by rw [HU.out]; first | rfl | (simp; done) | (simp; omega), rfl⟩
      · have HU : Hid (ctl r = false) := by simp [Hid, ctl]; omega
        go_enter Tryd.func65, Tryd.ntmps65
        go_wp2
        go_ret
        exact ⟨by rw [HU.out]; first | rfl | (simp; done) | (simp; omega), rfl⟩
    · have HU : Hid (ctl r = false) := by simp [Hid, ctl]; omega
      go_enter Tryd.func65, Tryd.ntmps65
      go_wp2
      go_ret
      exact ⟨by rw [HU.out]; first | rfl | (simp; done) | (simp; omega), rfl⟩

theorem hx_toNat (q : Nat) (h : q < 16) : ((hx q).toNat : Int) = if q < 10 then (48 + q : Int) else (87 + q : Int) := by
  unfold hx
  split <;> simp <;> omega
set_option maxHeartbeats 400000 in
theorem rhex_calls (w : World) (q : Nat) (h : q < 16) : Calls Tryd.prog 69 #[.int .u8 (q : Int)] w fun e w' => e = .returned (.int .u8 ((hx q).toNat : Int)) ∧ w = w' := by
  have HU := Lib.hid (hx_toNat q h)
  by_cases h1 : q < 10
  · go_enter Tryd.func69, Tryd.ntmps69
    go_wp2
    go_ret
    exact ⟨by rw [HU.out, if_pos h1]; first | rfl | (simp; done) | (simp; omega), rfl⟩
  · go_enter Tryd.func69, Tryd.ntmps69
    go_wp2
    go_ret
    exact ⟨by rw [HU.out, if_neg h1]; first | rfl | (simp; done) | (simp; omega), rfl⟩
end Go.Proofs.YtcomcoolmabmgaaDoor
