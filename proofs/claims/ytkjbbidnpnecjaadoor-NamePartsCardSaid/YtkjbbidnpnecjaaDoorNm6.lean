/-
  Names: wakes, cut.
-/
import Derived.Test.YtkjbbidnpnecjaaDoorNm5
namespace Go.Proofs.YtkjbbidnpnecjaaDoor
open Go.RowKit
set_option linter.unusedVariables false
set_option linter.unusedSimpArgs false
set_option maxRecDepth 100000

theorem move_ex : moveF [97, 47, 98] [97] [120, 47, 121] = ([120, 47, 121, 47, 98], 0) := by decide +kernel
theorem in_ex1 : (restF [97, 47, 98] [97]).2 = true := by decide +kernel
theorem in_ex2 : (restF [97, 98] [97]).2 = false := by decide +kernel
theorem spot_ex : spotF [47] = (140, 0) := by decide +kernel
theorem wakes4_calls (w : World) : Calls Tryd.prog 13 #[] w fun e w' => e = .returned (.bool true) ∧ Chg No w w' := by
  have HM : Hid (∀ W, Calls Tryd.prog 23 #[.string ⟨#[97, 47, 98]⟩, .string ⟨#[97]⟩, .string ⟨#[120, 47, 121]⟩] W fun e w' => e = .returned (.tuple #[.string ⟨#[120, 47, 121, 47, 98]⟩, .int .i64 0]) ∧ Chg No W w') := fun W => by
    have := move_calls W [97, 47, 98] [97] [120, 47, 121] (by simp) (by simp) (by simp)
    rw [move_ex] at this
    exact this
  have H1 : Hid (∀ W, Calls Tryd.prog 26 #[.string ⟨#[97, 47, 98]⟩, .string ⟨#[97]⟩] W fun e w' => e = .returned (.bool true) ∧ Chg No W w') := fun W => by
    have := in_calls W [97, 47, 98] [97] (by simp) (by simp)
    rw [in_ex1] at this
    exact this
  have H2 : Hid (∀ W, Calls Tryd.prog 26 #[.string ⟨#[97, 98]⟩, .string ⟨#[97]⟩] W fun e w' => e = .returned (.bool false) ∧ Chg No W w') := fun W => by
    have := in_calls W [97, 98] [97] (by simp) (by simp)
    rw [in_ex2] at this
    exact this
  have H3 : Hid (∀ W, Calls Tryd.prog 15 #[.string ⟨#[47]⟩] W fun e w' => e = .returned (.agg #[.int .i64 140, .int .i64 0]) ∧ Chg No W w') := fun W => by
    have := check_calls W (mkS [47]) (by decide)
    rw [mkS_list, spot_ex] at this
    exact this
  have hf0 : ∀ (w : World), Sem.run Tryd.prog (Instr.field 26 (.agg #[.int .i64 140, .int .i64 0]) 0) w = .ok (.int .i64 140) w := fun _ => rfl
  go_enter Tryd.func13, Tryd.ntmps13
  go_wp2_with fail
  refine (HM.out _).mono ?_
  rintro e w1 ⟨rfl, hc1⟩
  have HC1 := Lib.hid hc1
  clear hc1
  go_wp2_with fail
  refine (H1.out _).mono ?_
  rintro e w2 ⟨rfl, hc2⟩
  have HC2 := Lib.hid (HC1.out.no hc2)
  clear hc2
  go_wp2_with fail
  refine (H2.out _).mono ?_
  rintro e w3 ⟨rfl, hc3⟩
  have HC3 := Lib.hid (HC2.out.no hc3)
  clear hc3
  go_wp2_with fail
  refine (H3.out _).mono ?_
  rintro e w4 ⟨rfl, hc4⟩
  have HC4 := Lib.hid (HC3.out.no hc4)
  clear hc4
  go_wp2
  go_ret
  exact ⟨rfl, HC4.out⟩
/-- A text of at most 4096 bytes. -/
def cutL (p : List UInt8) : List UInt8 := p.take 4096
theorem cutL_len (p : List UInt8) : (cutL p).length ≤ 4096 := by rw [cutL, List.length_take]; omega
theorem cut_calls (w : World) (s : ByteArray) (hs : s.size ≤ 9223372036854775807) : Calls Tryd.prog 14 #[.string s] w fun e w' => e = .returned (.string (mkS (cutL s.data.toList))) ∧ w = w' := by
  have HX : Hid (∀ k, s.extract 0 k = mkS (s.data.toList.take k)) := fun k => by rw [Lib.extract_eq]; simp [mkS]
  have HT : Hid (s.data.toList.take (min (s.size : Int) 4096).toNat = cutL s.data.toList) := by
    rw [Hid, cutL]
    have := size_list s
    by_cases h : s.size ≤ 4096
    · rw [List.take_of_length_le (by omega), List.take_of_length_le (by omega)]
    · rw [show (min (s.size : Int) 4096).toNat = 4096 by omega]
  have hm : (min (s.size : Int) 4096).toNat ≤ s.size := by omega
  have hm2 : (min (s.size : Int) 4096) ≤ (s.size : Int) := by omega
  have hm0 : 0 ≤ (min (s.size : Int) 4096) := by omega
  go_enter Tryd.func14, Tryd.ntmps14
  go_wp2
  go_ret
  exact ⟨by rw [← HT.out, ← HX.out]; rfl, rfl⟩
end Go.Proofs.YtkjbbidnpnecjaaDoor
