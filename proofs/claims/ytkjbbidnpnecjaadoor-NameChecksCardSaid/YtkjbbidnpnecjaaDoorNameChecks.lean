/-
  NameChecks: the walk: Check and Path say what the document's Spot and Path say. For every text.
-/
import Derived.Test.YtkjbbidnpnecjaaDoorNm6
import Derived.Laws.StructEq
namespace Go.Proofs.YtkjbbidnpnecjaaDoor
open Go.RowKit
set_option linter.unusedVariables false
set_option linter.unusedSimpArgs false
set_option maxRecDepth 100000

theorem spot_guard (w : World) (x y : Operand) (xs ys : Array Value) : (eqGuard .eql 26 x y (.agg xs) (.agg ys)).run Tryd.prog w = .ok () w := run_eqGuard_agg w _ _ _ _ _ _ (by kernel_rfl)
theorem spot_eql (w : World) (a b : Int) : (binOp .eql 26 (.agg #[.int .i64 a, .int .i64 b]) (.agg #[.int .i64 a, .int .i64 b])).run Tryd.prog w = .ok (.bool true) w := by
  rw [run_eql_struct, run_equalIn_agg w _ _ _ _ Tryd.underlying26 (by kernel_rfl)]
  go_simp
set_option maxHeartbeats 1600000 in
theorem nameChecks_core (w : World) (s : ByteArray) (hs : s.size ≤ 140737488351232) : Calls Tryd.prog 4 #[.string s] w fun e w' => e = .returned (.bool true) ∧ Chg No w w' := by
  have eg := fun w x y xs ys => spot_guard w x y xs ys
  have en := fun w a b => spot_eql w a b
  have HP := Lib.hid fun W => cut_calls W s (by omega)
  have hl := cutL_len s.data.toList
  generalize cutL s.data.toList = p at *
  have hp : (mkS p).size ≤ 4096 := by rw [mkS_size]; exact hl
  have H1 : Hid (∀ W, _) := fun W => check_calls W (mkS p) (by omega)
  have H2 : Hid (∀ W, _) := fun W => refspot_calls W (mkS p) (by omega)
  have H3 : Hid (∀ W, _) := fun W => path_calls W (mkS p) (by omega)
  have H4 : Hid (∀ W, _) := fun W => refpath_calls W (mkS p) (by omega)
  rw [mkS_list] at H1 H2 H3 H4
  generalize mkS p = x at *
  obtain ⟨⟨a1, a2⟩, ha⟩ : ∃ q, spotF p = q := ⟨_, rfl⟩
  obtain ⟨⟨b1, b2⟩, hb⟩ : ∃ q, pathF p = q := ⟨_, rfl⟩
  rw [ha] at H1 H2
  rw [hb] at H3 H4
  unfold spotV at *
  clear ha hb
  go_enter Tryd.func4, Tryd.ntmps4
  go_wp2_with fail
  refine (wakes4_calls _).mono ?_
  rintro e w1 ⟨rfl, hc1⟩
  have HC1 := Lib.hid hc1
  clear hc1
  go_wp2_with fail
  refine (HP.out _).mono ?_
  rintro e w2 ⟨rfl, rfl⟩
  go_wp2_with fail
  refine (H1.out _).mono ?_
  rintro e w3 ⟨rfl, hc3⟩
  have HC3 := Lib.hid (HC1.out.no hc3)
  clear hc3
  go_wp2_with fail
  refine (H2.out _).mono ?_
  rintro e w4 ⟨rfl, hc4⟩
  have HC4 := Lib.hid (HC3.out.no hc4)
  clear hc4
  go_wp2_with fail
  refine (H3.out _).mono ?_
  rintro e w5 ⟨rfl, hc5⟩
  have HC5 := Lib.hid (HC4.out.no hc5)
  clear hc5
  go_wp2_with fail
  refine (H4.out _).mono ?_
  rintro e w6 ⟨rfl, hc6⟩
  have HC6 := Lib.hid (HC5.out.no hc6)
  clear hc6
  go_wp2_with fail
  refine (wakes4_calls _).mono ?_
  rintro e w7 ⟨rfl, hc7⟩
  go_wp2
  go_ret
  exact ⟨rfl, HC6.out.no hc7⟩
theorem nameChecks_walk (w : World) (s : ByteArray) (hs : s.size ≤ 140737488351232) : Calls Tryd.prog 4 #[.string s] w fun e w' => e = .returned (.bool true) ∧ Below w.heap.size w w' :=
  (nameChecks_core w s hs).mono fun _ _ h => ⟨h.1, h.2.below⟩
end Go.Proofs.YtkjbbidnpnecjaaDoor
