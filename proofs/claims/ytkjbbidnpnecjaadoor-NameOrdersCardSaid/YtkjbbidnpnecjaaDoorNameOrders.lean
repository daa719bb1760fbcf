/-
  NameOrders: the walk.
-/
import Derived.Test.YtkjbbidnpnecjaaDoorNm14
namespace Go.Proofs.YtkjbbidnpnecjaaDoor
open Go.RowKit
set_option linter.unusedVariables false
set_option linter.unusedSimpArgs false
set_option maxRecDepth 100000

set_option maxHeartbeats 6400000 in
theorem nameOrders_core (w : World) (s1 : ByteArray) (s2 : ByteArray) (hs1 : s1.size ≤ 140737488351232) (hs2 : s2.size ≤ 140737488351232) : Calls Tryd.prog 11 #[.string s1, .string s2] w fun e w' => e = .returned (.bool true) ∧ Chg No w w' := by
  have HPp := Lib.hid fun W => cut_calls W s1 (by omega)
  have hlp : Hid ((cutL s1.data.toList).length ≤ 9223372036854775807) := by have := cutL_len s1.data.toList; rw [Hid]; omega
  have HPq := Lib.hid fun W => cut_calls W s2 (by omega)
  have hlq : Hid ((cutL s2.data.toList).length ≤ 9223372036854775807) := by have := cutL_len s2.data.toList; rw [Hid]; omega
  generalize cutL s1.data.toList = p at *
  generalize cutL s2.data.toList = q at *
  have H1 := Lib.hid fun W => common_calls W p q hlp.out hlq.out
  have H2 := Lib.hid fun W => refcommon_calls W p q hlp.out hlq.out
  have H3 := Lib.hid fun W => compare_calls W p q hlp.out hlq.out
  have H4 := Lib.hid fun W => refcompare_calls W p q hlp.out hlq.out
  have H5 := Lib.hid fun W => compare_calls W q p hlq.out hlp.out
  rw [compF_ord.neg p q] at H5
  have hr := compF_ord.range p q
  generalize compF p q = x at *
  generalize commonF p q = com at *
  generalize mkS com = xc at *
  generalize mkS p = xp at *
  generalize mkS q = xq at *
  have hx1 : -1 ≤ x := by omega
  have hx2 : x ≤ 1 := by omega
  clear hr
  go_enter Tryd.func11, Tryd.ntmps11
  go_wp2_with fail
  refine (wakes4_calls _).mono ?_
  rintro e w1 ⟨rfl, hc1⟩
  have HC1 := Lib.hid hc1
  clear hc1
  go_wp2_with fail
  refine (HPp.out _).mono ?_
  rintro e w2 ⟨rfl, rfl⟩
  go_wp2_with fail
  refine (HPq.out _).mono ?_
  rintro e w3 ⟨rfl, rfl⟩
  go_wp2_with fail
  refine (H1.out _).mono ?_
  rintro e w4 ⟨rfl, hc4⟩
  have HC4 := Lib.hid (HC1.out.no hc4)
  clear hc4
  go_wp2_with fail
  refine (H2.out _).mono ?_
  rintro e w5 ⟨rfl, hc5⟩
  have HC5 := Lib.hid (HC4.out.no hc5)
  clear hc5
  go_wp2_with fail
  refine (H3.out _).mono ?_
  rintro e w6 ⟨rfl, hc6⟩
  have HC6 := Lib.hid (HC5.out.no hc6)
  clear hc6
  go_wp2_with fail
  refine (H4.out _).mono ?_
  rintro e w7 ⟨rfl, hc7⟩
  have HC7 := Lib.hid (HC6.out.no hc7)
  clear hc7
  go_wp2_with fail
  refine (H5.out _).mono ?_
  rintro e w8 ⟨rfl, hc8⟩
  have HC8 := Lib.hid (HC7.out.no hc8)
  clear hc8
  go_wp2_with fail
  refine (H4.out _).mono ?_
  rintro e w9 ⟨rfl, hc9⟩
  have HC9 := Lib.hid (HC8.out.no hc9)
  clear hc9
  go_wp2_with fail
  refine (wakes4_calls _).mono ?_
  rintro e w10 ⟨rfl, hc10⟩
  have HC10 := Lib.hid (HC9.out.no hc10)
  clear hc10
  go_wp2
  go_ret
  exact ⟨rfl, HC10.out⟩
theorem nameOrders_walk (w : World) (s1 : ByteArray) (hs1 : s1.size ≤ 140737488351232) (s2 : ByteArray) (hs2 : s2.size ≤ 140737488351232) : Calls Tryd.prog 11 #[.string s1, .string s2] w fun e w' => e = .returned (.bool true) ∧ Below w.heap.size w w' :=
  (nameOrders_core w s1 s2 hs1 hs2).mono fun _ _ h => ⟨h.1, h.2.below⟩
end Go.Proofs.YtkjbbidnpnecjaaDoor
