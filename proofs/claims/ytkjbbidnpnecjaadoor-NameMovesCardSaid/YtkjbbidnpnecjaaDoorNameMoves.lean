/-
  NameMoves: the walk.
-/
import Derived.Test.YtkjbbidnpnecjaaDoorNm9
namespace Go.Proofs.YtkjbbidnpnecjaaDoor
open Go.RowKit
set_option linter.unusedVariables false
set_option linter.unusedSimpArgs false
set_option maxRecDepth 100000

set_option maxHeartbeats 6400000 in
theorem nameMoves_core (w : World) (s1 : ByteArray) (s2 : ByteArray) (s3 : ByteArray) (hs1 : s1.size ≤ 140737488351232) (hs2 : s2.size ≤ 140737488351232) (hs3 : s3.size ≤ 140737488351232) : Calls Tryd.prog 6 #[.string s1, .string s2, .string s3] w fun e w' => e = .returned (.bool true) ∧ Chg No w w' := by
  have HPp := Lib.hid fun W => cut_calls W s1 (by omega)
  have hlp : Hid ((cutL s1.data.toList).length ≤ 9223372036854775807) := by have := cutL_len s1.data.toList; rw [Hid]; omega
  have HPf := Lib.hid fun W => cut_calls W s2 (by omega)
  have hlf : Hid ((cutL s2.data.toList).length ≤ 9223372036854775807) := by have := cutL_len s2.data.toList; rw [Hid]; omega
  have HPt := Lib.hid fun W => cut_calls W s3 (by omega)
  have hlt : Hid ((cutL s3.data.toList).length ≤ 9223372036854775807) := by have := cutL_len s3.data.toList; rw [Hid]; omega
  generalize cutL s1.data.toList = p at *
  generalize cutL s2.data.toList = f at *
  generalize cutL s3.data.toList = t at *
  have HM1 : Hid (∀ W, _) := fun W => refmove_calls W p f t hlp.out hlf.out hlt.out
  have HM2 : Hid (∀ W, _) := fun W => move_calls W p f t hlp.out hlf.out hlt.out
  have HR1 : Hid (∀ W, _) := fun W => refrest_calls W p f hlp.out hlf.out
  have HR2 : Hid (∀ W, _) := fun W => namerest_calls W p f hlp.out hlf.out
  have HIN : Hid (∀ W, _) := fun W => in_calls W p f hlp.out hlf.out
  rw [← rest_eq] at HR1
  obtain ⟨⟨ms, me⟩, hm⟩ : ∃ z, moveF p f t = z := ⟨_, rfl⟩
  rw [hm] at HM1 HM2
  obtain ⟨⟨rs, rb⟩, hr⟩ : ∃ z, restF p f = z := ⟨_, rfl⟩
  rw [hr] at HR1 HR2 HIN
  clear hm hr
  simp only at HM1 HM2 HR1 HR2 HIN
  generalize mkS ms = ms at *
  generalize mkS rs = rs at *
  generalize mkS p = xp at *
  generalize mkS f = xf at *
  generalize mkS t = xt at *
  go_enter Tryd.func6, Tryd.ntmps6
  go_wp2_with fail
  refine (wakes4_calls _).mono ?_
  rintro e w1 ⟨rfl, hc1⟩
  have HC1 := Lib.hid hc1
  clear hc1
  go_wp2_with fail
  refine (HPp.out _).mono ?_
  rintro e w2 ⟨rfl, rfl⟩
  go_wp2_with fail
  refine (HPf.out _).mono ?_
  rintro e w3 ⟨rfl, rfl⟩
  go_wp2_with fail
  refine (HPt.out _).mono ?_
  rintro e w4 ⟨rfl, rfl⟩
  go_wp2_with fail
  refine (HM1.out _).mono ?_
  rintro e w5 ⟨rfl, hc5⟩
  have HC5 := Lib.hid (HC1.out.no hc5)
  clear hc5
  go_wp2_with fail
  refine (HM2.out _).mono ?_
  rintro e w6 ⟨rfl, hc6⟩
  have HC6 := Lib.hid (HC5.out.no hc6)
  clear hc6
  go_wp2_with fail
  refine (HR1.out _).mono ?_
  rintro e w7 ⟨rfl, hc7⟩
  have HC7 := Lib.hid (HC6.out.no hc7)
  clear hc7
  go_wp2_with fail
  refine (HR2.out _).mono ?_
  rintro e w8 ⟨rfl, hc8⟩
  have HC8 := Lib.hid (HC7.out.no hc8)
  clear hc8
  go_wp2_with fail
  refine (HIN.out _).mono ?_
  rintro e w9 ⟨rfl, hc9⟩
  have HC9 := Lib.hid (HC8.out.no hc9)
  clear hc9
  go_wp2_with fail
  refine (wakes4_calls _).mono ?_
  rintro e w10 ⟨rfl, hc10⟩
  have HC10 := Lib.hid (HC9.out.no hc10)
  clear hc10
  go_wp2
  go_ret
  exact ⟨rfl, HC10.out⟩
theorem nameMoves_walk (w : World) (s1 : ByteArray) (hs1 : s1.size ≤ 140737488351232) (s2 : ByteArray) (hs2 : s2.size ≤ 140737488351232) (s3 : ByteArray) (hs3 : s3.size ≤ 140737488351232) : Calls Tryd.prog 6 #[.string s1, .string s2, .string s3] w fun e w' => e = .returned (.bool true) ∧ Below w.heap.size w w' :=
  (nameMoves_core w s1 s2 s3 hs1 hs2 hs3).mono fun _ _ h => ⟨h.1, h.2.below⟩
end Go.Proofs.YtkjbbidnpnecjaaDoor
