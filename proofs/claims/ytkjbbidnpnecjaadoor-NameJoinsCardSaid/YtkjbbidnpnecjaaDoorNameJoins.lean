/-
  NameJoins: the walk.
-/
import Derived.Test.YtkjbbidnpnecjaaDoorNm10
import Derived.Test.YtkjbbidnpnecjaaDoorNm11
namespace Go.Proofs.YtkjbbidnpnecjaaDoor
open Go.RowKit
set_option linter.unusedVariables false
set_option linter.unusedSimpArgs false
set_option maxRecDepth 100000

set_option maxHeartbeats 6400000 in
theorem nameJoins_core (w : World) (s1 : ByteArray) (s2 : ByteArray) (hs1 : s1.size ≤ 140737488351232) (hs2 : s2.size ≤ 140737488351232) : Calls Tryd.prog 8 #[.string s1, .string s2] w fun e w' => e = .returned (.bool true) ∧ Chg No w w' := by
  have HPp := Lib.hid fun W => cut_calls W s1 (by omega)
  have hlp : Hid ((cutL s1.data.toList).length ≤ 9223372036854775807) := by have := cutL_len s1.data.toList; rw [Hid]; omega
  have HPq := Lib.hid fun W => cut_calls W s2 (by omega)
  have hlq : Hid ((cutL s2.data.toList).length ≤ 9223372036854775807) := by have := cutL_len s2.data.toList; rw [Hid]; omega
  generalize cutL s1.data.toList = p at *
  generalize cutL s2.data.toList = q at *
  have HJ1 : Hid (∀ W, _) := fun W => namejoin_calls W p q hlp.out hlq.out
  have HJ2 : Hid (∀ W, _) := fun W => refjoin_calls W p q hlp.out hlq.out
  have HD : Hid (∀ W, _) := fun W => dir_calls W p hlp.out
  have HRP : Hid (∀ W, _) := fun W => refpath_calls W (mkS p) (by rw [mkS_size]; exact hlp.out)
  have HRS : Hid ((pathF p).1 = 0 → ∀ W, _) := fun h W => refparts_calls W (mkS p) (by rw [mkS_size]; have := path_len h; omega)
  rw [mkS_list] at HRP HRS
  obtain ⟨⟨js, je⟩, hj⟩ : ∃ z, joinF p q = z := ⟨_, rfl⟩
  rw [hj] at HJ1 HJ2
  have HF : Hid (dirF p = if (pathF p).1 ≠ 0 then ([], [], (pathF p).1) else if partsL p = [] then ([], [], 141) else (joinL ((partsL p).take ((partsL p).length - 1)), (partsL p).getD ((partsL p).length - 1) [], 0)) := rfl
  have HFT : Hid ((pathF p).1 = 0 → Fit (partsL p)) := fit_parts
  clear hj
  simp only at HJ1 HJ2
  generalize mkS js = js at *
  generalize mkS p = xp at *
  generalize mkS q = xq at *
  generalize dirF p = D at *
  generalize partsL p = L at *
  obtain ⟨⟨z, zz⟩, hz⟩ : ∃ y, pathF p = y := ⟨_, rfl⟩
  rw [hz] at HRP HRS HF HFT
  unfold spotV at HRP
  simp only at HRS HF HFT
  clear hz
  have hf0 : ∀ W, Sem.run Tryd.prog (Instr.field 26 (.agg #[.int .i64 z, .int .i64 zz]) 0) W = .ok (.int .i64 z) W := fun _ => rfl
  by_cases h0 : z = 0
  · have HRS := Lib.hid (HRS.out h0)
    have HFT := Lib.hid (HFT.out h0)
    have hb : (z != 0) = false := by rw [h0]; rfl
    have HF : Hid (D = if L = [] then ([], [], 141) else (joinL (L.take (L.length - 1)), L.getD (L.length - 1) [], 0)) := by rw [Hid, HF.out, if_neg (by simpa using h0)]
    clear h0
    by_cases hL : L = []
    · have HF : Hid (D = ([], [], 141)) := by rw [Hid, HF.out, if_pos hL]
      rw [HF.out] at HD
      have HD : Hid (∀ W, Calls Tryd.prog 30 #[.string xp] W fun e w' => e = .returned (.tuple #[.string ⟨#[]⟩, .string ⟨#[]⟩, .int .i64 141]) ∧ Chg No W w') := HD.out
      subst hL
      go_enter Tryd.func8, Tryd.ntmps8
      go_wp2_with fail
      refine (wakes4_calls _).mono ?_
      rintro e w1 ⟨rfl, hc1⟩
      have HC1 := Lib.hid hc1
      clear hc1
      go_wp2_with fail
      refine (HPp.out _).mono ?_
      rintro e w2 ⟨rfl, rfl⟩
      go_wp2_with fail
      refine (HPq.out _).mono ?_
      rintro e w3 ⟨rfl, rfl⟩
      go_wp2_with fail
      refine (HJ1.out _).mono ?_
      rintro e w4 ⟨rfl, hc4⟩
      have HC4 := Lib.hid (HC1.out.no hc4)
      clear hc4
      go_wp2_with fail
      refine (HJ2.out _).mono ?_
      rintro e w5 ⟨rfl, hc5⟩
      have HC5 := Lib.hid (HC4.out.no hc5)
      clear hc5
      go_wp2_with fail
      refine (HD.out _).mono ?_
      rintro e w6 ⟨rfl, hc6⟩
      have HC6 := Lib.hid (HC5.out.no hc6)
      clear hc6
      go_wp2_with fail
      refine (HRP.out _).mono ?_
      rintro e w7 ⟨rfl, hc7⟩
      have HC7 := Lib.hid (HC6.out.no hc7)
      clear hc7
      go_wp2_with fail
      refine (HRS.out _).mono ?_
      rintro e w8 ⟨A, n, c, rfl, hl, ho, hc8⟩
      have HC8 := Lib.hid (HC7.out.no hc8)
      obtain rfl : 0 = n := hl
      clear hc8 ho
      go_wp2_with fail
      refine (wakes4_calls _).mono ?_
      rintro e w9 ⟨rfl, hc9⟩
      have HC9 := Lib.hid (HC8.out.no hc9)
      clear hc9
      go_wp2
      go_ret
      exact ⟨rfl, HC9.out⟩
    · have HF : Hid (D = (joinL (L.take (L.length - 1)), L.getD (L.length - 1) [], 0)) := by rw [Hid, HF.out, if_neg hL]
      rw [HF.out] at HD
      have HD : Hid (∀ W, Calls Tryd.prog 30 #[.string xp] W fun e w' => e = .returned (.tuple #[.string (mkS (joinL (L.take (L.length - 1)))), .string (mkS (L.getD (L.length - 1) [])), .int .i64 0]) ∧ Chg No W w') := HD.out
      have hl1 : 1 ≤ L.length := List.length_pos_iff.2 hL
      obtain ⟨m, hm⟩ : ∃ m, L.length = m + 1 := ⟨L.length - 1, by omega⟩
      have HT : Hid (Fit (L.take m)) := HFT.out.pre (List.take_prefix _ _)
      have hm16 : m + 1 ≤ 16 := by have := HFT.out.2.1; omega
      rw [hm, Nat.add_sub_cancel] at HD
      have HM := Lib.hid hm
      have HG : Hid (∀ h : m < L.length, L[m] = L.getD m []) := fun h => by rw [List.getD, List.getElem?_eq_getElem h]; rfl
      clear hL hl1 hm
      generalize L.getD m [] = ld at *
      have HMK : Hid (makeF (L.take m) = (joinL (L.take m), 0)) := make_fit HT.out
      have HX : Hid (∀ x ∈ L.take m, x.length ≤ 9223372036854775807) := fun x hx => by have := (spot_len (HT.out.1 x hx)).2; omega
      go_enter Tryd.func8, Tryd.ntmps8
      go_wp2_with fail
      refine (wakes4_calls _).mono ?_
      rintro e w1 ⟨rfl, hc1⟩
      have HC1 := Lib.hid hc1
      clear hc1
      go_wp2_with fail
      refine (HPp.out _).mono ?_
      rintro e w2 ⟨rfl, rfl⟩
      go_wp2_with fail
      refine (HPq.out _).mono ?_
      rintro e w3 ⟨rfl, rfl⟩
      go_wp2_with fail
      refine (HJ1.out _).mono ?_
      rintro e w4 ⟨rfl, hc4⟩
      have HC4 := Lib.hid (HC1.out.no hc4)
      clear hc4
      go_wp2_with fail
      refine (HJ2.out _).mono ?_
      rintro e w5 ⟨rfl, hc5⟩
      have HC5 := Lib.hid (HC4.out.no hc5)
      clear hc5
      go_wp2_with fail
      refine (HD.out _).mono ?_
      rintro e w6 ⟨rfl, hc6⟩
      have HC6 := Lib.hid (HC5.out.no hc6)
      clear hc6
      go_wp2_with fail
      refine (HRP.out _).mono ?_
      rintro e w7 ⟨rfl, hc7⟩
      have HC7 := Lib.hid (HC6.out.no hc7)
      clear hc7
      go_wp2_with fail
      refine (HRS.out _).mono ?_
      rintro e w8 ⟨A, n, c, rfl, hl, ho, hc8⟩
      have HC8 := Lib.hid (HC7.out.no hc8)
      obtain rfl : m + 1 = n := by rw [← hl]; exact HM.out.symm
      have HSL := Lib.hid (ho.sl hl)
      clear hc8 ho hl
      have hcc : m + 1 ≤ c := by
        obtain ⟨A', c', he, h2, h3, -⟩ := HSL.out
        simp only [Value.slice.injEq] at he
        have := HM.out
        omega
      have hcm1 : (m : Int) ≤ (c : Int) := by omega
      have hlt0 : ((m : Int) + 1 == 0) = false := by simp; omega
      have HTK := Lib.hid (HSL.out.take (k := m) (m := c) (by omega) (by omega) (Nat.le_refl _))
      have HMC := Lib.hid (refmake_calls w8 A m c (L.take m) HTK.out (by omega) HX.out)
      rw [HMK.out] at HMC
      have HMC : Hid (Calls Tryd.prog 20 #[.slice A m c] w8 fun e w' => e = .returned (.tuple #[.string (mkS (joinL (L.take m))), .int .i64 0]) ∧ Chg No w8 w') := HMC.out
      obtain ⟨b0, o0, rfl, hcell⟩ := HSL.out.addr (by rw [HM.out]; omega)
      have hcm := hcell m (by rw [HM.out]; omega)
      rw [strv_text, HG.out] at hcm
      clear hcell
      generalize joinL (L.take m) = j at *
      generalize mkS j = sj at *
      generalize mkS ld = sl at *
      go_wp2_with fail
      refine HMC.out.mono ?_
      rintro e w9 ⟨rfl, hc9⟩
      have HC9 := Lib.hid (HC8.out.no hc9)
      have hcm9 := hc9.cell hcm (fun x => x)
      clear hc9
      go_wp2_with fail
      refine (wakes4_calls _).mono ?_
      rintro e w10 ⟨rfl, hc10⟩
      have HC10 := Lib.hid (HC9.out.no hc10)
      clear hc10
      go_wp2
      go_ret
      exact ⟨rfl, HC10.out⟩
  · have hb : (z != 0) = true := by simpa using h0
    rw [HF.out, if_pos (by simpa using h0)] at HD
    have HD : Hid (∀ W, Calls Tryd.prog 30 #[.string xp] W fun e w' => e = .returned (.tuple #[.string ⟨#[]⟩, .string ⟨#[]⟩, .int .i64 z]) ∧ Chg No W w') := HD.out
    clear h0
    go_enter Tryd.func8, Tryd.ntmps8
    go_wp2_with fail
    refine (wakes4_calls _).mono ?_
    rintro e w1 ⟨rfl, hc1⟩
    have HC1 := Lib.hid hc1
    clear hc1
    go_wp2_with fail
    refine (HPp.out _).mono ?_
    rintro e w2 ⟨rfl, rfl⟩
    go_wp2_with fail
    refine (HPq.out _).mono ?_
    rintro e w3 ⟨rfl, rfl⟩
    go_wp2_with fail
    refine (HJ1.out _).mono ?_
    rintro e w4 ⟨rfl, hc4⟩
    have HC4 := Lib.hid (HC1.out.no hc4)
    clear hc4
    go_wp2_with fail
    refine (HJ2.out _).mono ?_
    rintro e w5 ⟨rfl, hc5⟩
    have HC5 := Lib.hid (HC4.out.no hc5)
    clear hc5
    go_wp2_with fail
    refine (HD.out _).mono ?_
    rintro e w6 ⟨rfl, hc6⟩
    have HC6 := Lib.hid (HC5.out.no hc6)
    clear hc6
    go_wp2_with fail
    refine (HRP.out _).mono ?_
    rintro e w7 ⟨rfl, hc7⟩
    have HC7 := Lib.hid (HC6.out.no hc7)
    clear hc7
    go_wp2_with fail
    refine (wakes4_calls _).mono ?_
    rintro e w8 ⟨rfl, hc8⟩
    have HC8 := Lib.hid (HC7.out.no hc8)
    clear hc8
    go_wp2
    go_ret
    exact ⟨rfl, HC8.out⟩
theorem nameJoins_walk (w : World) (s1 : ByteArray) (hs1 : s1.size ≤ 140737488351232) (s2 : ByteArray) (hs2 : s2.size ≤ 140737488351232) : Calls Tryd.prog 8 #[.string s1, .string s2] w fun e w' => e = .returned (.bool true) ∧ Below w.heap.size w w' :=
  (nameJoins_core w s1 s2 hs1 hs2).mono fun _ _ h => ⟨h.1, h.2.below⟩
end Go.Proofs.YtkjbbidnpnecjaaDoor
