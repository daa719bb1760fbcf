/-
  NameOrder: the walk.
-/
import Derived.Test.YtkjbbidnpnecjaaDoorNm14
import Derived.Test.YtkjbbidnpnecjaaDoorRn
import Derived.Deep.DeepCutAuto
namespace Go.Proofs.YtkjbbidnpnecjaaDoor
open Go.RowKit
set_option linter.unusedVariables false
set_option linter.unusedSimpArgs false
set_option maxRecDepth 100000

set_option maxHeartbeats 64000000 in
theorem nameOrder_core (w : World) (s1 : ByteArray) (s2 : ByteArray) (s3 : ByteArray) (hs1 : s1.size ≤ 140737488351232) (hs2 : s2.size ≤ 140737488351232) (hs3 : s3.size ≤ 140737488351232) : Calls Tryd.prog 12 #[.string s1, .string s2, .string s3] w fun e w' => e = .returned (.bool true) ∧ Chg No w w' := by
  have HPa := Lib.hid fun W => cut_calls W s1 (by omega)
  have la : Hid ((cutL s1.data.toList).length ≤ 4096) := by have := cutL_len s1.data.toList; rw [Hid]; omega
  have HPb := Lib.hid fun W => cut_calls W s2 (by omega)
  have lb : Hid ((cutL s2.data.toList).length ≤ 4096) := by have := cutL_len s2.data.toList; rw [Hid]; omega
  have HPc := Lib.hid fun W => cut_calls W s3 (by omega)
  have lc : Hid ((cutL s3.data.toList).length ≤ 4096) := by have := cutL_len s3.data.toList; rw [Hid]; omega
  generalize cutL s1.data.toList = a at *
  generalize cutL s2.data.toList = b at *
  generalize cutL s3.data.toList = c at *
  have HXY := Lib.hid fun W => compare_calls W a b (by have := la.out; omega) (by have := lb.out; omega)
  have HYZ := Lib.hid fun W => compare_calls W b c (by have := lb.out; omega) (by have := lc.out; omega)
  have HXZ := Lib.hid fun W => compare_calls W a c (by have := la.out; omega) (by have := lc.out; omega)
  have HYX := Lib.hid fun W => compare_calls W b a (by have := lb.out; omega) (by have := la.out; omega)
  rw [compF_ord.neg a b] at HYX
  have HIN : Hid (∀ W, Calls Tryd.prog 26 #[.string (mkS a), .string (mkS b)] W fun e w' => e = .returned (.bool (inB a b)) ∧ Chg No W w') := fun W => in_calls W a b (by have := la.out; omega) (by have := lb.out; omega)
  have HCM := Lib.hid fun W => common_calls W a c (by have := la.out; omega) (by have := lc.out; omega)
  have HIC : Hid (compF a b < 0 → compF b c < 0 → isP c = true → ∀ W, Calls Tryd.prog 26 #[.string (mkS b), .string (mkS (commonF a c))] W fun e w' => e = .returned (.bool true) ∧ Chg No W w') := fun h1 h2 h3 W => by
    obtain ⟨g1, g2⟩ := comp_mid h1 h2 h3
    have : Calls Tryd.prog 26 #[.string (mkS b), .string (mkS (commonF a c))] W fun e w' => e = .returned (.bool (inB b (commonF a c))) ∧ Chg No W w' := in_calls W b (commonF a c) (by have := lb.out; omega) (by omega)
    rwa [g1] at this
  have HPA : Hid (∀ W, _) := fun W => path_calls W (mkS a) (by rw [mkS_size]; have := la.out; omega)
  have HPB : Hid (∀ W, _) := fun W => path_calls W (mkS b) (by rw [mkS_size]; have := lb.out; omega)
  have HPC : Hid (∀ W, _) := fun W => path_calls W (mkS c) (by rw [mkS_size]; have := lc.out; omega)
  rw [mkS_list] at HPA HPB HPC
  have HCT := Lib.hid fun W => Tryd.strings_Contains_one (mkS a ++ mkS b) 47 W
  have hab : (mkS a ++ mkS b).data.toList = a ++ b := by rw [← mkS_append, mkS_list]
  rw [hab] at HCT
  have HSC := Lib.hid fun W => Tryd.strings_Compare (mkS a) (mkS b) W
  rw [mkS_list, mkS_list] at HSC
  have K8 : Hid (isP a = true → isP b = true → decide (0 ≤ Lib.indexByte (a ++ b) 47) = false → compF a b = Lib.compareBytes a b) := fun h1 h2 h3 => by
    have := idx_none _ _ h3
    exact comp_flat h1 h2 (fun h => this (by simp [h])) (fun h => this (by simp [h]))
  have hsz : ((mkS a).size : Int) + ((mkS b).size : Int) ≤ 9223372036854775807 := by rw [mkS_size, mkS_size]; have := la.out; have := lb.out; omega
  have KX : Hid (((mkS a).toList == (mkS b).toList) = (compF a b == 0)) := by
    rw [Hid, Lib.toList_data, Lib.toList_data, mkS_list, mkS_list, Bool.eq_iff_iff, beq_iff_eq, beq_iff_eq]
    exact (compF_ord.zero a b).symm
  have RX : Hid (compF a b = -1 ∨ compF a b = 0 ∨ compF a b = 1) := compF_ord.range a b
  have RY : Hid (compF b c = -1 ∨ compF b c = 0 ∨ compF b c = 1) := compF_ord.range b c
  have T1 : Hid (compF a b ≤ 0 → compF b c ≤ 0 → compF a c ≤ 0) := compF_ord.trans a b c
  have T2 : Hid (0 ≤ compF a b → 0 ≤ compF b c → 0 ≤ compF a c) := fun h1 h2 => by
    have e1 := compF_ord.neg a b
    have e2 := compF_ord.neg b c
    have e3 := compF_ord.neg a c
    have := compF_ord.trans c b a (by omega) (by omega)
    omega
  have KI : Hid (inB a b = true → 0 ≤ compF a b) := comp_in
  have KA : Hid (isP a = true ↔ (pathF a).1 = 0) := isP_iff a
  have KB : Hid (isP b = true ↔ (pathF b).1 = 0) := isP_iff b
  have KC : Hid (isP c = true ↔ (pathF c).1 = 0) := isP_iff c
  clear hab
  generalize compF a b = x at *
  generalize compF b c = y at *
  generalize compF a c = z at *
  generalize Lib.compareBytes a b = cb at *
  generalize decide (0 ≤ Lib.indexByte (a ++ b) 47) = sl at *
  generalize inB a b = ib at *
  generalize isP a = A at *
  generalize isP b = B at *
  generalize isP c = C at *
  obtain ⟨⟨za, zza⟩, hza⟩ : ∃ z, pathF a = z := ⟨_, rfl⟩
  rw [hza] at HPA KA
  obtain ⟨⟨zb, zzb⟩, hzb⟩ : ∃ z, pathF b = z := ⟨_, rfl⟩
  rw [hzb] at HPB KB
  obtain ⟨⟨zc, zzc⟩, hzc⟩ : ∃ z, pathF c = z := ⟨_, rfl⟩
  rw [hzc] at HPC KC
  simp only at KA KB KC
  unfold spotV at HPA HPB HPC
  clear hza hzb hzc
  generalize commonF a c = com at *
  generalize mkS a = xa at *
  generalize mkS b = xb at *
  generalize mkS c = xc at *
  generalize mkS com = xcom at *
  have hfa : ∀ W, Sem.run Tryd.prog (Instr.field 26 (.agg #[.int .i64 za, .int .i64 zza]) 0) W = .ok (.int .i64 za) W := fun _ => rfl
  have hfb : ∀ W, Sem.run Tryd.prog (Instr.field 26 (.agg #[.int .i64 zb, .int .i64 zzb]) 0) W = .ok (.int .i64 zb) W := fun _ => rfl
  have hfc : ∀ W, Sem.run Tryd.prog (Instr.field 26 (.agg #[.int .i64 zc, .int .i64 zzc]) 0) W = .ok (.int .i64 zc) W := fun _ => rfl
  go_enter Tryd.func12, Tryd.ntmps12
  go_wp2_with fail
  refine (wakes4_calls _).mono ?_
  rintro e w1 ⟨rfl, hc1⟩
  have HC1 := Lib.hid hc1
  clear hc1
  go_wp2_with fail
  refine (HPa.out _).mono ?_
  rintro e w2 ⟨rfl, rfl⟩
  go_wp2_with fail
  refine (HPb.out _).mono ?_
  rintro e w3 ⟨rfl, rfl⟩
  go_wp2_with fail
  refine (HPc.out _).mono ?_
  rintro e w4 ⟨rfl, rfl⟩
  go_wp2_with fail
  refine (HXY.out _).mono ?_
  rintro e w5 ⟨rfl, hc5⟩
  have HC5 := Lib.hid (HC1.out.no hc5)
  clear hc5
  go_wp2_with fail
  refine (HYZ.out _).mono ?_
  rintro e w6 ⟨rfl, hc6⟩
  have HC6 := Lib.hid (HC5.out.no hc6)
  clear hc6
  go_wp2_with fail
  refine (HXZ.out _).mono ?_
  rintro e w7 ⟨rfl, hc7⟩
  have HC7 := Lib.hid (HC6.out.no hc7)
  clear hc7
  go_upto_region 5 with fail
  go_cut [71] (fun s71 wx => s71 = .bool false ∧ Hid (Chg No w wx))
  case first =>
    rcases RX.out with rfl | rfl | rfl
    · rcases RY.out with rfl | rfl | rfl
      · have hxe : (xa.toList == xb.toList) = false := by rw [KX.out]; rfl
        have hz1 : ¬ (0 : Int) < z := by have := T1.out (by decide) (by decide); omega
        have hz2 : decide ((0 : Int) < z) = false := decide_eq_false hz1
        have hz3 : z ≤ 0 := by omega
        go_wp2_with fail
        refine (HYX.out _).mono ?_
        rintro e w8 ⟨rfl, hc8⟩
        have HC8 := Lib.hid (HC7.out.no hc8)
        clear hc8
        go_wp2_with fail
        go_meet
        exact ⟨rfl, HC8.out⟩
      · have hxe : (xa.toList == xb.toList) = false := by rw [KX.out]; rfl
        have hz1 : ¬ (0 : Int) < z := by have := T1.out (by decide) (by decide); omega
        have hz2 : decide ((0 : Int) < z) = false := decide_eq_false hz1
        have hz3 : z ≤ 0 := by omega
        go_wp2_with fail
        refine (HYX.out _).mono ?_
        rintro e w8 ⟨rfl, hc8⟩
        have HC8 := Lib.hid (HC7.out.no hc8)
        clear hc8
        go_wp2_with fail
        go_meet
        exact ⟨rfl, HC8.out⟩
      · have hxe : (xa.toList == xb.toList) = false := by rw [KX.out]; rfl
        go_wp2_with fail
        refine (HYX.out _).mono ?_
        rintro e w8 ⟨rfl, hc8⟩
        have HC8 := Lib.hid (HC7.out.no hc8)
        clear hc8
        go_wp2_with fail
        go_meet
        exact ⟨rfl, HC8.out⟩
    · rcases RY.out with rfl | rfl | rfl
      · have hxe : (xa.toList == xb.toList) = true := by rw [KX.out]; rfl
        have hz1 : ¬ (0 : Int) < z := by have := T1.out (by decide) (by decide); omega
        have hz2 : decide ((0 : Int) < z) = false := decide_eq_false hz1
        have hz3 : z ≤ 0 := by omega
        go_wp2_with fail
        refine (HYX.out _).mono ?_
        rintro e w8 ⟨rfl, hc8⟩
        have HC8 := Lib.hid (HC7.out.no hc8)
        clear hc8
        go_wp2_with fail
        go_meet
        exact ⟨rfl, HC8.out⟩
      · have hxe : (xa.toList == xb.toList) = true := by rw [KX.out]; rfl
        have hz1 : ¬ (0 : Int) < z := by have := T1.out (by decide) (by decide); omega
        have hz2 : decide ((0 : Int) < z) = false := decide_eq_false hz1
        have hz3 : z ≤ 0 := by omega
        have hy1 : ¬ z < (0 : Int) := by have := T2.out (by decide) (by decide); omega
        have hy2 : decide (z < (0 : Int)) = false := decide_eq_false hy1
        have hy3 : 0 ≤ z := by omega
        go_wp2_with fail
        refine (HYX.out _).mono ?_
        rintro e w8 ⟨rfl, hc8⟩
        have HC8 := Lib.hid (HC7.out.no hc8)
        clear hc8
        go_wp2_with fail
        go_meet
        exact ⟨rfl, HC8.out⟩
      · have hxe : (xa.toList == xb.toList) = true := by rw [KX.out]; rfl
        have hy1 : ¬ z < (0 : Int) := by have := T2.out (by decide) (by decide); omega
        have hy2 : decide (z < (0 : Int)) = false := decide_eq_false hy1
        have hy3 : 0 ≤ z := by omega
        go_wp2_with fail
        refine (HYX.out _).mono ?_
        rintro e w8 ⟨rfl, hc8⟩
        have HC8 := Lib.hid (HC7.out.no hc8)
        clear hc8
        go_wp2_with fail
        go_meet
        exact ⟨rfl, HC8.out⟩
    · rcases RY.out with rfl | rfl | rfl
      · have hxe : (xa.toList == xb.toList) = false := by rw [KX.out]; rfl
        go_wp2_with fail
        refine (HYX.out _).mono ?_
        rintro e w8 ⟨rfl, hc8⟩
        have HC8 := Lib.hid (HC7.out.no hc8)
        clear hc8
        go_wp2_with fail
        go_meet
        exact ⟨rfl, HC8.out⟩
      · have hxe : (xa.toList == xb.toList) = false := by rw [KX.out]; rfl
        have hy1 : ¬ z < (0 : Int) := by have := T2.out (by decide) (by decide); omega
        have hy2 : decide (z < (0 : Int)) = false := decide_eq_false hy1
        have hy3 : 0 ≤ z := by omega
        go_wp2_with fail
        refine (HYX.out _).mono ?_
        rintro e w8 ⟨rfl, hc8⟩
        have HC8 := Lib.hid (HC7.out.no hc8)
        clear hc8
        go_wp2_with fail
        go_meet
        exact ⟨rfl, HC8.out⟩
      · have hxe : (xa.toList == xb.toList) = false := by rw [KX.out]; rfl
        have hy1 : ¬ z < (0 : Int) := by have := T2.out (by decide) (by decide); omega
        have hy2 : decide (z < (0 : Int)) = false := decide_eq_false hy1
        have hy3 : 0 ≤ z := by omega
        go_wp2_with fail
        refine (HYX.out _).mono ?_
        rintro e w8 ⟨rfl, hc8⟩
        have HC8 := Lib.hid (HC7.out.no hc8)
        clear hc8
        go_wp2_with fail
        go_meet
        exact ⟨rfl, HC8.out⟩
  case rest =>
  obtain ⟨rfl, HW5⟩ := hcut
  go_upto_region 7 with fail
  go_cut [78] (fun s78 wx => s78 = .bool false ∧ Hid (Chg No w wx))
  case first =>
    cases ib with
    | false =>
      go_wp2_with fail
      refine (HIN.out _).mono ?_
      rintro e w101 ⟨rfl, hc101⟩
      have HC101 := Lib.hid (HW5.out.no hc101)
      clear hc101
      go_wp2_with fail
      go_meet
      exact ⟨rfl, HC101.out⟩
    | true =>
      have hx0 : ¬ x < 0 := by have := KI.out rfl; omega
      have hx1 : decide (x < 0) = false := decide_eq_false hx0
      have hx2 : 0 ≤ x := by omega
      go_wp2_with fail
      refine (HIN.out _).mono ?_
      rintro e w101 ⟨rfl, hc101⟩
      have HC101 := Lib.hid (HW5.out.no hc101)
      clear hc101
      go_wp2_with fail
      go_meet
      exact ⟨rfl, HC101.out⟩
  case rest =>
  obtain ⟨rfl, HW7⟩ := hcut
  go_upto_region 9 with fail
  go_cut [84] (fun s84 wx => s84 = .bool (decide (x < 0 ∧ y < 0)) ∧ Hid (Chg No w wx))
  case first =>
    by_cases h1 : x < 0
    · have h1d : decide (x < 0) = true := decide_eq_true h1
      by_cases h2 : y < 0
      · have h2d : decide (y < 0) = true := decide_eq_true h2
        have HD : Hid (decide (x < 0 ∧ y < 0) = true) := decide_eq_true ⟨h1, h2⟩
        go_wp2_with fail
        go_meet
        exact ⟨by rw [HD.out], HW7.out⟩
      · have h2d : decide (y < 0) = false := decide_eq_false h2
        have HD : Hid (decide (x < 0 ∧ y < 0) = false) := decide_eq_false (fun h => h2 h.2)
        go_wp2_with fail
        go_meet
        exact ⟨by rw [HD.out], HW7.out⟩
    · have h1d : decide (x < 0) = false := decide_eq_false h1
      have HD : Hid (decide (x < 0 ∧ y < 0) = false) := decide_eq_false (fun h => h1 h.1)
      go_wp2_with fail
      go_meet
      exact ⟨by rw [HD.out], HW7.out⟩
  case rest =>
  obtain ⟨rfl, HW9⟩ := hcut
  generalize hbb : decide (x < 0 ∧ y < 0) = bb at *
  have HBB := Lib.hid hbb
  clear hbb
  go_upto_if 84 with fail
  go_cut [] (fun wx => Hid (Chg No w wx))
  case first =>
    cases bb with
    | false =>
      go_wp2_with fail
      go_meet
      exact HW9.out
    | true =>
      have hxn : x < 0 ∧ y < 0 := of_decide_eq_true HBB.out
      have HXN := Lib.hid hxn
      clear hxn
      cases C with
      | false =>
        have hzc : (zc == 0) = false := by simp only [beq_eq_false_iff_ne, ne_eq]; exact fun h => absurd (KC.out.2 h) (by decide)
        go_wp2_with fail
        refine (HCM.out _).mono ?_
        rintro e w201 ⟨rfl, hc201⟩
        have HC201 := Lib.hid (HW9.out.no hc201)
        clear hc201
        go_wp2_with fail
        refine (HPC.out _).mono ?_
        rintro e w202 ⟨rfl, hc202⟩
        have HC202 := Lib.hid (HC201.out.no hc202)
        clear hc202
        go_wp2_with fail
        go_meet
        exact HC202.out
      | true =>
        have hzc : (zc == 0) = true := by rw [KC.out.1 rfl]; rfl
        have HICx := Lib.hid (HIC.out HXN.out.1 HXN.out.2 rfl)
        go_wp2_with fail
        refine (HCM.out _).mono ?_
        rintro e w201 ⟨rfl, hc201⟩
        have HC201 := Lib.hid (HW9.out.no hc201)
        clear hc201
        go_wp2_with fail
        refine (HPC.out _).mono ?_
        rintro e w202 ⟨rfl, hc202⟩
        have HC202 := Lib.hid (HC201.out.no hc202)
        clear hc202
        go_wp2_with fail
        refine (HICx.out _).mono ?_
        rintro e w203 ⟨rfl, hc203⟩
        have HC203 := Lib.hid (HC202.out.no hc203)
        clear hc203
        go_wp2_with fail
        go_meet
        exact HC203.out
  case rest =>
  have HW11 : Hid (Chg No w _) := hcut
  clear hcut
  go_upto_region 13 with fail
  go_cut [121] (fun s121 wx => s121 = .bool false ∧ Hid (Chg No w wx))
  case first =>
    cases A with
    | false =>
      have hza : (za == 0) = false := by (simp only [beq_eq_false_iff_ne, ne_eq]; exact fun h => absurd (KA.out.2 h) (by decide))
      go_wp2_with fail
      refine (HPA.out _).mono ?_
      rintro e w301 ⟨rfl, hc301⟩
      have HC301 := Lib.hid (HW11.out.no hc301)
      clear hc301
      go_wp2_with fail
      go_meet
      exact ⟨rfl, HC301.out⟩
    | true =>
      cases B with
      | false =>
        have hza : (za == 0) = true := by rw [KA.out.1 rfl]; rfl
        have hzb : (zb == 0) = false := by (simp only [beq_eq_false_iff_ne, ne_eq]; exact fun h => absurd (KB.out.2 h) (by decide))
        go_wp2_with fail
        refine (HPA.out _).mono ?_
        rintro e w301 ⟨rfl, hc301⟩
        have HC301 := Lib.hid (HW11.out.no hc301)
        clear hc301
        go_wp2_with fail
        refine (HPB.out _).mono ?_
        rintro e w302 ⟨rfl, hc302⟩
        have HC302 := Lib.hid (HC301.out.no hc302)
        clear hc302
        go_wp2_with fail
        go_meet
        exact ⟨rfl, HC302.out⟩
      | true =>
        cases sl with
        | false =>
          have hza : (za == 0) = true := by rw [KA.out.1 rfl]; rfl
          have hzb : (zb == 0) = true := by rw [KB.out.1 rfl]; rfl
          have hcb := K8.out rfl rfl rfl
          subst hcb
          go_wp2_with fail
          refine (HPA.out _).mono ?_
          rintro e w301 ⟨rfl, hc301⟩
          have HC301 := Lib.hid (HW11.out.no hc301)
          clear hc301
          go_wp2_with fail
          refine (HPB.out _).mono ?_
          rintro e w302 ⟨rfl, hc302⟩
          have HC302 := Lib.hid (HC301.out.no hc302)
          clear hc302
          go_wp2_with fail
          refine (HCT.out _).mono ?_
          rintro e w303 ⟨rfl, hw⟩
          obtain rfl := hw
          go_wp2_with fail
          refine (HSC.out _).mono ?_
          rintro e w304 ⟨rfl, hw⟩
          obtain rfl := hw
          go_wp2_with fail
          go_meet
          exact ⟨rfl, HC302.out⟩
        | true =>
          have hza : (za == 0) = true := by rw [KA.out.1 rfl]; rfl
          have hzb : (zb == 0) = true := by rw [KB.out.1 rfl]; rfl
          go_wp2_with fail
          refine (HPA.out _).mono ?_
          rintro e w301 ⟨rfl, hc301⟩
          have HC301 := Lib.hid (HW11.out.no hc301)
          clear hc301
          go_wp2_with fail
          refine (HPB.out _).mono ?_
          rintro e w302 ⟨rfl, hc302⟩
          have HC302 := Lib.hid (HC301.out.no hc302)
          clear hc302
          go_wp2_with fail
          refine (HCT.out _).mono ?_
          rintro e w303 ⟨rfl, hw⟩
          obtain rfl := hw
          go_wp2_with fail
          go_meet
          exact ⟨rfl, HC302.out⟩
  case rest =>
  obtain ⟨rfl, HW13⟩ := hcut
  go_wp2_with fail
  refine (wakes4_calls _).mono ?_
  rintro e w401 ⟨rfl, hc401⟩
  have HC401 := Lib.hid (HW13.out.no hc401)
  clear hc401
  go_wp2
  go_ret
  exact ⟨rfl, HC401.out⟩
theorem nameOrder_walk (w : World) (s1 : ByteArray) (hs1 : s1.size ≤ 140737488351232) (s2 : ByteArray) (hs2 : s2.size ≤ 140737488351232) (s3 : ByteArray) (hs3 : s3.size ≤ 140737488351232) : Calls Tryd.prog 12 #[.string s1, .string s2, .string s3] w fun e w' => e = .returned (.bool true) ∧ Below w.heap.size w w' :=
  (nameOrder_core w s1 s2 s3 hs1 hs2 hs3).mono fun _ _ h => ⟨h.1, h.2.below⟩
end Go.Proofs.YtkjbbidnpnecjaaDoor
