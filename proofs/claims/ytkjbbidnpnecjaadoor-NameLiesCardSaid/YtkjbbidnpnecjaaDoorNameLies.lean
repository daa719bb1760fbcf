/-
  NameLies: the walk.
-/
import Derived.Test.YtkjbbidnpnecjaaDoorNm12
namespace Go.Proofs.YtkjbbidnpnecjaaDoor
open Go.RowKit
set_option linter.unusedVariables false
set_option linter.unusedSimpArgs false
set_option maxRecDepth 100000

set_option maxHeartbeats 64000000 in
theorem nameLies_core (w : World) (s1 : ByteArray) (s2 : ByteArray) (s3 : ByteArray) (hs1 : s1.size ≤ 140737488351232) (hs2 : s2.size ≤ 140737488351232) (hs3 : s3.size ≤ 140737488351232) : Calls Tryd.prog 7 #[.string s1, .string s2, .string s3] w fun e w' => e = .returned (.bool true) ∧ Chg No w w' := by
  have HPa := Lib.hid fun W => cut_calls W s1 (by omega)
  have la : Hid ((cutL s1.data.toList).length ≤ 9223372036854775807) := by have := cutL_len s1.data.toList; rw [Hid]; omega
  have HPb := Lib.hid fun W => cut_calls W s2 (by omega)
  have lb : Hid ((cutL s2.data.toList).length ≤ 9223372036854775807) := by have := cutL_len s2.data.toList; rw [Hid]; omega
  have HPc := Lib.hid fun W => cut_calls W s3 (by omega)
  have lc : Hid ((cutL s3.data.toList).length ≤ 9223372036854775807) := by have := cutL_len s3.data.toList; rw [Hid]; omega
  generalize cutL s1.data.toList = a at *
  generalize cutL s2.data.toList = b at *
  generalize cutL s3.data.toList = c at *
  have INN : Hid (∀ p q : List UInt8, p.length ≤ 9223372036854775807 → q.length ≤ 9223372036854775807 → ∀ W, Calls Tryd.prog 26 #[.string (mkS p), .string (mkS q)] W fun e w' => e = .returned (.bool (inB p q)) ∧ Chg No W w') := fun p q hp hq W => in_calls W p q hp hq
  have HAB := Lib.hid (INN.out a b la.out lb.out)
  have HBC := Lib.hid (INN.out b c lb.out lc.out)
  have HAC := Lib.hid (INN.out a c la.out lc.out)
  have HBA := Lib.hid (INN.out b a lb.out la.out)
  have HCB := Lib.hid (INN.out c b lc.out lb.out)
  have HAA : Hid (isP a = true → ∀ W, Calls Tryd.prog 26 #[.string (mkS a), .string (mkS a)] W fun e w' => e = .returned (.bool true) ∧ Chg No W w') := fun h W => by
    have := INN.out a a la.out la.out W
    rwa [in_self h] at this
  have HA0 : Hid (isP a = true → ∀ W, Calls Tryd.prog 26 #[.string (mkS a), .string ⟨#[]⟩] W fun e w' => e = .returned (.bool true) ∧ Chg No W w') := fun h W => by
    have := INN.out a [] la.out (by simp) W
    rwa [in_root h] at this
  have HPA : Hid (∀ W, _) := fun W => path_calls W (mkS a) (by rw [mkS_size]; exact la.out)
  have HPB : Hid (∀ W, _) := fun W => path_calls W (mkS b) (by rw [mkS_size]; exact lb.out)
  rw [mkS_list] at HPA HPB
  have HMV : Hid (∀ W, _) := fun W => move_calls W a b c la.out lb.out lc.out
  have HMB : Hid ((moveF a b c).2 = 0 → ∀ W, Calls Tryd.prog 23 #[.string (mkS (moveF a b c).1), .string (mkS c), .string (mkS b)] W fun e w' => e = .returned (.tuple #[.string (mkS a), .int .i64 0]) ∧ Chg No W w') := fun h W => by
    obtain ⟨h1, h2, h3⟩ := move_back h
    have hl := path_len ((isP_iff _).1 ((inB_iff _ _).1 h3).1)
    have := move_calls W (moveF a b c).1 c b (by omega) lc.out lb.out
    rwa [h1] at this
  have HSC : Hid ((moveF a b c).2 = 0 → ∀ W, Calls Tryd.prog 26 #[.string (mkS (moveF a b c).1), .string (mkS c)] W fun e w' => e = .returned (.bool true) ∧ Chg No W w') := fun h W => by
    obtain ⟨h1, h2, h3⟩ := move_back h
    have hl := path_len ((isP_iff _).1 ((inB_iff _ _).1 h3).1)
    have := INN.out (moveF a b c).1 c (by omega) lc.out W
    rwa [h3] at this
  have KM : Hid ((moveF a b c).2 = 0 → inB a b = true) := fun h => (move_back h).2.1
  have HCM : Hid (∀ W, _) := fun W => common_calls W a b la.out lb.out
  have hcl : Hid (isP a = true → isP b = true → (commonF a b).length ≤ 9223372036854775807) := fun h1 h2 => by
    have := path_len ((isP_iff _).1 ((inB_iff _ _).1 (common_in h1 h2).1).2.1); omega
  have HCA : Hid (isP a = true → isP b = true → ∀ W, Calls Tryd.prog 26 #[.string (mkS a), .string (mkS (commonF a b))] W fun e w' => e = .returned (.bool true) ∧ Chg No W w') := fun h1 h2 W => by
    have := INN.out a (commonF a b) la.out (hcl.out h1 h2) W
    rwa [(common_in h1 h2).1] at this
  have HCBB : Hid (isP a = true → isP b = true → ∀ W, Calls Tryd.prog 26 #[.string (mkS b), .string (mkS (commonF a b))] W fun e w' => e = .returned (.bool true) ∧ Chg No W w') := fun h1 h2 W => by
    have := INN.out b (commonF a b) lb.out (hcl.out h1 h2) W
    rwa [(common_in h1 h2).2.1] at this
  have HCC : Hid (isP a = true → isP b = true → inB a c = true → inB b c = true → ∀ W, Calls Tryd.prog 26 #[.string (mkS (commonF a b)), .string (mkS c)] W fun e w' => e = .returned (.bool true) ∧ Chg No W w') := fun h1 h2 h3 h4 W => by
    have := INN.out (commonF a b) c (hcl.out h1 h2) lc.out W
    rwa [(common_in h1 h2).2.2 c h3 h4] at this
  have K1 : Hid (inB a b = true → inB b c = true → inB a c = true) := fun h k => in_trans h k
  have K2 : Hid (inB a b = true → inB b a = true → ((mkS a).toList == (mkS b).toList) = true) := fun h k => by rw [in_anti h k]; simp
  have K3 : Hid (inB a b = true → inB a c = true → inB b c = false → inB c b = true) := fun h k l => by
    rcases in_line h k with e | e
    · rw [e] at l; cases l
    · exact e
  have K4 : Hid (inB a b = true → inB b a = true → inB a c = inB b c) := fun h k => by rw [in_anti h k]
  have K5 : Hid (inB a b = true → isP a = true ∧ isP b = true) := fun h => ⟨((inB_iff _ _).1 h).1, ((inB_iff _ _).1 h).2.1⟩
  have KA : Hid (isP a = true ↔ (pathF a).1 = 0) := isP_iff a
  have KB : Hid (isP b = true ↔ (pathF b).1 = 0) := isP_iff b
  generalize inB a b = x at *
  generalize inB b c = y at *
  generalize inB a c = ac at *
  generalize inB b a = ba at *
  generalize inB c b = cb at *
  generalize isP a = A at *
  generalize isP b = B at *
  obtain ⟨⟨ms, me⟩, hm⟩ : ∃ z, moveF a b c = z := ⟨_, rfl⟩
  rw [hm] at HMV HMB HSC KM
  obtain ⟨⟨za, zza⟩, hza⟩ : ∃ z, pathF a = z := ⟨_, rfl⟩
  rw [hza] at HPA KA
  obtain ⟨⟨zb, zzb⟩, hzb⟩ : ∃ z, pathF b = z := ⟨_, rfl⟩
  rw [hzb] at HPB KB
  simp only at HMV HMB HSC KM KA KB
  unfold spotV at HPA HPB
  clear INN hm hza hzb hcl
  generalize commonF a b = com at *
  generalize mkS a = xa at *
  generalize mkS b = xb at *
  generalize mkS c = xc at *
  generalize mkS com = xcom at *
  generalize mkS ms = xs at *
  have hfa : ∀ W, Sem.run Tryd.prog (Instr.field 26 (.agg #[.int .i64 za, .int .i64 zza]) 0) W = .ok (.int .i64 za) W := fun _ => rfl
  have hfb : ∀ W, Sem.run Tryd.prog (Instr.field 26 (.agg #[.int .i64 zb, .int .i64 zzb]) 0) W = .ok (.int .i64 zb) W := fun _ => rfl
  cases x with
  | false =>
    have hme : (me == 0) = false := by simp only [beq_eq_false_iff_ne, ne_eq]; exact fun h => absurd (KM.out h) (by decide)
    cases A with
    | false =>
      have hza : (za == 0) = false := by (simp only [beq_eq_false_iff_ne, ne_eq]; exact fun h => absurd (KA.out.2 h) (by decide))
      go_enter Tryd.func7, Tryd.ntmps7
      go_wp2_with fail
      refine (wakes4_calls _).mono ?_
      rintro e w1 ⟨rfl, hc1⟩
      have HC1 := Lib.hid hc1
      clear hc1
      go_wp2_with fail
      refine (HPa.out _).mono ?_
      rintro e w2 ⟨rfl, rfl⟩
      go_wp2_with fail
      refine (HPb.out _).mono ?_
      rintro e w3 ⟨rfl, rfl⟩
      go_wp2_with fail
      refine (HPc.out _).mono ?_
      rintro e w4 ⟨rfl, rfl⟩
      go_wp2_with fail
      refine (HPA.out _).mono ?_
      rintro e w5 ⟨rfl, hc5⟩
      have HC5 := Lib.hid (HC1.out.no hc5)
      clear hc5
      go_wp2_with fail
      refine (HAB.out _).mono ?_
      rintro e w6 ⟨rfl, hc6⟩
      have HC6 := Lib.hid (HC5.out.no hc6)
      clear hc6
      go_wp2_with fail
      refine (HBC.out _).mono ?_
      rintro e w7 ⟨rfl, hc7⟩
      have HC7 := Lib.hid (HC6.out.no hc7)
      clear hc7
      go_wp2_with fail
      refine (HMV.out _).mono ?_
      rintro e w8 ⟨rfl, hc8⟩
      have HC8 := Lib.hid (HC7.out.no hc8)
      clear hc8
      go_wp2_with fail
      refine (HCM.out _).mono ?_
      rintro e w9 ⟨rfl, hc9⟩
      have HC9 := Lib.hid (HC8.out.no hc9)
      clear hc9
      go_wp2_with fail
      refine (HPA.out _).mono ?_
      rintro e w10 ⟨rfl, hc10⟩
      have HC10 := Lib.hid (HC9.out.no hc10)
      clear hc10
      go_wp2_with fail
      refine (wakes4_calls _).mono ?_
      rintro e w11 ⟨rfl, hc11⟩
      have HC11 := Lib.hid (HC10.out.no hc11)
      clear hc11
      go_wp2
      go_ret
      exact ⟨rfl, HC11.out⟩
    | true =>
      cases B with
      | false =>
        have HAAx := Lib.hid (HAA.out rfl)
        have HA0x := Lib.hid (HA0.out rfl)
        have hza : (za == 0) = true := by rw [KA.out.1 rfl]; rfl
        have hzb : (zb == 0) = false := by (simp only [beq_eq_false_iff_ne, ne_eq]; exact fun h => absurd (KB.out.2 h) (by decide))
        go_enter Tryd.func7, Tryd.ntmps7
        go_wp2_with fail
        refine (wakes4_calls _).mono ?_
        rintro e w1 ⟨rfl, hc1⟩
        have HC1 := Lib.hid hc1
        clear hc1
        go_wp2_with fail
        refine (HPa.out _).mono ?_
        rintro e w2 ⟨rfl, rfl⟩
        go_wp2_with fail
        refine (HPb.out _).mono ?_
        rintro e w3 ⟨rfl, rfl⟩
        go_wp2_with fail
        refine (HPc.out _).mono ?_
        rintro e w4 ⟨rfl, rfl⟩
        go_wp2_with fail
        refine (HPA.out _).mono ?_
        rintro e w5 ⟨rfl, hc5⟩
        have HC5 := Lib.hid (HC1.out.no hc5)
        clear hc5
        go_wp2_with fail
        refine (HAAx.out _).mono ?_
        rintro e w6 ⟨rfl, hc6⟩
        have HC6 := Lib.hid (HC5.out.no hc6)
        clear hc6
        go_wp2_with fail
        refine (HA0x.out _).mono ?_
        rintro e w7 ⟨rfl, hc7⟩
        have HC7 := Lib.hid (HC6.out.no hc7)
        clear hc7
        go_wp2_with fail
        refine (HAB.out _).mono ?_
        rintro e w8 ⟨rfl, hc8⟩
        have HC8 := Lib.hid (HC7.out.no hc8)
        clear hc8
        go_wp2_with fail
        refine (HBC.out _).mono ?_
        rintro e w9 ⟨rfl, hc9⟩
        have HC9 := Lib.hid (HC8.out.no hc9)
        clear hc9
        go_wp2_with fail
        refine (HMV.out _).mono ?_
        rintro e w10 ⟨rfl, hc10⟩
        have HC10 := Lib.hid (HC9.out.no hc10)
        clear hc10
        go_wp2_with fail
        refine (HCM.out _).mono ?_
        rintro e w11 ⟨rfl, hc11⟩
        have HC11 := Lib.hid (HC10.out.no hc11)
        clear hc11
        go_wp2_with fail
        refine (HPA.out _).mono ?_
        rintro e w12 ⟨rfl, hc12⟩
        have HC12 := Lib.hid (HC11.out.no hc12)
        clear hc12
        go_wp2_with fail
        refine (HPB.out _).mono ?_
        rintro e w13 ⟨rfl, hc13⟩
        have HC13 := Lib.hid (HC12.out.no hc13)
        clear hc13
        go_wp2_with fail
        refine (wakes4_calls _).mono ?_
        rintro e w14 ⟨rfl, hc14⟩
        have HC14 := Lib.hid (HC13.out.no hc14)
        clear hc14
        go_wp2
        go_ret
        exact ⟨rfl, HC14.out⟩
      | true =>
        cases ac with
        | false =>
          have HAAx := Lib.hid (HAA.out rfl)
          have HA0x := Lib.hid (HA0.out rfl)
          have hza : (za == 0) = true := by rw [KA.out.1 rfl]; rfl
          have hzb : (zb == 0) = true := by rw [KB.out.1 rfl]; rfl
          have HCAx := Lib.hid (HCA.out rfl rfl)
          have HCBBx := Lib.hid (HCBB.out rfl rfl)
          go_enter Tryd.func7, Tryd.ntmps7
          go_wp2_with fail
          refine (wakes4_calls _).mono ?_
          rintro e w1 ⟨rfl, hc1⟩
          have HC1 := Lib.hid hc1
          clear hc1
          go_wp2_with fail
          refine (HPa.out _).mono ?_
          rintro e w2 ⟨rfl, rfl⟩
          go_wp2_with fail
          refine (HPb.out _).mono ?_
          rintro e w3 ⟨rfl, rfl⟩
          go_wp2_with fail
          refine (HPc.out _).mono ?_
          rintro e w4 ⟨rfl, rfl⟩
          go_wp2_with fail
          refine (HPA.out _).mono ?_
          rintro e w5 ⟨rfl, hc5⟩
          have HC5 := Lib.hid (HC1.out.no hc5)
          clear hc5
          go_wp2_with fail
          refine (HAAx.out _).mono ?_
          rintro e w6 ⟨rfl, hc6⟩
          have HC6 := Lib.hid (HC5.out.no hc6)
          clear hc6
          go_wp2_with fail
          refine (HA0x.out _).mono ?_
          rintro e w7 ⟨rfl, hc7⟩
          have HC7 := Lib.hid (HC6.out.no hc7)
          clear hc7
          go_wp2_with fail
          refine (HAB.out _).mono ?_
          rintro e w8 ⟨rfl, hc8⟩
          have HC8 := Lib.hid (HC7.out.no hc8)
          clear hc8
          go_wp2_with fail
          refine (HBC.out _).mono ?_
          rintro e w9 ⟨rfl, hc9⟩
          have HC9 := Lib.hid (HC8.out.no hc9)
          clear hc9
          go_wp2_with fail
          refine (HMV.out _).mono ?_
          rintro e w10 ⟨rfl, hc10⟩
          have HC10 := Lib.hid (HC9.out.no hc10)
          clear hc10
          go_wp2_with fail
          refine (HCM.out _).mono ?_
          rintro e w11 ⟨rfl, hc11⟩
          have HC11 := Lib.hid (HC10.out.no hc11)
          clear hc11
          go_wp2_with fail
          refine (HPA.out _).mono ?_
          rintro e w12 ⟨rfl, hc12⟩
          have HC12 := Lib.hid (HC11.out.no hc12)
          clear hc12
          go_wp2_with fail
          refine (HPB.out _).mono ?_
          rintro e w13 ⟨rfl, hc13⟩
          have HC13 := Lib.hid (HC12.out.no hc13)
          clear hc13
          go_wp2_with fail
          refine (HCAx.out _).mono ?_
          rintro e w14 ⟨rfl, hc14⟩
          have HC14 := Lib.hid (HC13.out.no hc14)
          clear hc14
          go_wp2_with fail
          refine (HCBBx.out _).mono ?_
          rintro e w15 ⟨rfl, hc15⟩
          have HC15 := Lib.hid (HC14.out.no hc15)
          clear hc15
          go_wp2_with fail
          refine (HAC.out _).mono ?_
          rintro e w16 ⟨rfl, hc16⟩
          have HC16 := Lib.hid (HC15.out.no hc16)
          clear hc16
          go_wp2_with fail
          refine (wakes4_calls _).mono ?_
          rintro e w17 ⟨rfl, hc17⟩
          have HC17 := Lib.hid (HC16.out.no hc17)
          clear hc17
          go_wp2
          go_ret
          exact ⟨rfl, HC17.out⟩
        | true =>
          cases y with
          | false =>
            have HAAx := Lib.hid (HAA.out rfl)
            have HA0x := Lib.hid (HA0.out rfl)
            have hza : (za == 0) = true := by rw [KA.out.1 rfl]; rfl
            have hzb : (zb == 0) = true := by rw [KB.out.1 rfl]; rfl
            have HCAx := Lib.hid (HCA.out rfl rfl)
            have HCBBx := Lib.hid (HCBB.out rfl rfl)
            go_enter Tryd.func7, Tryd.ntmps7
            go_wp2_with fail
            refine (wakes4_calls _).mono ?_
            rintro e w1 ⟨rfl, hc1⟩
            have HC1 := Lib.hid hc1
            clear hc1
            go_wp2_with fail
            refine (HPa.out _).mono ?_
            rintro e w2 ⟨rfl, rfl⟩
            go_wp2_with fail
            refine (HPb.out _).mono ?_
            rintro e w3 ⟨rfl, rfl⟩
            go_wp2_with fail
            refine (HPc.out _).mono ?_
            rintro e w4 ⟨rfl, rfl⟩
            go_wp2_with fail
            refine (HPA.out _).mono ?_
            rintro e w5 ⟨rfl, hc5⟩
            have HC5 := Lib.hid (HC1.out.no hc5)
            clear hc5
            go_wp2_with fail
            refine (HAAx.out _).mono ?_
            rintro e w6 ⟨rfl, hc6⟩
            have HC6 := Lib.hid (HC5.out.no hc6)
            clear hc6
            go_wp2_with fail
            refine (HA0x.out _).mono ?_
            rintro e w7 ⟨rfl, hc7⟩
            have HC7 := Lib.hid (HC6.out.no hc7)
            clear hc7
            go_wp2_with fail
            refine (HAB.out _).mono ?_
            rintro e w8 ⟨rfl, hc8⟩
            have HC8 := Lib.hid (HC7.out.no hc8)
            clear hc8
            go_wp2_with fail
            refine (HBC.out _).mono ?_
            rintro e w9 ⟨rfl, hc9⟩
            have HC9 := Lib.hid (HC8.out.no hc9)
            clear hc9
            go_wp2_with fail
            refine (HMV.out _).mono ?_
            rintro e w10 ⟨rfl, hc10⟩
            have HC10 := Lib.hid (HC9.out.no hc10)
            clear hc10
            go_wp2_with fail
            refine (HCM.out _).mono ?_
            rintro e w11 ⟨rfl, hc11⟩
            have HC11 := Lib.hid (HC10.out.no hc11)
            clear hc11
            go_wp2_with fail
            refine (HPA.out _).mono ?_
            rintro e w12 ⟨rfl, hc12⟩
            have HC12 := Lib.hid (HC11.out.no hc12)
            clear hc12
            go_wp2_with fail
            refine (HPB.out _).mono ?_
            rintro e w13 ⟨rfl, hc13⟩
            have HC13 := Lib.hid (HC12.out.no hc13)
            clear hc13
            go_wp2_with fail
            refine (HCAx.out _).mono ?_
            rintro e w14 ⟨rfl, hc14⟩
            have HC14 := Lib.hid (HC13.out.no hc14)
            clear hc14
            go_wp2_with fail
            refine (HCBBx.out _).mono ?_
            rintro e w15 ⟨rfl, hc15⟩
            have HC15 := Lib.hid (HC14.out.no hc15)
            clear hc15
            go_wp2_with fail
            refine (HAC.out _).mono ?_
            rintro e w16 ⟨rfl, hc16⟩
            have HC16 := Lib.hid (HC15.out.no hc16)
            clear hc16
            go_wp2_with fail
            refine (HBC.out _).mono ?_
            rintro e w17 ⟨rfl, hc17⟩
            have HC17 := Lib.hid (HC16.out.no hc17)
            clear hc17
            go_wp2_with fail
            refine (wakes4_calls _).mono ?_
            rintro e w18 ⟨rfl, hc18⟩
            have HC18 := Lib.hid (HC17.out.no hc18)
            clear hc18
            go_wp2
            go_ret
            exact ⟨rfl, HC18.out⟩
          | true =>
            have HAAx := Lib.hid (HAA.out rfl)
            have HA0x := Lib.hid (HA0.out rfl)
            have hza : (za == 0) = true := by rw [KA.out.1 rfl]; rfl
            have hzb : (zb == 0) = true := by rw [KB.out.1 rfl]; rfl
            have HCAx := Lib.hid (HCA.out rfl rfl)
            have HCBBx := Lib.hid (HCBB.out rfl rfl)
            have HCCx := Lib.hid (HCC.out rfl rfl rfl rfl)
            go_enter Tryd.func7, Tryd.ntmps7
            go_wp2_with fail
            refine (wakes4_calls _).mono ?_
            rintro e w1 ⟨rfl, hc1⟩
            have HC1 := Lib.hid hc1
            clear hc1
            go_wp2_with fail
            refine (HPa.out _).mono ?_
            rintro e w2 ⟨rfl, rfl⟩
            go_wp2_with fail
            refine (HPb.out _).mono ?_
            rintro e w3 ⟨rfl, rfl⟩
            go_wp2_with fail
            refine (HPc.out _).mono ?_
            rintro e w4 ⟨rfl, rfl⟩
            go_wp2_with fail
            refine (HPA.out _).mono ?_
            rintro e w5 ⟨rfl, hc5⟩
            have HC5 := Lib.hid (HC1.out.no hc5)
            clear hc5
            go_wp2_with fail
            refine (HAAx.out _).mono ?_
            rintro e w6 ⟨rfl, hc6⟩
            have HC6 := Lib.hid (HC5.out.no hc6)
            clear hc6
            go_wp2_with fail
            refine (HA0x.out _).mono ?_
            rintro e w7 ⟨rfl, hc7⟩
            have HC7 := Lib.hid (HC6.out.no hc7)
            clear hc7
            go_wp2_with fail
            refine (HAB.out _).mono ?_
            rintro e w8 ⟨rfl, hc8⟩
            have HC8 := Lib.hid (HC7.out.no hc8)
            clear hc8
            go_wp2_with fail
            refine (HBC.out _).mono ?_
            rintro e w9 ⟨rfl, hc9⟩
            have HC9 := Lib.hid (HC8.out.no hc9)
            clear hc9
            go_wp2_with fail
            refine (HMV.out _).mono ?_
            rintro e w10 ⟨rfl, hc10⟩
            have HC10 := Lib.hid (HC9.out.no hc10)
            clear hc10
            go_wp2_with fail
            refine (HCM.out _).mono ?_
            rintro e w11 ⟨rfl, hc11⟩
            have HC11 := Lib.hid (HC10.out.no hc11)
            clear hc11
            go_wp2_with fail
            refine (HPA.out _).mono ?_
            rintro e w12 ⟨rfl, hc12⟩
            have HC12 := Lib.hid (HC11.out.no hc12)
            clear hc12
            go_wp2_with fail
            refine (HPB.out _).mono ?_
            rintro e w13 ⟨rfl, hc13⟩
            have HC13 := Lib.hid (HC12.out.no hc13)
            clear hc13
            go_wp2_with fail
            refine (HCAx.out _).mono ?_
            rintro e w14 ⟨rfl, hc14⟩
            have HC14 := Lib.hid (HC13.out.no hc14)
            clear hc14
            go_wp2_with fail
            refine (HCBBx.out _).mono ?_
            rintro e w15 ⟨rfl, hc15⟩
            have HC15 := Lib.hid (HC14.out.no hc15)
            clear hc15
            go_wp2_with fail
            refine (HAC.out _).mono ?_
            rintro e w16 ⟨rfl, hc16⟩
            have HC16 := Lib.hid (HC15.out.no hc16)
            clear hc16
            go_wp2_with fail
            refine (HBC.out _).mono ?_
            rintro e w17 ⟨rfl, hc17⟩
            have HC17 := Lib.hid (HC16.out.no hc17)
            clear hc17
            go_wp2_with fail
            refine (HCCx.out _).mono ?_
            rintro e w18 ⟨rfl, hc18⟩
            have HC18 := Lib.hid (HC17.out.no hc18)
            clear hc18
            go_wp2_with fail
            refine (wakes4_calls _).mono ?_
            rintro e w19 ⟨rfl, hc19⟩
            have HC19 := Lib.hid (HC18.out.no hc19)
            clear hc19
            go_wp2
            go_ret
            exact ⟨rfl, HC19.out⟩
  | true =>
    obtain ⟨hA, hB⟩ := K5.out rfl
    subst hA
    subst hB
    cases y with
    | false =>
      cases ac with
      | false =>
        cases ba with
        | false =>
          by_cases hm : me = 0
          · subst hm
            have HAAx := Lib.hid (HAA.out rfl)
            have HA0x := Lib.hid (HA0.out rfl)
            have hza : (za == 0) = true := by rw [KA.out.1 rfl]; rfl
            have hzb : (zb == 0) = true := by rw [KB.out.1 rfl]; rfl
            have HCAx := Lib.hid (HCA.out rfl rfl)
            have HCBBx := Lib.hid (HCBB.out rfl rfl)
            have HMBx := Lib.hid (HMB.out rfl)
            have HSCx := Lib.hid (HSC.out rfl)
            go_enter Tryd.func7, Tryd.ntmps7
            go_wp2_with fail
            refine (wakes4_calls _).mono ?_
            rintro e w1 ⟨rfl, hc1⟩
            have HC1 := Lib.hid hc1
            clear hc1
            go_wp2_with fail
            refine (HPa.out _).mono ?_
            rintro e w2 ⟨rfl, rfl⟩
            go_wp2_with fail
            refine (HPb.out _).mono ?_
            rintro e w3 ⟨rfl, rfl⟩
            go_wp2_with fail
            refine (HPc.out _).mono ?_
            rintro e w4 ⟨rfl, rfl⟩
            go_wp2_with fail
            refine (HPA.out _).mono ?_
            rintro e w5 ⟨rfl, hc5⟩
            have HC5 := Lib.hid (HC1.out.no hc5)
            clear hc5
            go_wp2_with fail
            refine (HAAx.out _).mono ?_
            rintro e w6 ⟨rfl, hc6⟩
            have HC6 := Lib.hid (HC5.out.no hc6)
            clear hc6
            go_wp2_with fail
            refine (HA0x.out _).mono ?_
            rintro e w7 ⟨rfl, hc7⟩
            have HC7 := Lib.hid (HC6.out.no hc7)
            clear hc7
            go_wp2_with fail
            refine (HAB.out _).mono ?_
            rintro e w8 ⟨rfl, hc8⟩
            have HC8 := Lib.hid (HC7.out.no hc8)
            clear hc8
            go_wp2_with fail
            refine (HBC.out _).mono ?_
            rintro e w9 ⟨rfl, hc9⟩
            have HC9 := Lib.hid (HC8.out.no hc9)
            clear hc9
            go_wp2_with fail
            refine (HBA.out _).mono ?_
            rintro e w10 ⟨rfl, hc10⟩
            have HC10 := Lib.hid (HC9.out.no hc10)
            clear hc10
            go_wp2_with fail
            refine (HAC.out _).mono ?_
            rintro e w11 ⟨rfl, hc11⟩
            have HC11 := Lib.hid (HC10.out.no hc11)
            clear hc11
            go_wp2_with fail
            refine (HMV.out _).mono ?_
            rintro e w12 ⟨rfl, hc12⟩
            have HC12 := Lib.hid (HC11.out.no hc12)
            clear hc12
            go_wp2_with fail
            refine (HMBx.out _).mono ?_
            rintro e w13 ⟨rfl, hc13⟩
            have HC13 := Lib.hid (HC12.out.no hc13)
            clear hc13
            go_wp2_with fail
            refine (HSCx.out _).mono ?_
            rintro e w14 ⟨rfl, hc14⟩
            have HC14 := Lib.hid (HC13.out.no hc14)
            clear hc14
            go_wp2_with fail
            refine (HCM.out _).mono ?_
            rintro e w15 ⟨rfl, hc15⟩
            have HC15 := Lib.hid (HC14.out.no hc15)
            clear hc15
            go_wp2_with fail
            refine (HPA.out _).mono ?_
            rintro e w16 ⟨rfl, hc16⟩
            have HC16 := Lib.hid (HC15.out.no hc16)
            clear hc16
            go_wp2_with fail
            refine (HPB.out _).mono ?_
            rintro e w17 ⟨rfl, hc17⟩
            have HC17 := Lib.hid (HC16.out.no hc17)
            clear hc17
            go_wp2_with fail
            refine (HCAx.out _).mono ?_
            rintro e w18 ⟨rfl, hc18⟩
            have HC18 := Lib.hid (HC17.out.no hc18)
            clear hc18
            go_wp2_with fail
            refine (HCBBx.out _).mono ?_
            rintro e w19 ⟨rfl, hc19⟩
            have HC19 := Lib.hid (HC18.out.no hc19)
            clear hc19
            go_wp2_with fail
            refine (HAC.out _).mono ?_
            rintro e w20 ⟨rfl, hc20⟩
            have HC20 := Lib.hid (HC19.out.no hc20)
            clear hc20
            go_wp2_with fail
            refine (wakes4_calls _).mono ?_
            rintro e w21 ⟨rfl, hc21⟩
            have HC21 := Lib.hid (HC20.out.no hc21)
            clear hc21
            go_wp2
            go_ret
            exact ⟨rfl, HC21.out⟩
          · have hme : (me == 0) = false := by simpa using hm
            have HAAx := Lib.hid (HAA.out rfl)
            have HA0x := Lib.hid (HA0.out rfl)
            have hza : (za == 0) = true := by rw [KA.out.1 rfl]; rfl
            have hzb : (zb == 0) = true := by rw [KB.out.1 rfl]; rfl
            have HCAx := Lib.hid (HCA.out rfl rfl)
            have HCBBx := Lib.hid (HCBB.out rfl rfl)
            go_enter Tryd.func7, Tryd.ntmps7
            go_wp2_with fail
            refine (wakes4_calls _).mono ?_
            rintro e w1 ⟨rfl, hc1⟩
            have HC1 := Lib.hid hc1
            clear hc1
            go_wp2_with fail
            refine (HPa.out _).mono ?_
            rintro e w2 ⟨rfl, rfl⟩
            go_wp2_with fail
            refine (HPb.out _).mono ?_
            rintro e w3 ⟨rfl, rfl⟩
            go_wp2_with fail
            refine (HPc.out _).mono ?_
            rintro e w4 ⟨rfl, rfl⟩
            go_wp2_with fail
            refine (HPA.out _).mono ?_
            rintro e w5 ⟨rfl, hc5⟩
            have HC5 := Lib.hid (HC1.out.no hc5)
            clear hc5
            go_wp2_with fail
            refine (HAAx.out _).mono ?_
            rintro e w6 ⟨rfl, hc6⟩
            have HC6 := Lib.hid (HC5.out.no hc6)
            clear hc6
            go_wp2_with fail
            refine (HA0x.out _).mono ?_
            rintro e w7 ⟨rfl, hc7⟩
            have HC7 := Lib.hid (HC6.out.no hc7)
            clear hc7
            go_wp2_with fail
            refine (HAB.out _).mono ?_
            rintro e w8 ⟨rfl, hc8⟩
            have HC8 := Lib.hid (HC7.out.no hc8)
            clear hc8
            go_wp2_with fail
            refine (HBC.out _).mono ?_
            rintro e w9 ⟨rfl, hc9⟩
            have HC9 := Lib.hid (HC8.out.no hc9)
            clear hc9
            go_wp2_with fail
            refine (HBA.out _).mono ?_
            rintro e w10 ⟨rfl, hc10⟩
            have HC10 := Lib.hid (HC9.out.no hc10)
            clear hc10
            go_wp2_with fail
            refine (HAC.out _).mono ?_
            rintro e w11 ⟨rfl, hc11⟩
            have HC11 := Lib.hid (HC10.out.no hc11)
            clear hc11
            go_wp2_with fail
            refine (HMV.out _).mono ?_
            rintro e w12 ⟨rfl, hc12⟩
            have HC12 := Lib.hid (HC11.out.no hc12)
            clear hc12
            go_wp2_with fail
            refine (HCM.out _).mono ?_
            rintro e w13 ⟨rfl, hc13⟩
            have HC13 := Lib.hid (HC12.out.no hc13)
            clear hc13
            go_wp2_with fail
            refine (HPA.out _).mono ?_
            rintro e w14 ⟨rfl, hc14⟩
            have HC14 := Lib.hid (HC13.out.no hc14)
            clear hc14
            go_wp2_with fail
            refine (HPB.out _).mono ?_
            rintro e w15 ⟨rfl, hc15⟩
            have HC15 := Lib.hid (HC14.out.no hc15)
            clear hc15
            go_wp2_with fail
            refine (HCAx.out _).mono ?_
            rintro e w16 ⟨rfl, hc16⟩
            have HC16 := Lib.hid (HC15.out.no hc16)
            clear hc16
            go_wp2_with fail
            refine (HCBBx.out _).mono ?_
            rintro e w17 ⟨rfl, hc17⟩
            have HC17 := Lib.hid (HC16.out.no hc17)
            clear hc17
            go_wp2_with fail
            refine (HAC.out _).mono ?_
            rintro e w18 ⟨rfl, hc18⟩
            have HC18 := Lib.hid (HC17.out.no hc18)
            clear hc18
            go_wp2_with fail
            refine (wakes4_calls _).mono ?_
            rintro e w19 ⟨rfl, hc19⟩
            have HC19 := Lib.hid (HC18.out.no hc19)
            clear hc19
            go_wp2
            go_ret
            exact ⟨rfl, HC19.out⟩
        | true =>
          by_cases hm : me = 0
          · subst hm
            have HAAx := Lib.hid (HAA.out rfl)
            have HA0x := Lib.hid (HA0.out rfl)
            have hza : (za == 0) = true := by rw [KA.out.1 rfl]; rfl
            have hzb : (zb == 0) = true := by rw [KB.out.1 rfl]; rfl
            have HCAx := Lib.hid (HCA.out rfl rfl)
            have HCBBx := Lib.hid (HCBB.out rfl rfl)
            have hxe := K2.out rfl rfl
            have HMBx := Lib.hid (HMB.out rfl)
            have HSCx := Lib.hid (HSC.out rfl)
            go_enter Tryd.func7, Tryd.ntmps7
            go_wp2_with fail
            refine (wakes4_calls _).mono ?_
            rintro e w1 ⟨rfl, hc1⟩
            have HC1 := Lib.hid hc1
            clear hc1
            go_wp2_with fail
            refine (HPa.out _).mono ?_
            rintro e w2 ⟨rfl, rfl⟩
            go_wp2_with fail
            refine (HPb.out _).mono ?_
            rintro e w3 ⟨rfl, rfl⟩
            go_wp2_with fail
            refine (HPc.out _).mono ?_
            rintro e w4 ⟨rfl, rfl⟩
            go_wp2_with fail
            refine (HPA.out _).mono ?_
            rintro e w5 ⟨rfl, hc5⟩
            have HC5 := Lib.hid (HC1.out.no hc5)
            clear hc5
            go_wp2_with fail
            refine (HAAx.out _).mono ?_
            rintro e w6 ⟨rfl, hc6⟩
            have HC6 := Lib.hid (HC5.out.no hc6)
            clear hc6
            go_wp2_with fail
            refine (HA0x.out _).mono ?_
            rintro e w7 ⟨rfl, hc7⟩
            have HC7 := Lib.hid (HC6.out.no hc7)
            clear hc7
            go_wp2_with fail
            refine (HAB.out _).mono ?_
            rintro e w8 ⟨rfl, hc8⟩
            have HC8 := Lib.hid (HC7.out.no hc8)
            clear hc8
            go_wp2_with fail
            refine (HBC.out _).mono ?_
            rintro e w9 ⟨rfl, hc9⟩
            have HC9 := Lib.hid (HC8.out.no hc9)
            clear hc9
            go_wp2_with fail
            refine (HBA.out _).mono ?_
            rintro e w10 ⟨rfl, hc10⟩
            have HC10 := Lib.hid (HC9.out.no hc10)
            clear hc10
            go_wp2_with fail
            refine (HAC.out _).mono ?_
            rintro e w11 ⟨rfl, hc11⟩
            have HC11 := Lib.hid (HC10.out.no hc11)
            clear hc11
            go_wp2_with fail
            refine (HMV.out _).mono ?_
            rintro e w12 ⟨rfl, hc12⟩
            have HC12 := Lib.hid (HC11.out.no hc12)
            clear hc12
            go_wp2_with fail
            refine (HMBx.out _).mono ?_
            rintro e w13 ⟨rfl, hc13⟩
            have HC13 := Lib.hid (HC12.out.no hc13)
            clear hc13
            go_wp2_with fail
            refine (HSCx.out _).mono ?_
            rintro e w14 ⟨rfl, hc14⟩
            have HC14 := Lib.hid (HC13.out.no hc14)
            clear hc14
            go_wp2_with fail
            refine (HCM.out _).mono ?_
            rintro e w15 ⟨rfl, hc15⟩
            have HC15 := Lib.hid (HC14.out.no hc15)
            clear hc15
            go_wp2_with fail
            refine (HPA.out _).mono ?_
            rintro e w16 ⟨rfl, hc16⟩
            have HC16 := Lib.hid (HC15.out.no hc16)
            clear hc16
            go_wp2_with fail
            refine (HPB.out _).mono ?_
            rintro e w17 ⟨rfl, hc17⟩
            have HC17 := Lib.hid (HC16.out.no hc17)
            clear hc17
            go_wp2_with fail
            refine (HCAx.out _).mono ?_
            rintro e w18 ⟨rfl, hc18⟩
            have HC18 := Lib.hid (HC17.out.no hc18)
            clear hc18
            go_wp2_with fail
            refine (HCBBx.out _).mono ?_
            rintro e w19 ⟨rfl, hc19⟩
            have HC19 := Lib.hid (HC18.out.no hc19)
            clear hc19
            go_wp2_with fail
            refine (HAC.out _).mono ?_
            rintro e w20 ⟨rfl, hc20⟩
            have HC20 := Lib.hid (HC19.out.no hc20)
            clear hc20
            go_wp2_with fail
            refine (wakes4_calls _).mono ?_
            rintro e w21 ⟨rfl, hc21⟩
            have HC21 := Lib.hid (HC20.out.no hc21)
            clear hc21
            go_wp2
            go_ret
            exact ⟨rfl, HC21.out⟩
          · have hme : (me == 0) = false := by simpa using hm
            have HAAx := Lib.hid (HAA.out rfl)
            have HA0x := Lib.hid (HA0.out rfl)
            have hza : (za == 0) = true := by rw [KA.out.1 rfl]; rfl
            have hzb : (zb == 0) = true := by rw [KB.out.1 rfl]; rfl
            have HCAx := Lib.hid (HCA.out rfl rfl)
            have HCBBx := Lib.hid (HCBB.out rfl rfl)
            have hxe := K2.out rfl rfl
            go_enter Tryd.func7, Tryd.ntmps7
            go_wp2_with fail
            refine (wakes4_calls _).mono ?_
            rintro e w1 ⟨rfl, hc1⟩
            have HC1 := Lib.hid hc1
            clear hc1
            go_wp2_with fail
            refine (HPa.out _).mono ?_
            rintro e w2 ⟨rfl, rfl⟩
            go_wp2_with fail
            refine (HPb.out _).mono ?_
            rintro e w3 ⟨rfl, rfl⟩
            go_wp2_with fail
            refine (HPc.out _).mono ?_
            rintro e w4 ⟨rfl, rfl⟩
            go_wp2_with fail
            refine (HPA.out _).mono ?_
            rintro e w5 ⟨rfl, hc5⟩
            have HC5 := Lib.hid (HC1.out.no hc5)
            clear hc5
            go_wp2_with fail
            refine (HAAx.out _).mono ?_
            rintro e w6 ⟨rfl, hc6⟩
            have HC6 := Lib.hid (HC5.out.no hc6)
            clear hc6
            go_wp2_with fail
            refine (HA0x.out _).mono ?_
            rintro e w7 ⟨rfl, hc7⟩
            have HC7 := Lib.hid (HC6.out.no hc7)
            clear hc7
            go_wp2_with fail
            refine (HAB.out _).mono ?_
            rintro e w8 ⟨rfl, hc8⟩
            have HC8 := Lib.hid (HC7.out.no hc8)
            clear hc8
            go_wp2_with fail
            refine (HBC.out _).mono ?_
            rintro e w9 ⟨rfl, hc9⟩
            have HC9 := Lib.hid (HC8.out.no hc9)
            clear hc9
            go_wp2_with fail
            refine (HBA.out _).mono ?_
            rintro e w10 ⟨rfl, hc10⟩
            have HC10 := Lib.hid (HC9.out.no hc10)
            clear hc10
            go_wp2_with fail
            refine (HAC.out _).mono ?_
            rintro e w11 ⟨rfl, hc11⟩
            have HC11 := Lib.hid (HC10.out.no hc11)
            clear hc11
            go_wp2_with fail
            refine (HMV.out _).mono ?_
            rintro e w12 ⟨rfl, hc12⟩
            have HC12 := Lib.hid (HC11.out.no hc12)
            clear hc12
            go_wp2_with fail
            refine (HCM.out _).mono ?_
            rintro e w13 ⟨rfl, hc13⟩
            have HC13 := Lib.hid (HC12.out.no hc13)
            clear hc13
            go_wp2_with fail
            refine (HPA.out _).mono ?_
            rintro e w14 ⟨rfl, hc14⟩
            have HC14 := Lib.hid (HC13.out.no hc14)
            clear hc14
            go_wp2_with fail
            refine (HPB.out _).mono ?_
            rintro e w15 ⟨rfl, hc15⟩
            have HC15 := Lib.hid (HC14.out.no hc15)
            clear hc15
            go_wp2_with fail
            refine (HCAx.out _).mono ?_
            rintro e w16 ⟨rfl, hc16⟩
            have HC16 := Lib.hid (HC15.out.no hc16)
            clear hc16
            go_wp2_with fail
            refine (HCBBx.out _).mono ?_
            rintro e w17 ⟨rfl, hc17⟩
            have HC17 := Lib.hid (HC16.out.no hc17)
            clear hc17
            go_wp2_with fail
            refine (HAC.out _).mono ?_
            rintro e w18 ⟨rfl, hc18⟩
            have HC18 := Lib.hid (HC17.out.no hc18)
            clear hc18
            go_wp2_with fail
            refine (wakes4_calls _).mono ?_
            rintro e w19 ⟨rfl, hc19⟩
            have HC19 := Lib.hid (HC18.out.no hc19)
            clear hc19
            go_wp2
            go_ret
            exact ⟨rfl, HC19.out⟩
      | true =>
        have hcb := K3.out rfl rfl rfl
        subst hcb
        cases ba with
        | false =>
          by_cases hm : me = 0
          · subst hm
            have HAAx := Lib.hid (HAA.out rfl)
            have HA0x := Lib.hid (HA0.out rfl)
            have hza : (za == 0) = true := by rw [KA.out.1 rfl]; rfl
            have hzb : (zb == 0) = true := by rw [KB.out.1 rfl]; rfl
            have HCAx := Lib.hid (HCA.out rfl rfl)
            have HCBBx := Lib.hid (HCBB.out rfl rfl)
            have HMBx := Lib.hid (HMB.out rfl)
            have HSCx := Lib.hid (HSC.out rfl)
            go_enter Tryd.func7, Tryd.ntmps7
            go_wp2_with fail
            refine (wakes4_calls _).mono ?_
            rintro e w1 ⟨rfl, hc1⟩
            have HC1 := Lib.hid hc1
            clear hc1
            go_wp2_with fail
            refine (HPa.out _).mono ?_
            rintro e w2 ⟨rfl, rfl⟩
            go_wp2_with fail
            refine (HPb.out _).mono ?_
            rintro e w3 ⟨rfl, rfl⟩
            go_wp2_with fail
            refine (HPc.out _).mono ?_
            rintro e w4 ⟨rfl, rfl⟩
            go_wp2_with fail
            refine (HPA.out _).mono ?_
            rintro e w5 ⟨rfl, hc5⟩
            have HC5 := Lib.hid (HC1.out.no hc5)
            clear hc5
            go_wp2_with fail
            refine (HAAx.out _).mono ?_
            rintro e w6 ⟨rfl, hc6⟩
            have HC6 := Lib.hid (HC5.out.no hc6)
            clear hc6
            go_wp2_with fail
            refine (HA0x.out _).mono ?_
            rintro e w7 ⟨rfl, hc7⟩
            have HC7 := Lib.hid (HC6.out.no hc7)
            clear hc7
            go_wp2_with fail
            refine (HAB.out _).mono ?_
            rintro e w8 ⟨rfl, hc8⟩
            have HC8 := Lib.hid (HC7.out.no hc8)
            clear hc8
            go_wp2_with fail
            refine (HBC.out _).mono ?_
            rintro e w9 ⟨rfl, hc9⟩
            have HC9 := Lib.hid (HC8.out.no hc9)
            clear hc9
            go_wp2_with fail
            refine (HBA.out _).mono ?_
            rintro e w10 ⟨rfl, hc10⟩
            have HC10 := Lib.hid (HC9.out.no hc10)
            clear hc10
            go_wp2_with fail
            refine (HAC.out _).mono ?_
            rintro e w11 ⟨rfl, hc11⟩
            have HC11 := Lib.hid (HC10.out.no hc11)
            clear hc11
            go_wp2_with fail
            refine (HBC.out _).mono ?_
            rintro e w12 ⟨rfl, hc12⟩
            have HC12 := Lib.hid (HC11.out.no hc12)
            clear hc12
            go_wp2_with fail
            refine (HCB.out _).mono ?_
            rintro e w13 ⟨rfl, hc13⟩
            have HC13 := Lib.hid (HC12.out.no hc13)
            clear hc13
            go_wp2_with fail
            refine (HMV.out _).mono ?_
            rintro e w14 ⟨rfl, hc14⟩
            have HC14 := Lib.hid (HC13.out.no hc14)
            clear hc14
            go_wp2_with fail
            refine (HMBx.out _).mono ?_
            rintro e w15 ⟨rfl, hc15⟩
            have HC15 := Lib.hid (HC14.out.no hc15)
            clear hc15
            go_wp2_with fail
            refine (HSCx.out _).mono ?_
            rintro e w16 ⟨rfl, hc16⟩
            have HC16 := Lib.hid (HC15.out.no hc16)
            clear hc16
            go_wp2_with fail
            refine (HCM.out _).mono ?_
            rintro e w17 ⟨rfl, hc17⟩
            have HC17 := Lib.hid (HC16.out.no hc17)
            clear hc17
            go_wp2_with fail
            refine (HPA.out _).mono ?_
            rintro e w18 ⟨rfl, hc18⟩
            have HC18 := Lib.hid (HC17.out.no hc18)
            clear hc18
            go_wp2_with fail
            refine (HPB.out _).mono ?_
            rintro e w19 ⟨rfl, hc19⟩
            have HC19 := Lib.hid (HC18.out.no hc19)
            clear hc19
            go_wp2_with fail
            refine (HCAx.out _).mono ?_
            rintro e w20 ⟨rfl, hc20⟩
            have HC20 := Lib.hid (HC19.out.no hc20)
            clear hc20
            go_wp2_with fail
            refine (HCBBx.out _).mono ?_
            rintro e w21 ⟨rfl, hc21⟩
            have HC21 := Lib.hid (HC20.out.no hc21)
            clear hc21
            go_wp2_with fail
            refine (HAC.out _).mono ?_
            rintro e w22 ⟨rfl, hc22⟩
            have HC22 := Lib.hid (HC21.out.no hc22)
            clear hc22
            go_wp2_with fail
            refine (HBC.out _).mono ?_
            rintro e w23 ⟨rfl, hc23⟩
            have HC23 := Lib.hid (HC22.out.no hc23)
            clear hc23
            go_wp2_with fail
            refine (wakes4_calls _).mono ?_
            rintro e w24 ⟨rfl, hc24⟩
            have HC24 := Lib.hid (HC23.out.no hc24)
            clear hc24
            go_wp2
            go_ret
            exact ⟨rfl, HC24.out⟩
          · have hme : (me == 0) = false := by simpa using hm
            have HAAx := Lib.hid (HAA.out rfl)
            have HA0x := Lib.hid (HA0.out rfl)
            have hza : (za == 0) = true := by rw [KA.out.1 rfl]; rfl
            have hzb : (zb == 0) = true := by rw [KB.out.1 rfl]; rfl
            have HCAx := Lib.hid (HCA.out rfl rfl)
            have HCBBx := Lib.hid (HCBB.out rfl rfl)
            go_enter Tryd.func7, Tryd.ntmps7
            go_wp2_with fail
            refine (wakes4_calls _).mono ?_
            rintro e w1 ⟨rfl, hc1⟩
            have HC1 := Lib.hid hc1
            clear hc1
            go_wp2_with fail
            refine (HPa.out _).mono ?_
            rintro e w2 ⟨rfl, rfl⟩
            go_wp2_with fail
            refine (HPb.out _).mono ?_
            rintro e w3 ⟨rfl, rfl⟩
            go_wp2_with fail
            refine (HPc.out _).mono ?_
            rintro e w4 ⟨rfl, rfl⟩
            go_wp2_with fail
            refine (HPA.out _).mono ?_
            rintro e w5 ⟨rfl, hc5⟩
            have HC5 := Lib.hid (HC1.out.no hc5)
            clear hc5
            go_wp2_with fail
            refine (HAAx.out _).mono ?_
            rintro e w6 ⟨rfl, hc6⟩
            have HC6 := Lib.hid (HC5.out.no hc6)
            clear hc6
            go_wp2_with fail
            refine (HA0x.out _).mono ?_
            rintro e w7 ⟨rfl, hc7⟩
            have HC7 := Lib.hid (HC6.out.no hc7)
            clear hc7
            go_wp2_with fail
            refine (HAB.out _).mono ?_
            rintro e w8 ⟨rfl, hc8⟩
            have HC8 := Lib.hid (HC7.out.no hc8)
            clear hc8
            go_wp2_with fail
            refine (HBC.out _).mono ?_
            rintro e w9 ⟨rfl, hc9⟩
            have HC9 := Lib.hid (HC8.out.no hc9)
            clear hc9
            go_wp2_with fail
            refine (HBA.out _).mono ?_
            rintro e w10 ⟨rfl, hc10⟩
            have HC10 := Lib.hid (HC9.out.no hc10)
            clear hc10
            go_wp2_with fail
            refine (HAC.out _).mono ?_
            rintro e w11 ⟨rfl, hc11⟩
            have HC11 := Lib.hid (HC10.out.no hc11)
            clear hc11
            go_wp2_with fail
            refine (HBC.out _).mono ?_
            rintro e w12 ⟨rfl, hc12⟩
            have HC12 := Lib.hid (HC11.out.no hc12)
            clear hc12
            go_wp2_with fail
            refine (HCB.out _).mono ?_
            rintro e w13 ⟨rfl, hc13⟩
            have HC13 := Lib.hid (HC12.out.no hc13)
            clear hc13
            go_wp2_with fail
            refine (HMV.out _).mono ?_
            rintro e w14 ⟨rfl, hc14⟩
            have HC14 := Lib.hid (HC13.out.no hc14)
            clear hc14
            go_wp2_with fail
            refine (HCM.out _).mono ?_
            rintro e w15 ⟨rfl, hc15⟩
            have HC15 := Lib.hid (HC14.out.no hc15)
            clear hc15
            go_wp2_with fail
            refine (HPA.out _).mono ?_
            rintro e w16 ⟨rfl, hc16⟩
            have HC16 := Lib.hid (HC15.out.no hc16)
            clear hc16
            go_wp2_with fail
            refine (HPB.out _).mono ?_
            rintro e w17 ⟨rfl, hc17⟩
            have HC17 := Lib.hid (HC16.out.no hc17)
            clear hc17
            go_wp2_with fail
            refine (HCAx.out _).mono ?_
            rintro e w18 ⟨rfl, hc18⟩
            have HC18 := Lib.hid (HC17.out.no hc18)
            clear hc18
            go_wp2_with fail
            refine (HCBBx.out _).mono ?_
            rintro e w19 ⟨rfl, hc19⟩
            have HC19 := Lib.hid (HC18.out.no hc19)
            clear hc19
            go_wp2_with fail
            refine (HAC.out _).mono ?_
            rintro e w20 ⟨rfl, hc20⟩
            have HC20 := Lib.hid (HC19.out.no hc20)
            clear hc20
            go_wp2_with fail
            refine (HBC.out _).mono ?_
            rintro e w21 ⟨rfl, hc21⟩
            have HC21 := Lib.hid (HC20.out.no hc21)
            clear hc21
            go_wp2_with fail
            refine (wakes4_calls _).mono ?_
            rintro e w22 ⟨rfl, hc22⟩
            have HC22 := Lib.hid (HC21.out.no hc22)
            clear hc22
            go_wp2
            go_ret
            exact ⟨rfl, HC22.out⟩
        | true =>
          exact absurd (K4.out rfl rfl) (by decide)
    | true =>
      have hac := K1.out rfl rfl
      subst hac
      cases ba with
      | false =>
        by_cases hm : me = 0
        · subst hm
          have HAAx := Lib.hid (HAA.out rfl)
          have HA0x := Lib.hid (HA0.out rfl)
          have hza : (za == 0) = true := by rw [KA.out.1 rfl]; rfl
          have hzb : (zb == 0) = true := by rw [KB.out.1 rfl]; rfl
          have HCAx := Lib.hid (HCA.out rfl rfl)
          have HCBBx := Lib.hid (HCBB.out rfl rfl)
          have HCCx := Lib.hid (HCC.out rfl rfl rfl rfl)
          have HMBx := Lib.hid (HMB.out rfl)
          have HSCx := Lib.hid (HSC.out rfl)
          go_enter Tryd.func7, Tryd.ntmps7
          go_wp2_with fail
          refine (wakes4_calls _).mono ?_
          rintro e w1 ⟨rfl, hc1⟩
          have HC1 := Lib.hid hc1
          clear hc1
          go_wp2_with fail
          refine (HPa.out _).mono ?_
          rintro e w2 ⟨rfl, rfl⟩
          go_wp2_with fail
          refine (HPb.out _).mono ?_
          rintro e w3 ⟨rfl, rfl⟩
          go_wp2_with fail
          refine (HPc.out _).mono ?_
          rintro e w4 ⟨rfl, rfl⟩
          go_wp2_with fail
          refine (HPA.out _).mono ?_
          rintro e w5 ⟨rfl, hc5⟩
          have HC5 := Lib.hid (HC1.out.no hc5)
          clear hc5
          go_wp2_with fail
          refine (HAAx.out _).mono ?_
          rintro e w6 ⟨rfl, hc6⟩
          have HC6 := Lib.hid (HC5.out.no hc6)
          clear hc6
          go_wp2_with fail
          refine (HA0x.out _).mono ?_
          rintro e w7 ⟨rfl, hc7⟩
          have HC7 := Lib.hid (HC6.out.no hc7)
          clear hc7
          go_wp2_with fail
          refine (HAB.out _).mono ?_
          rintro e w8 ⟨rfl, hc8⟩
          have HC8 := Lib.hid (HC7.out.no hc8)
          clear hc8
          go_wp2_with fail
          refine (HBC.out _).mono ?_
          rintro e w9 ⟨rfl, hc9⟩
          have HC9 := Lib.hid (HC8.out.no hc9)
          clear hc9
          go_wp2_with fail
          refine (HAC.out _).mono ?_
          rintro e w10 ⟨rfl, hc10⟩
          have HC10 := Lib.hid (HC9.out.no hc10)
          clear hc10
          go_wp2_with fail
          refine (HBA.out _).mono ?_
          rintro e w11 ⟨rfl, hc11⟩
          have HC11 := Lib.hid (HC10.out.no hc11)
          clear hc11
          go_wp2_with fail
          refine (HAC.out _).mono ?_
          rintro e w12 ⟨rfl, hc12⟩
          have HC12 := Lib.hid (HC11.out.no hc12)
          clear hc12
          go_wp2_with fail
          refine (HBC.out _).mono ?_
          rintro e w13 ⟨rfl, hc13⟩
          have HC13 := Lib.hid (HC12.out.no hc13)
          clear hc13
          go_wp2_with fail
          refine (HMV.out _).mono ?_
          rintro e w14 ⟨rfl, hc14⟩
          have HC14 := Lib.hid (HC13.out.no hc14)
          clear hc14
          go_wp2_with fail
          refine (HMBx.out _).mono ?_
          rintro e w15 ⟨rfl, hc15⟩
          have HC15 := Lib.hid (HC14.out.no hc15)
          clear hc15
          go_wp2_with fail
          refine (HSCx.out _).mono ?_
          rintro e w16 ⟨rfl, hc16⟩
          have HC16 := Lib.hid (HC15.out.no hc16)
          clear hc16
          go_wp2_with fail
          refine (HCM.out _).mono ?_
          rintro e w17 ⟨rfl, hc17⟩
          have HC17 := Lib.hid (HC16.out.no hc17)
          clear hc17
          go_wp2_with fail
          refine (HPA.out _).mono ?_
          rintro e w18 ⟨rfl, hc18⟩
          have HC18 := Lib.hid (HC17.out.no hc18)
          clear hc18
          go_wp2_with fail
          refine (HPB.out _).mono ?_
          rintro e w19 ⟨rfl, hc19⟩
          have HC19 := Lib.hid (HC18.out.no hc19)
          clear hc19
          go_wp2_with fail
          refine (HCAx.out _).mono ?_
          rintro e w20 ⟨rfl, hc20⟩
          have HC20 := Lib.hid (HC19.out.no hc20)
          clear hc20
          go_wp2_with fail
          refine (HCBBx.out _).mono ?_
          rintro e w21 ⟨rfl, hc21⟩
          have HC21 := Lib.hid (HC20.out.no hc21)
          clear hc21
          go_wp2_with fail
          refine (HAC.out _).mono ?_
          rintro e w22 ⟨rfl, hc22⟩
          have HC22 := Lib.hid (HC21.out.no hc22)
          clear hc22
          go_wp2_with fail
          refine (HBC.out _).mono ?_
          rintro e w23 ⟨rfl, hc23⟩
          have HC23 := Lib.hid (HC22.out.no hc23)
          clear hc23
          go_wp2_with fail
          refine (HCCx.out _).mono ?_
          rintro e w24 ⟨rfl, hc24⟩
          have HC24 := Lib.hid (HC23.out.no hc24)
          clear hc24
          go_wp2_with fail
          refine (wakes4_calls _).mono ?_
          rintro e w25 ⟨rfl, hc25⟩
          have HC25 := Lib.hid (HC24.out.no hc25)
          clear hc25
          go_wp2
          go_ret
          exact ⟨rfl, HC25.out⟩
        · have hme : (me == 0) = false := by simpa using hm
          have HAAx := Lib.hid (HAA.out rfl)
          have HA0x := Lib.hid (HA0.out rfl)
          have hza : (za == 0) = true := by rw [KA.out.1 rfl]; rfl
          have hzb : (zb == 0) = true := by rw [KB.out.1 rfl]; rfl
          have HCAx := Lib.hid (HCA.out rfl rfl)
          have HCBBx := Lib.hid (HCBB.out rfl rfl)
          have HCCx := Lib.hid (HCC.out rfl rfl rfl rfl)
          go_enter Tryd.func7, Tryd.ntmps7
          go_wp2_with fail
          refine (wakes4_calls _).mono ?_
          rintro e w1 ⟨rfl, hc1⟩
          have HC1 := Lib.hid hc1
          clear hc1
          go_wp2_with fail
          refine (HPa.out _).mono ?_
          rintro e w2 ⟨rfl, rfl⟩
          go_wp2_with fail
          refine (HPb.out _).mono ?_
          rintro e w3 ⟨rfl, rfl⟩
          go_wp2_with fail
          refine (HPc.out _).mono ?_
          rintro e w4 ⟨rfl, rfl⟩
          go_wp2_with fail
          refine (HPA.out _).mono ?_
          rintro e w5 ⟨rfl, hc5⟩
          have HC5 := Lib.hid (HC1.out.no hc5)
          clear hc5
          go_wp2_with fail
          refine (HAAx.out _).mono ?_
          rintro e w6 ⟨rfl, hc6⟩
          have HC6 := Lib.hid (HC5.out.no hc6)
          clear hc6
          go_wp2_with fail
          refine (HA0x.out _).mono ?_
          rintro e w7 ⟨rfl, hc7⟩
          have HC7 := Lib.hid (HC6.out.no hc7)
          clear hc7
          go_wp2_with fail
          refine (HAB.out _).mono ?_
          rintro e w8 ⟨rfl, hc8⟩
          have HC8 := Lib.hid (HC7.out.no hc8)
          clear hc8
          go_wp2_with fail
          refine (HBC.out _).mono ?_
          rintro e w9 ⟨rfl, hc9⟩
          have HC9 := Lib.hid (HC8.out.no hc9)
          clear hc9
          go_wp2_with fail
          refine (HAC.out _).mono ?_
          rintro e w10 ⟨rfl, hc10⟩
          have HC10 := Lib.hid (HC9.out.no hc10)
          clear hc10
          go_wp2_with fail
          refine (HBA.out _).mono ?_
          rintro e w11 ⟨rfl, hc11⟩
          have HC11 := Lib.hid (HC10.out.no hc11)
          clear hc11
          go_wp2_with fail
          refine (HAC.out _).mono ?_
          rintro e w12 ⟨rfl, hc12⟩
          have HC12 := Lib.hid (HC11.out.no hc12)
          clear hc12
          go_wp2_with fail
          refine (HBC.out _).mono ?_
          rintro e w13 ⟨rfl, hc13⟩
          have HC13 := Lib.hid (HC12.out.no hc13)
          clear hc13
          go_wp2_with fail
          refine (HMV.out _).mono ?_
          rintro e w14 ⟨rfl, hc14⟩
          have HC14 := Lib.hid (HC13.out.no hc14)
          clear hc14
          go_wp2_with fail
          refine (HCM.out _).mono ?_
          rintro e w15 ⟨rfl, hc15⟩
          have HC15 := Lib.hid (HC14.out.no hc15)
          clear hc15
          go_wp2_with fail
          refine (HPA.out _).mono ?_
          rintro e w16 ⟨rfl, hc16⟩
          have HC16 := Lib.hid (HC15.out.no hc16)
          clear hc16
          go_wp2_with fail
          refine (HPB.out _).mono ?_
          rintro e w17 ⟨rfl, hc17⟩
          have HC17 := Lib.hid (HC16.out.no hc17)
          clear hc17
          go_wp2_with fail
          refine (HCAx.out _).mono ?_
          rintro e w18 ⟨rfl, hc18⟩
          have HC18 := Lib.hid (HC17.out.no hc18)
          clear hc18
          go_wp2_with fail
          refine (HCBBx.out _).mono ?_
          rintro e w19 ⟨rfl, hc19⟩
          have HC19 := Lib.hid (HC18.out.no hc19)
          clear hc19
          go_wp2_with fail
          refine (HAC.out _).mono ?_
          rintro e w20 ⟨rfl, hc20⟩
          have HC20 := Lib.hid (HC19.out.no hc20)
          clear hc20
          go_wp2_with fail
          refine (HBC.out _).mono ?_
          rintro e w21 ⟨rfl, hc21⟩
          have HC21 := Lib.hid (HC20.out.no hc21)
          clear hc21
          go_wp2_with fail
          refine (HCCx.out _).mono ?_
          rintro e w22 ⟨rfl, hc22⟩
          have HC22 := Lib.hid (HC21.out.no hc22)
          clear hc22
          go_wp2_with fail
          refine (wakes4_calls _).mono ?_
          rintro e w23 ⟨rfl, hc23⟩
          have HC23 := Lib.hid (HC22.out.no hc23)
          clear hc23
          go_wp2
          go_ret
          exact ⟨rfl, HC23.out⟩
      | true =>
        by_cases hm : me = 0
        · subst hm
          have HAAx := Lib.hid (HAA.out rfl)
          have HA0x := Lib.hid (HA0.out rfl)
          have hza : (za == 0) = true := by rw [KA.out.1 rfl]; rfl
          have hzb : (zb == 0) = true := by rw [KB.out.1 rfl]; rfl
          have HCAx := Lib.hid (HCA.out rfl rfl)
          have HCBBx := Lib.hid (HCBB.out rfl rfl)
          have HCCx := Lib.hid (HCC.out rfl rfl rfl rfl)
          have hxe := K2.out rfl rfl
          have HMBx := Lib.hid (HMB.out rfl)
          have HSCx := Lib.hid (HSC.out rfl)
          go_enter Tryd.func7, Tryd.ntmps7
          go_wp2_with fail
          refine (wakes4_calls _).mono ?_
          rintro e w1 ⟨rfl, hc1⟩
          have HC1 := Lib.hid hc1
          clear hc1
          go_wp2_with fail
          refine (HPa.out _).mono ?_
          rintro e w2 ⟨rfl, rfl⟩
          go_wp2_with fail
          refine (HPb.out _).mono ?_
          rintro e w3 ⟨rfl, rfl⟩
          go_wp2_with fail
          refine (HPc.out _).mono ?_
          rintro e w4 ⟨rfl, rfl⟩
          go_wp2_with fail
          refine (HPA.out _).mono ?_
          rintro e w5 ⟨rfl, hc5⟩
          have HC5 := Lib.hid (HC1.out.no hc5)
          clear hc5
          go_wp2_with fail
          refine (HAAx.out _).mono ?_
          rintro e w6 ⟨rfl, hc6⟩
          have HC6 := Lib.hid (HC5.out.no hc6)
          clear hc6
          go_wp2_with fail
          refine (HA0x.out _).mono ?_
          rintro e w7 ⟨rfl, hc7⟩
          have HC7 := Lib.hid (HC6.out.no hc7)
          clear hc7
          go_wp2_with fail
          refine (HAB.out _).mono ?_
          rintro e w8 ⟨rfl, hc8⟩
          have HC8 := Lib.hid (HC7.out.no hc8)
          clear hc8
          go_wp2_with fail
          refine (HBC.out _).mono ?_
          rintro e w9 ⟨rfl, hc9⟩
          have HC9 := Lib.hid (HC8.out.no hc9)
          clear hc9
          go_wp2_with fail
          refine (HAC.out _).mono ?_
          rintro e w10 ⟨rfl, hc10⟩
          have HC10 := Lib.hid (HC9.out.no hc10)
          clear hc10
          go_wp2_with fail
          refine (HBA.out _).mono ?_
          rintro e w11 ⟨rfl, hc11⟩
          have HC11 := Lib.hid (HC10.out.no hc11)
          clear hc11
          go_wp2_with fail
          refine (HAC.out _).mono ?_
          rintro e w12 ⟨rfl, hc12⟩
          have HC12 := Lib.hid (HC11.out.no hc12)
          clear hc12
          go_wp2_with fail
          refine (HBC.out _).mono ?_
          rintro e w13 ⟨rfl, hc13⟩
          have HC13 := Lib.hid (HC12.out.no hc13)
          clear hc13
          go_wp2_with fail
          refine (HMV.out _).mono ?_
          rintro e w14 ⟨rfl, hc14⟩
          have HC14 := Lib.hid (HC13.out.no hc14)
          clear hc14
          go_wp2_with fail
          refine (HMBx.out _).mono ?_
          rintro e w15 ⟨rfl, hc15⟩
          have HC15 := Lib.hid (HC14.out.no hc15)
          clear hc15
          go_wp2_with fail
          refine (HSCx.out _).mono ?_
          rintro e w16 ⟨rfl, hc16⟩
          have HC16 := Lib.hid (HC15.out.no hc16)
          clear hc16
          go_wp2_with fail
          refine (HCM.out _).mono ?_
          rintro e w17 ⟨rfl, hc17⟩
          have HC17 := Lib.hid (HC16.out.no hc17)
          clear hc17
          go_wp2_with fail
          refine (HPA.out _).mono ?_
          rintro e w18 ⟨rfl, hc18⟩
          have HC18 := Lib.hid (HC17.out.no hc18)
          clear hc18
          go_wp2_with fail
          refine (HPB.out _).mono ?_
          rintro e w19 ⟨rfl, hc19⟩
          have HC19 := Lib.hid (HC18.out.no hc19)
          clear hc19
          go_wp2_with fail
          refine (HCAx.out _).mono ?_
          rintro e w20 ⟨rfl, hc20⟩
          have HC20 := Lib.hid (HC19.out.no hc20)
          clear hc20
          go_wp2_with fail
          refine (HCBBx.out _).mono ?_
          rintro e w21 ⟨rfl, hc21⟩
          have HC21 := Lib.hid (HC20.out.no hc21)
          clear hc21
          go_wp2_with fail
          refine (HAC.out _).mono ?_
          rintro e w22 ⟨rfl, hc22⟩
          have HC22 := Lib.hid (HC21.out.no hc22)
          clear hc22
          go_wp2_with fail
          refine (HBC.out _).mono ?_
          rintro e w23 ⟨rfl, hc23⟩
          have HC23 := Lib.hid (HC22.out.no hc23)
          clear hc23
          go_wp2_with fail
          refine (HCCx.out _).mono ?_
          rintro e w24 ⟨rfl, hc24⟩
          have HC24 := Lib.hid (HC23.out.no hc24)
          clear hc24
          go_wp2_with fail
          refine (wakes4_calls _).mono ?_
          rintro e w25 ⟨rfl, hc25⟩
          have HC25 := Lib.hid (HC24.out.no hc25)
          clear hc25
          go_wp2
          go_ret
          exact ⟨rfl, HC25.out⟩
        · have hme : (me == 0) = false := by simpa using hm
          have HAAx := Lib.hid (HAA.out rfl)
          have HA0x := Lib.hid (HA0.out rfl)
          have hza : (za == 0) = true := by rw [KA.out.1 rfl]; rfl
          have hzb : (zb == 0) = true := by rw [KB.out.1 rfl]; rfl
          have HCAx := Lib.hid (HCA.out rfl rfl)
          have HCBBx := Lib.hid (HCBB.out rfl rfl)
          have HCCx := Lib.hid (HCC.out rfl rfl rfl rfl)
          have hxe := K2.out rfl rfl
          go_enter Tryd.func7, Tryd.ntmps7
          go_wp2_with fail
          refine (wakes4_calls _).mono ?_
          rintro e w1 ⟨rfl, hc1⟩
          have HC1 := Lib.hid hc1
          clear hc1
          go_wp2_with fail
          refine (HPa.out _).mono ?_
          rintro e w2 ⟨rfl, rfl⟩
          go_wp2_with fail
          refine (HPb.out _).mono ?_
          rintro e w3 ⟨rfl, rfl⟩
          go_wp2_with fail
          refine (HPc.out _).mono ?_
          rintro e w4 ⟨rfl, rfl⟩
          go_wp2_with fail
          refine (HPA.out _).mono ?_
          rintro e w5 ⟨rfl, hc5⟩
          have HC5 := Lib.hid (HC1.out.no hc5)
          clear hc5
          go_wp2_with fail
          refine (HAAx.out _).mono ?_
          rintro e w6 ⟨rfl, hc6⟩
          have HC6 := Lib.hid (HC5.out.no hc6)
          clear hc6
          go_wp2_with fail
          refine (HA0x.out _).mono ?_
          rintro e w7 ⟨rfl, hc7⟩
          have HC7 := Lib.hid (HC6.out.no hc7)
          clear hc7
          go_wp2_with fail
          refine (HAB.out _).mono ?_
          rintro e w8 ⟨rfl, hc8⟩
          have HC8 := Lib.hid (HC7.out.no hc8)
          clear hc8
          go_wp2_with fail
          refine (HBC.out _).mono ?_
          rintro e w9 ⟨rfl, hc9⟩
          have HC9 := Lib.hid (HC8.out.no hc9)
          clear hc9
          go_wp2_with fail
          refine (HAC.out _).mono ?_
          rintro e w10 ⟨rfl, hc10⟩
          have HC10 := Lib.hid (HC9.out.no hc10)
          clear hc10
          go_wp2_with fail
          refine (HBA.out _).mono ?_
          rintro e w11 ⟨rfl, hc11⟩
          have HC11 := Lib.hid (HC10.out.no hc11)
          clear hc11
          go_wp2_with fail
          refine (HAC.out _).mono ?_
          rintro e w12 ⟨rfl, hc12⟩
          have HC12 := Lib.hid (HC11.out.no hc12)
          clear hc12
          go_wp2_with fail
          refine (HBC.out _).mono ?_
          rintro e w13 ⟨rfl, hc13⟩
          have HC13 := Lib.hid (HC12.out.no hc13)
          clear hc13
          go_wp2_with fail
          refine (HMV.out _).mono ?_
          rintro e w14 ⟨rfl, hc14⟩
          have HC14 := Lib.hid (HC13.out.no hc14)
          clear hc14
          go_wp2_with fail
          refine (HCM.out _).mono ?_
          rintro e w15 ⟨rfl, hc15⟩
          have HC15 := Lib.hid (HC14.out.no hc15)
          clear hc15
          go_wp2_with fail
          refine (HPA.out _).mono ?_
          rintro e w16 ⟨rfl, hc16⟩
          have HC16 := Lib.hid (HC15.out.no hc16)
          clear hc16
          go_wp2_with fail
          refine (HPB.out _).mono ?_
          rintro e w17 ⟨rfl, hc17⟩
          have HC17 := Lib.hid (HC16.out.no hc17)
          clear hc17
          go_wp2_with fail
          refine (HCAx.out _).mono ?_
          rintro e w18 ⟨rfl, hc18⟩
          have HC18 := Lib.hid (HC17.out.no hc18)
          clear hc18
          go_wp2_with fail
          refine (HCBBx.out _).mono ?_
          rintro e w19 ⟨rfl, hc19⟩
          have HC19 := Lib.hid (HC18.out.no hc19)
          clear hc19
          go_wp2_with fail
          refine (HAC.out _).mono ?_
          rintro e w20 ⟨rfl, hc20⟩
          have HC20 := Lib.hid (HC19.out.no hc20)
          clear hc20
          go_wp2_with fail
          refine (HBC.out _).mono ?_
          rintro e w21 ⟨rfl, hc21⟩
          have HC21 := Lib.hid (HC20.out.no hc21)
          clear hc21
          go_wp2_with fail
          refine (HCCx.out _).mono ?_
          rintro e w22 ⟨rfl, hc22⟩
          have HC22 := Lib.hid (HC21.out.no hc22)
          clear hc22
          go_wp2_with fail
          refine (wakes4_calls _).mono ?_
          rintro e w23 ⟨rfl, hc23⟩
          have HC23 := Lib.hid (HC22.out.no hc23)
          clear hc23
          go_wp2
          go_ret
          exact ⟨rfl, HC23.out⟩
theorem nameLies_walk (w : World) (s1 : ByteArray) (hs1 : s1.size ≤ 140737488351232) (s2 : ByteArray) (hs2 : s2.size ≤ 140737488351232) (s3 : ByteArray) (hs3 : s3.size ≤ 140737488351232) : Calls Tryd.prog 7 #[.string s1, .string s2, .string s3] w fun e w' => e = .returned (.bool true) ∧ Below w.heap.size w w' :=
  (nameLies_core w s1 s2 s3 hs1 hs2 hs3).mono fun _ _ h => ⟨h.1, h.2.below⟩
end Go.Proofs.YtkjbbidnpnecjaaDoor
