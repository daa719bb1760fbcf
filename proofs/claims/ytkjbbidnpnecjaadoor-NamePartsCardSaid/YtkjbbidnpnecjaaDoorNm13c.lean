/-
  Names: orders: cmp.Compare, slices.Compare, the reference's Order, Compare.
-/
import Derived.Test.YtkjbbidnpnecjaaDoorNm13b
namespace Go.Proofs.YtkjbbidnpnecjaaDoor
open Go.RowKit
set_option linter.unusedVariables false
set_option linter.unusedSimpArgs false
set_option maxRecDepth 100000

/-- Compare. -/
def compF (p q : List UInt8) : Int := if isP p && isP q then ordL (partsL p) (partsL q) else if isP p then -1 else if isP q then 1 else Lib.compareBytes p q
set_option maxHeartbeats 6400000 in
theorem compare_calls (w : World) (p q : List UInt8) (hp : p.length ≤ 9223372036854775807) (hq : q.length ≤ 9223372036854775807) :
    Calls Tryd.prog 36 #[.string (mkS p), .string (mkS q)] w fun e w' => e = .returned (.int .i64 (compF p q)) ∧ Chg No w w' := by
  have HI1 : Hid (∀ W : World, Calls Tryd.prog 44 #[.slice (some ⟨W.heap.size, 0, none⟩) 1 1] (W.alloc (.cells #[.string (mkS p)] 9)) fun e w' => e = .returned (.int .i64 (isF [p])) ∧ Chg No (W.alloc (.cells #[.string (mkS p)] 9)) w') := fun W => is_calls _ _ 1 1 [p] (sl1 W p) (by omega) (by simpa using hp)
  have HI2 : Hid (∀ W : World, Calls Tryd.prog 44 #[.slice (some ⟨W.heap.size, 0, none⟩) 1 1] (W.alloc (.cells #[.string (mkS q)] 9)) fun e w' => e = .returned (.int .i64 (isF [q])) ∧ Chg No (W.alloc (.cells #[.string (mkS q)] 9)) w') := fun W => is_calls _ _ 1 1 [q] (sl1 W q) (by omega) (by simpa using hq)
  rw [isF1] at HI1 HI2
  have K1 : Hid (isP p = true ↔ (pathF p).1 = 0) := isP_iff p
  have K2 : Hid (isP q = true ↔ (pathF q).1 = 0) := isP_iff q
  have HR : Hid (compF p q = if isP p && isP q then ordL (partsL p) (partsL q) else if isP p then -1 else if isP q then 1 else Lib.compareBytes p q) := rfl
  have HLP : Hid (isP p = true → p.length ≤ 200) := fun h => path_len ((isP_iff _).1 h)
  have HLQ : Hid (isP q = true → q.length ≤ 200) := fun h => path_len ((isP_iff _).1 h)
  have HFP : Hid (isP p = true → Fit (partsL p)) := fun h => fit_parts ((isP_iff _).1 h)
  have HFQ : Hid (isP q = true → Fit (partsL q)) := fun h => fit_parts ((isP_iff _).1 h)
  have HCP := Lib.hid fun W => Tryd.strings_Compare (mkS p) (mkS q) W
  rw [mkS_list, mkS_list] at HCP
  generalize compF p q = R at *
  generalize Lib.compareBytes p q = cb at *
  generalize isP p = A at *
  generalize isP q = B at *
  generalize (pathF p).1 = za at *
  generalize (pathF q).1 = zb at *
  cases A with
  | false =>
    cases B with
    | false =>
      have hza : (za == 0) = false := by (simp only [beq_eq_false_iff_ne, ne_eq]; exact fun h => absurd (K1.out.2 h) (by decide))
      have hzb : (zb == 0) = false := by (simp only [beq_eq_false_iff_ne, ne_eq]; exact fun h => absurd (K2.out.2 h) (by decide))
      go_enter Tryd.func36, Tryd.ntmps36
      go_wp2_with fail
      refine (HI1.out w).mono ?_
      rintro e w1 ⟨rfl, hc1⟩
      have HC1 : Hid (Chg No w w1) := ((Chg.refl No w).alloc _).no hc1
      clear hc1
      go_wp2_with fail
      refine (HI2.out w1).mono ?_
      rintro e w2 ⟨rfl, hc2⟩
      have HC2 : Hid (Chg No w w2) := (HC1.out.alloc _).no hc2
      clear hc2
      go_wp2_with fail
      refine (HCP.out _).mono ?_
      rintro e w3 ⟨rfl, hw⟩
      obtain rfl := hw
      go_wp2
      go_ret
      exact ⟨by rw [HR.out]; rfl, HC2.out⟩
    | true =>
      have hza : (za == 0) = false := by (simp only [beq_eq_false_iff_ne, ne_eq]; exact fun h => absurd (K1.out.2 h) (by decide))
      have hzb : (zb == 0) = true := by rw [K2.out.1 rfl]; rfl
      go_enter Tryd.func36, Tryd.ntmps36
      go_wp2_with fail
      refine (HI1.out w).mono ?_
      rintro e w1 ⟨rfl, hc1⟩
      have HC1 : Hid (Chg No w w1) := ((Chg.refl No w).alloc _).no hc1
      clear hc1
      go_wp2_with fail
      refine (HI2.out w1).mono ?_
      rintro e w2 ⟨rfl, hc2⟩
      have HC2 : Hid (Chg No w w2) := (HC1.out.alloc _).no hc2
      clear hc2
      go_wp2
      go_ret
      exact ⟨by rw [HR.out]; rfl, HC2.out⟩
  | true =>
    cases B with
    | false =>
      have hza : (za == 0) = true := by rw [K1.out.1 rfl]; rfl
      have hzb : (zb == 0) = false := by (simp only [beq_eq_false_iff_ne, ne_eq]; exact fun h => absurd (K2.out.2 h) (by decide))
      go_enter Tryd.func36, Tryd.ntmps36
      go_wp2_with fail
      refine (HI1.out w).mono ?_
      rintro e w1 ⟨rfl, hc1⟩
      have HC1 : Hid (Chg No w w1) := ((Chg.refl No w).alloc _).no hc1
      clear hc1
      go_wp2_with fail
      refine (HI2.out w1).mono ?_
      rintro e w2 ⟨rfl, hc2⟩
      have HC2 : Hid (Chg No w w2) := (HC1.out.alloc _).no hc2
      clear hc2
      go_wp2
      go_ret
      exact ⟨by rw [HR.out]; rfl, HC2.out⟩
    | true =>
      have hza : (za == 0) = true := by rw [K1.out.1 rfl]; rfl
      have hzb : (zb == 0) = true := by rw [K2.out.1 rfl]; rfl
      have l1 := HLP.out rfl
      have l2 := HLQ.out rfl
      have HR2 : Hid (R = ordL (partsL p) (partsL q)) := HR.out
      have hpl := (HFP.out rfl).2.1
      have hql := (HFQ.out rfl).2.1
      have HP1 : Hid (∀ W, _) := fun W => parts_calls W (mkS p) (by rw [mkS_size]; omega)
      have HP2 : Hid (∀ W, _) := fun W => parts_calls W (mkS q) (by rw [mkS_size]; omega)
      rw [mkS_list] at HP1 HP2
      clear HFP HFQ HR
      generalize partsL p = l at *
      generalize partsL q = m at *
      go_enter Tryd.func36, Tryd.ntmps36
      go_wp2_with fail
      refine (HI1.out w).mono ?_
      rintro e w1 ⟨rfl, hc1⟩
      have HC1 : Hid (Chg No w w1) := ((Chg.refl No w).alloc _).no hc1
      clear hc1
      go_wp2_with fail
      refine (HI2.out w1).mono ?_
      rintro e w2 ⟨rfl, hc2⟩
      have HC2 : Hid (Chg No w w2) := (HC1.out.alloc _).no hc2
      clear hc2
      go_wp2_with fail
      refine (HP1.out _).mono ?_
      rintro e w3 ⟨A1, n1, c1, rfl, hl1, ho1, hc3⟩
      have HC3 := Lib.hid (HC2.out.no hc3)
      have HS1 := Lib.hid (ho1.sl hl1)
      have HL1 := Lib.hid hl1
      rw [hl1] at hpl
      clear hc3 ho1 hl1
      go_wp2_with fail
      refine (HP2.out _).mono ?_
      rintro e w4 ⟨A2, n2, c2, rfl, hl2, ho2, hc4⟩
      have HC4 := Lib.hid (HC3.out.no hc4)
      have HO := Lib.hid (slcompare_calls w4 A1 n1 c1 l A2 n2 c2 m (HS1.out.no hc4) (ho2.sl hl2) (by omega) (by rw [hl2] at hql; omega))
      clear hc4 ho2 hl2
      generalize ordL l m = od at *
      go_wp2_with fail
      refine HO.out.mono ?_
      rintro e w5 ⟨rfl, hc5⟩
      go_wp2
      go_ret
      exact ⟨by rw [HR2.out]; rfl, HC4.out.no hc5⟩
set_option maxHeartbeats 6400000 in
theorem refcompare_calls (w : World) (p q : List UInt8) (hp : p.length ≤ 9223372036854775807) (hq : q.length ≤ 9223372036854775807) :
    Calls Tryd.prog 37 #[.string (mkS p), .string (mkS q)] w fun e w' => e = .returned (.int .i64 (compF p q)) ∧ Chg No w w' := by
  have HI1 : Hid (∀ W, _) := fun W => refis_calls W (mkS p) (by rw [mkS_size]; exact hp)
  have HI2 : Hid (∀ W, _) := fun W => refis_calls W (mkS q) (by rw [mkS_size]; exact hq)
  rw [mkS_list] at HI1 HI2
  have HR : Hid (compF p q = if isP p && isP q then ordL (partsL p) (partsL q) else if isP p then -1 else if isP q then 1 else Lib.compareBytes p q) := rfl
  have HLP : Hid (isP p = true → p.length ≤ 200) := fun h => path_len ((isP_iff _).1 h)
  have HLQ : Hid (isP q = true → q.length ≤ 200) := fun h => path_len ((isP_iff _).1 h)
  have HFP : Hid (isP p = true → Fit (partsL p)) := fun h => fit_parts ((isP_iff _).1 h)
  have HFQ : Hid (isP q = true → Fit (partsL q)) := fun h => fit_parts ((isP_iff _).1 h)
  have HCP := Lib.hid fun W => Tryd.strings_Compare (mkS p) (mkS q) W
  rw [mkS_list, mkS_list] at HCP
  generalize compF p q = R at *
  generalize Lib.compareBytes p q = cb at *
  generalize isP p = A at *
  generalize isP q = B at *
  cases A with
  | false =>
    cases B with
    | false =>
      go_enter Tryd.func37, Tryd.ntmps37
      go_wp2_with fail
      refine (HI1.out _).mono ?_
      rintro e w1 ⟨rfl, hc1⟩
      have HC1 := Lib.hid hc1
      clear hc1
      go_wp2_with fail
      refine (HI2.out _).mono ?_
      rintro e w2 ⟨rfl, hc2⟩
      have HC2 := Lib.hid (HC1.out.no hc2)
      clear hc2
      go_wp2_with fail
      refine (HCP.out _).mono ?_
      rintro e w3 ⟨rfl, hw⟩
      obtain rfl := hw
      go_wp2
      go_ret
      exact ⟨by rw [HR.out]; rfl, HC2.out⟩
    | true =>
      go_enter Tryd.func37, Tryd.ntmps37
      go_wp2_with fail
      refine (HI1.out _).mono ?_
      rintro e w1 ⟨rfl, hc1⟩
      have HC1 := Lib.hid hc1
      clear hc1
      go_wp2_with fail
      refine (HI2.out _).mono ?_
      rintro e w2 ⟨rfl, hc2⟩
      have HC2 := Lib.hid (HC1.out.no hc2)
      clear hc2
      go_wp2
      go_ret
      exact ⟨by rw [HR.out]; rfl, HC2.out⟩
  | true =>
    cases B with
    | false =>
      go_enter Tryd.func37, Tryd.ntmps37
      go_wp2_with fail
      refine (HI1.out _).mono ?_
      rintro e w1 ⟨rfl, hc1⟩
      have HC1 := Lib.hid hc1
      clear hc1
      go_wp2_with fail
      refine (HI2.out _).mono ?_
      rintro e w2 ⟨rfl, hc2⟩
      have HC2 := Lib.hid (HC1.out.no hc2)
      clear hc2
      go_wp2
      go_ret
      exact ⟨by rw [HR.out]; rfl, HC2.out⟩
    | true =>
      have l1 := HLP.out rfl
      have l2 := HLQ.out rfl
      have HR2 : Hid (R = ordL (partsL p) (partsL q)) := HR.out
      have hpl := (HFP.out rfl).2.1
      have hql := (HFQ.out rfl).2.1
      have HP1 : Hid (∀ W, _) := fun W => refparts_calls W (mkS p) (by rw [mkS_size]; omega)
      have HP2 : Hid (∀ W, _) := fun W => refparts_calls W (mkS q) (by rw [mkS_size]; omega)
      rw [mkS_list] at HP1 HP2
      clear HFP HFQ HR
      generalize partsL p = l at *
      generalize partsL q = m at *
      go_enter Tryd.func37, Tryd.ntmps37
      go_wp2_with fail
      refine (HI1.out _).mono ?_
      rintro e w1 ⟨rfl, hc1⟩
      have HC1 := Lib.hid hc1
      clear hc1
      go_wp2_with fail
      refine (HI2.out _).mono ?_
      rintro e w2 ⟨rfl, hc2⟩
      have HC2 := Lib.hid (HC1.out.no hc2)
      clear hc2
      go_wp2_with fail
      refine (HP1.out _).mono ?_
      rintro e w3 ⟨A1, n1, c1, rfl, hl1, ho1, hc3⟩
      have HC3 := Lib.hid (HC2.out.no hc3)
      have HS1 := Lib.hid (ho1.sl hl1)
      have HL1 := Lib.hid hl1
      rw [hl1] at hpl
      clear hc3 ho1 hl1
      go_wp2_with fail
      refine (HP2.out _).mono ?_
      rintro e w4 ⟨A2, n2, c2, rfl, hl2, ho2, hc4⟩
      have HC4 := Lib.hid (HC3.out.no hc4)
      have HO := Lib.hid (order_calls w4 A1 n1 c1 l A2 n2 c2 m (HS1.out.no hc4) (ho2.sl hl2) (by omega) (by rw [hl2] at hql; omega))
      clear hc4 ho2 hl2
      generalize ordL l m = od at *
      go_wp2_with fail
      refine HO.out.mono ?_
      rintro e w5 ⟨rfl, hc5⟩
      go_wp2
      go_ret
      exact ⟨by rw [HR2.out]; rfl, HC4.out.no hc5⟩
end Go.Proofs.YtkjbbidnpnecjaaDoor
