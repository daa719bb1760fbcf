/-
  Names: Common, Compare: walks.
-/
import Derived.Test.YtkjbbidnpnecjaaDoorNm10
import Derived.Test.YtkjbbidnpnecjaaDoorNm11
namespace Go.Proofs.YtkjbbidnpnecjaaDoor
open Go.RowKit
set_option linter.unusedVariables false
set_option linter.unusedSimpArgs false
set_option maxRecDepth 100000

theorem lcp_len (l m : List (List UInt8)) : (lcp l m).length ≤ l.length := (lcp_pre l m).1.length_le
set_option maxHeartbeats 6400000 in
theorem common_calls (w : World) (p q : List UInt8) (hp : p.length ≤ 9223372036854775807) (hq : q.length ≤ 9223372036854775807) :
    Calls Tryd.prog 27 #[.string (mkS p), .string (mkS q)] w fun e w' => e = .returned (.string (mkS (commonF p q))) ∧ Chg No w w' := by
  have HIS : Hid (Calls Tryd.prog 44 #[.slice (some ⟨w.heap.size, 0, none⟩) 2 2] (w.alloc (.cells #[.string (mkS p), .string (mkS q)] 9)) fun e w' => e = .returned (.int .i64 (isF [p, q])) ∧ Chg No (w.alloc (.cells #[.string (mkS p), .string (mkS q)] 9)) w') := is_calls _ _ 2 2 [p, q] (sl2 w p q) (by omega) (two_mem hp hq)
  have HC0 : Hid (Chg No w (w.alloc (.cells #[.string (mkS p), .string (mkS q)] 9))) := (Chg.refl No w).alloc _
  have HR : Hid (commonF p q = if isP p && isP q then joinL (lcp (partsL p) (partsL q)) else []) := rfl
  generalize commonF p q = R at *
  go_enter Tryd.func27, Tryd.ntmps27
  have HZ : Hid (isF [p, q] = 0 ↔ (isP p && isP q) = true) := isF2 p q
  generalize isF [p, q] = z at *
  go_wp2_with fail
  refine HIS.out.mono ?_
  rintro e w1 ⟨rfl, hc1⟩
  have HC1 := Lib.hid (HC0.out.no hc1)
  clear hc1 HIS HC0
  by_cases h0 : z = 0
  · have hb : (z != 0) = false := by rw [h0]; rfl
    have hpq := HZ.out.1 h0
    have HR2 : Hid (R = joinL (lcp (partsL p) (partsL q))) := by rw [Hid, HR.out, hpq]; rfl
    rw [Bool.and_eq_true_iff] at hpq
    have hpk : (pathF p).1 = 0 := by simpa [isP] using hpq.1
    have hqk : (pathF q).1 = 0 := by simpa [isP] using hpq.2
    clear h0 hpq
    have l1 := path_len hpk
    have l2 := path_len hqk
    have hpl := (fit_parts hpk).2.1
    have hql := (fit_parts hqk).2.1
    have HFP := Lib.hid (fit_parts hpk)
    have HP1 : Hid (∀ W, _) := fun W => parts_calls W (mkS p) (by rw [mkS_size]; omega)
    have HP2 : Hid (∀ W, _) := fun W => parts_calls W (mkS q) (by rw [mkS_size]; omega)
    rw [mkS_list] at HP1 HP2
    clear hpk hqk
    generalize partsL p = l at *
    generalize partsL q = m at *
    go_wp2_with fail
    refine (HP1.out _).mono ?_
    rintro e w3 ⟨A1, n1, c1, rfl, hl1, ho1, hc3⟩
    have HC3 := Lib.hid (HC1.out.no hc3)
    have HS1 := Lib.hid (ho1.sl hl1)
    have HL1 := Lib.hid hl1
    rw [hl1] at hpl
    clear hc3 ho1 hl1
    go_wp2_with fail
    refine (HP2.out _).mono ?_
    rintro e w4 ⟨A2, n2, c2, rfl, hl2, ho2, hc4⟩
    have HC4 := Lib.hid (HC3.out.no hc4)
    have HS1' := Lib.hid (HS1.out.no hc4)
    have HS2 := Lib.hid (ho2.sl hl2)
    have HL2 := Lib.hid hl2
    rw [hl2] at hql
    clear hc4 ho2 hl2
    have hcc : n1 ≤ c1 ∧ c1 ≤ 9223372036854775807 := by
      obtain ⟨A', c', he, h2, h3, -⟩ := HS1'.out
      simp only [Value.slice.injEq] at he
      unfold maxLen at h3
      have := HL1.out
      omega
    obtain ⟨hcc1, hcc2⟩ := hcc
    go_wp2
    go_loopw [7] (fun i wr => ∃ k : Nat, k ≤ n1 ∧ k ≤ n2 ∧ i = .int .i64 (k : Int) ∧ Hid (l.take k = m.take k) ∧ Hid (Chg No w4 wr)) (fun i _ => n1 - (intOf i).toNat)
    case atStart => exact ⟨0, Nat.zero_le _, Nat.zero_le _, rfl, rfl, Chg.refl _ _⟩
    case round =>
      obtain ⟨k, hk, hk2, rfl, HN, HC⟩ := hrel
      have HFIN : Hid ((∀ x y, l[k]? = some x → m[k]? = some y → x ≠ y) → lcp l m = l.take k) := fun h => lcp_take k l m HN.out (by rw [HL1.out]; exact hk) (by rw [HL2.out]; exact hk2) h
      have HTK := Lib.hid ((HS1'.out.no HC.out).take (k := k) (m := c1) hk (by omega) (Nat.le_refl _))
      have hkc1 : (k : Int) ≤ (c1 : Int) := by omega
      have HJ : Hid (∀ W, Chg No wr W → Calls Tryd.prog 43 #[.slice A1 k c1, .string ⟨#[47]⟩] W fun e w' => e = .returned (.string (mkS (joinL (l.take k)))) ∧ Chg No W w') := fun W hW => by
        refine join_calls W A1 k c1 (l.take k) (HTK.out.no hW) (by omega) (join_small (firstBad_iff.2 fun x hx => HFP.out.1 x (List.mem_of_mem_take hx)) ?_)
        rw [List.length_take]; omega
      by_cases hlt : k < n1
      · by_cases hlt2 : k < n2
        · obtain ⟨b, o, rfl, hcell⟩ := (HS1'.out.no HC.out).addr (by rw [HL1.out]; omega)
          obtain ⟨b', o', rfl, hcell'⟩ := (HS2.out.no HC.out).addr (by rw [HL2.out]; omega)
          have c0 := hcell k (by rw [HL1.out]; exact hlt)
          have d0 := hcell' k (by rw [HL2.out]; exact hlt2)
          have hT : l.take (k + 1) = l.take k ++ [l[k]'(by rw [HL1.out]; exact hlt)] := by rw [List.take_succ_eq_append_getElem]
          have hT' : m.take (k + 1) = m.take k ++ [m[k]'(by rw [HL2.out]; exact hlt2)] := by rw [List.take_succ_eq_append_getElem]
          have hG : l[k]? = some (l[k]'(by rw [HL1.out]; exact hlt)) := List.getElem?_eq_getElem _
          have hG' : m[k]? = some (m[k]'(by rw [HL2.out]; exact hlt2)) := List.getElem?_eq_getElem _
          generalize l[k]'(by rw [HL1.out]; exact hlt) = x at *
          generalize m[k]'(by rw [HL2.out]; exact hlt2) = y at *
          have HT := Lib.hid hT
          have HT' := Lib.hid hT'
          have HG := Lib.hid hG
          have HG' := Lib.hid hG'
          clear hcell hcell' hT hT' hG hG'
          rw [strv_text] at c0 d0
          have hki : (k : Int) < (n1 : Int) := by omega
          have hki2 : (k : Int) < (n2 : Int) := by omega
          have hmin : (k : Int) < min (n1 : Int) (n2 : Int) := by omega
          by_cases hx : x = y
          · subst hx
            generalize mkS x = sx at *
            clear HJ HTK hkc1
            go_wp2
            go_region
            all_goals
              go_wp2
              go_roundw
              case rel => exact ⟨k + 1, by omega, by omega, by first | rfl | simp, by rw [Hid, HT.out, HT'.out, HN.out], by first | exact HC.out | exact HC.out.drewN _ | exact HC.out.drew⟩
              case measure => simp [intOf]; omega
          · have HRK : Hid (R = joinL (l.take k)) := by
              rw [Hid, HR2.out, HFIN.out]
              intro x' y' hx' hy'
              rw [HG.out] at hx'
              rw [HG'.out] at hy'
              cases hx'; cases hy'
              exact hx
            have hb : ((mkS x).toList == (mkS y).toList) = false := by rw [Lib.toList_data, Lib.toList_data, mkS_list, mkS_list]; exact beq_eq_false_iff_ne.2 hx
            clear hx
            generalize mkS x = sx at *
            generalize mkS y = sy at *
            generalize joinL (l.take k) = j at *
            go_wp2
            go_region
            all_goals
              go_wp2_with fail
              refine (HJ.out _ (by first | exact Chg.refl _ _ | exact (Chg.refl No wr).drew | exact (Chg.refl No wr).drewN _)).mono ?_
              rintro e w6 ⟨rfl, hc6⟩
              go_wp2
              go_ret
              exact ⟨by rw [HRK.out]; rfl, (HC4.out.no HC.out).no (by first | exact hc6 | exact ((Chg.refl No wr).drew).no hc6 | exact ((Chg.refl No wr).drewN _).no hc6)⟩
        · have HRK : Hid (R = joinL (l.take k)) := by
            rw [Hid, HR2.out, HFIN.out]
            intro x' y' hx' hy'
            rw [List.getElem?_eq_none (by rw [HL2.out]; omega)] at hy'
            cases hy'
          have hki : (k : Int) < (n1 : Int) := by omega
          have hki2 : ¬ (k : Int) < (n2 : Int) := by omega
          have hd2 : decide ((k : Int) < (n2 : Int)) = false := decide_eq_false hki2
          have hmin : decide ((k : Int) < min (n1 : Int) (n2 : Int)) = false := decide_eq_false (by omega)
          have hle : (n2 : Int) ≤ (k : Int) := by omega
          generalize joinL (l.take k) = j at *
          go_wp2
          go_region
          all_goals
            go_wp2_with fail
            refine (HJ.out _ (by first | exact Chg.refl _ _ | exact (Chg.refl No wr).drew | exact (Chg.refl No wr).drewN _)).mono ?_
            rintro e w6 ⟨rfl, hc6⟩
            go_wp2
            go_ret
            exact ⟨by rw [HRK.out]; rfl, (HC4.out.no HC.out).no (by first | exact hc6 | exact ((Chg.refl No wr).drew).no hc6 | exact ((Chg.refl No wr).drewN _).no hc6)⟩
      · have HRK : Hid (R = joinL (l.take k)) := by
          rw [Hid, HR2.out, HFIN.out]
          intro x' y' hx' hy'
          rw [List.getElem?_eq_none (by rw [HL1.out]; omega)] at hx'
          cases hx'
        have hki : ¬ (k : Int) < (n1 : Int) := by omega
        have hd1 : decide ((k : Int) < (n1 : Int)) = false := decide_eq_false hki
        have hmin : decide ((k : Int) < min (n1 : Int) (n2 : Int)) = false := decide_eq_false (by omega)
        have hle : (n1 : Int) ≤ (k : Int) := by omega
        generalize joinL (l.take k) = j at *
        go_wp2
        go_region
        all_goals
          go_wp2_with fail
          refine (HJ.out _ (by first | exact Chg.refl _ _ | exact (Chg.refl No wr).drew | exact (Chg.refl No wr).drewN _)).mono ?_
          rintro e w6 ⟨rfl, hc6⟩
          go_wp2
          go_ret
          exact ⟨by rw [HRK.out]; rfl, (HC4.out.no HC.out).no (by first | exact hc6 | exact ((Chg.refl No wr).drew).no hc6 | exact ((Chg.refl No wr).drewN _).no hc6)⟩
  · have hb : (z != 0) = true := by simpa using h0
    have HN : Hid (R = []) := by
      rw [Hid, HR.out, if_neg]
      exact fun h => h0 (HZ.out.2 h)
    clear h0
    go_wp2
    go_ret
    exact ⟨by rw [HN.out]; rfl, HC1.out⟩
set_option maxHeartbeats 6400000 in
theorem refcommon_calls (w : World) (p q : List UInt8) (hp : p.length ≤ 9223372036854775807) (hq : q.length ≤ 9223372036854775807) :
    Calls Tryd.prog 35 #[.string (mkS p), .string (mkS q)] w fun e w' => e = .returned (.string (mkS (commonF p q))) ∧ Chg No w w' := by
  have HI1 : Hid (∀ W, _) := fun W => refis_calls W (mkS p) (by rw [mkS_size]; exact hp)
  have HI2 : Hid (∀ W, _) := fun W => refis_calls W (mkS q) (by rw [mkS_size]; exact hq)
  rw [mkS_list] at HI1 HI2
  have HR : Hid (commonF p q = if isP p && isP q then joinL (lcp (partsL p) (partsL q)) else []) := rfl
  generalize commonF p q = R at *
  go_enter Tryd.func35, Tryd.ntmps35
  cases hp0 : isP p with
  | false =>
    have HN : Hid (R = []) := by rw [Hid, HR.out, hp0]; rfl
    rw [hp0] at HI1
    go_wp2_with fail
    refine (HI1.out _).mono ?_
    rintro e w1 ⟨rfl, hc1⟩
    go_wp2
    go_ret
    exact ⟨by rw [HN.out]; rfl, hc1⟩
  | true =>
    cases hq0 : isP q with
    | false =>
      have HN : Hid (R = []) := by rw [Hid, HR.out, hq0, Bool.and_false]; rfl
      rw [hp0] at HI1
      rw [hq0] at HI2
      go_wp2_with fail
      refine (HI1.out _).mono ?_
      rintro e w1 ⟨rfl, hc1⟩
      have HC1 := Lib.hid hc1
      clear hc1
      go_wp2_with fail
      refine (HI2.out _).mono ?_
      rintro e w2 ⟨rfl, hc2⟩
      go_wp2
      go_ret
      exact ⟨by rw [HN.out]; rfl, HC1.out.no hc2⟩
    | true =>
      have HR2 : Hid (R = joinL (lcp (partsL p) (partsL q))) := by rw [Hid, HR.out, hp0, hq0]; rfl
      have hpk : (pathF p).1 = 0 := by simpa [isP] using hp0
      have hqk : (pathF q).1 = 0 := by simpa [isP] using hq0
      rw [hp0] at HI1
      rw [hq0] at HI2
      go_wp2_with fail
      refine (HI1.out _).mono ?_
      rintro e w1 ⟨rfl, hc1⟩
      have HC1' := Lib.hid hc1
      clear hc1
      go_wp2_with fail
      refine (HI2.out _).mono ?_
      rintro e w1 ⟨rfl, hc1⟩
      have HC1 := Lib.hid (HC1'.out.no hc1)
      clear hc1
      have l1 := path_len hpk
      have l2 := path_len hqk
      have hpl := (fit_parts hpk).2.1
      have hql := (fit_parts hqk).2.1
      have HFP := Lib.hid (fit_parts hpk)
      have HP1 : Hid (∀ W, _) := fun W => refparts_calls W (mkS p) (by rw [mkS_size]; omega)
      have HP2 : Hid (∀ W, _) := fun W => refparts_calls W (mkS q) (by rw [mkS_size]; omega)
      rw [mkS_list] at HP1 HP2
      clear hp0 hq0 hpk hqk
      generalize partsL p = l at *
      generalize partsL q = m at *
      go_wp2_with fail
      refine (HP1.out _).mono ?_
      rintro e w3 ⟨A1, n1, c1, rfl, hl1, ho1, hc3⟩
      have HC3 := Lib.hid (HC1.out.no hc3)
      have HS1 := Lib.hid (ho1.sl hl1)
      have HL1 := Lib.hid hl1
      rw [hl1] at hpl
      clear hc3 ho1 hl1
      go_wp2_with fail
      refine (HP2.out _).mono ?_
      rintro e w4 ⟨A2, n2, c2, rfl, hl2, ho2, hc4⟩
      have HC4 := Lib.hid (HC3.out.no hc4)
      have HS1' := Lib.hid (HS1.out.no hc4)
      have HS2 := Lib.hid (ho2.sl hl2)
      have HL2 := Lib.hid hl2
      rw [hl2] at hql
      clear hc4 ho2 hl2
      have hcc : n1 ≤ c1 ∧ c1 ≤ 9223372036854775807 := by
        obtain ⟨A', c', he, h2, h3, -⟩ := HS1'.out
        simp only [Value.slice.injEq] at he
        unfold maxLen at h3
        have := HL1.out
        omega
      obtain ⟨hcc1, hcc2⟩ := hcc
      go_wp2
      go_loopw [7] (fun i wr => ∃ k : Nat, k ≤ n1 ∧ k ≤ n2 ∧ i = .int .i64 (k : Int) ∧ Hid (l.take k = m.take k) ∧ Hid (Chg No w4 wr)) (fun i _ => n1 - (intOf i).toNat)
      case atStart => exact ⟨0, Nat.zero_le _, Nat.zero_le _, rfl, rfl, Chg.refl _ _⟩
      case round =>
        obtain ⟨k, hk, hk2, rfl, HN, HC⟩ := hrel
        have HFIN : Hid ((∀ x y, l[k]? = some x → m[k]? = some y → x ≠ y) → lcp l m = l.take k) := fun h => lcp_take k l m HN.out (by rw [HL1.out]; exact hk) (by rw [HL2.out]; exact hk2) h
        have HTK := Lib.hid ((HS1'.out.no HC.out).take (k := k) (m := c1) hk (by omega) (Nat.le_refl _))
        have hkc1 : (k : Int) ≤ (c1 : Int) := by omega
        have HJ : Hid (∀ W, Chg No wr W → Calls Tryd.prog 43 #[.slice A1 k c1, .string ⟨#[47]⟩] W fun e w' => e = .returned (.string (mkS (joinL (l.take k)))) ∧ Chg No W w') := fun W hW => by
          refine join_calls W A1 k c1 (l.take k) (HTK.out.no hW) (by omega) (join_small (firstBad_iff.2 fun x hx => HFP.out.1 x (List.mem_of_mem_take hx)) ?_)
          rw [List.length_take]; omega
        by_cases hlt : k < n1
        · by_cases hlt2 : k < n2
          · obtain ⟨b, o, rfl, hcell⟩ := (HS1'.out.no HC.out).addr (by rw [HL1.out]; omega)
            obtain ⟨b', o', rfl, hcell'⟩ := (HS2.out.no HC.out).addr (by rw [HL2.out]; omega)
            have c0 := hcell k (by rw [HL1.out]; exact hlt)
            have d0 := hcell' k (by rw [HL2.out]; exact hlt2)
            have hT : l.take (k + 1) = l.take k ++ [l[k]'(by rw [HL1.out]; exact hlt)] := by rw [List.take_succ_eq_append_getElem]
            have hT' : m.take (k + 1) = m.take k ++ [m[k]'(by rw [HL2.out]; exact hlt2)] := by rw [List.take_succ_eq_append_getElem]
            have hG : l[k]? = some (l[k]'(by rw [HL1.out]; exact hlt)) := List.getElem?_eq_getElem _
            have hG' : m[k]? = some (m[k]'(by rw [HL2.out]; exact hlt2)) := List.getElem?_eq_getElem _
            generalize l[k]'(by rw [HL1.out]; exact hlt) = x at *
            generalize m[k]'(by rw [HL2.out]; exact hlt2) = y at *
            have HT := Lib.hid hT
            have HT' := Lib.hid hT'
            have HG := Lib.hid hG
            have HG' := Lib.hid hG'
            clear hcell hcell' hT hT' hG hG'
            rw [strv_text] at c0 d0
            have hki : (k : Int) < (n1 : Int) := by omega
            have hki2 : (k : Int) < (n2 : Int) := by omega
            have hmin : (k : Int) < min (n1 : Int) (n2 : Int) := by omega
            by_cases hx : x = y
            · subst hx
              generalize mkS x = sx at *
              clear HJ HTK hkc1
              go_wp2
              go_quiet (fail)
              all_goals
                go_wp2
                go_roundw
                case rel => exact ⟨k + 1, by omega, by omega, by first | rfl | simp, by rw [Hid, HT.out, HT'.out, HN.out], by first | exact HC.out | exact HC.out.drewN _ | exact HC.out.drew⟩
                case measure => simp [intOf]; omega
            · have HRK : Hid (R = joinL (l.take k)) := by
                rw [Hid, HR2.out, HFIN.out]
                intro x' y' hx' hy'
                rw [HG.out] at hx'
                rw [HG'.out] at hy'
                cases hx'; cases hy'
                exact hx
              have hb : ((mkS x).toList == (mkS y).toList) = false := by rw [Lib.toList_data, Lib.toList_data, mkS_list, mkS_list]; exact beq_eq_false_iff_ne.2 hx
              clear hx
              generalize mkS x = sx at *
              generalize mkS y = sy at *
              generalize joinL (l.take k) = j at *
              go_wp2
              go_quiet (fail)
              all_goals
                go_wp2_with fail
                refine (HJ.out _ (by first | exact Chg.refl _ _ | exact (Chg.refl No wr).drew | exact (Chg.refl No wr).drewN _)).mono ?_
                rintro e w6 ⟨rfl, hc6⟩
                go_wp2
                go_ret
                exact ⟨by rw [HRK.out]; rfl, (HC4.out.no HC.out).no (by first | exact hc6 | exact ((Chg.refl No wr).drew).no hc6 | exact ((Chg.refl No wr).drewN _).no hc6)⟩
          · have HRK : Hid (R = joinL (l.take k)) := by
              rw [Hid, HR2.out, HFIN.out]
              intro x' y' hx' hy'
              rw [List.getElem?_eq_none (by rw [HL2.out]; omega)] at hy'
              cases hy'
            have hki : (k : Int) < (n1 : Int) := by omega
            have hki2 : ¬ (k : Int) < (n2 : Int) := by omega
            have hd2 : decide ((k : Int) < (n2 : Int)) = false := decide_eq_false hki2
            have hmin : decide ((k : Int) < min (n1 : Int) (n2 : Int)) = false := decide_eq_false (by omega)
            have hle : (n2 : Int) ≤ (k : Int) := by omega
            generalize joinL (l.take k) = j at *
            go_wp2
            go_quiet (fail)
            all_goals
              go_wp2_with fail
              refine (HJ.out _ (by first | exact Chg.refl _ _ | exact (Chg.refl No wr).drew | exact (Chg.refl No wr).drewN _)).mono ?_
              rintro e w6 ⟨rfl, hc6⟩
              go_wp2
              go_ret
              exact ⟨by rw [HRK.out]; rfl, (HC4.out.no HC.out).no (by first | exact hc6 | exact ((Chg.refl No wr).drew).no hc6 | exact ((Chg.refl No wr).drewN _).no hc6)⟩
        · have HRK : Hid (R = joinL (l.take k)) := by
            rw [Hid, HR2.out, HFIN.out]
            intro x' y' hx' hy'
            rw [List.getElem?_eq_none (by rw [HL1.out]; omega)] at hx'
            cases hx'
          have hki : ¬ (k : Int) < (n1 : Int) := by omega
          have hd1 : decide ((k : Int) < (n1 : Int)) = false := decide_eq_false hki
          have hmin : decide ((k : Int) < min (n1 : Int) (n2 : Int)) = false := decide_eq_false (by omega)
          have hle : (n1 : Int) ≤ (k : Int) := by omega
          generalize joinL (l.take k) = j at *
          go_wp2
          go_quiet (fail)
          all_goals
            go_wp2_with fail
            refine (HJ.out _ (by first | exact Chg.refl _ _ | exact (Chg.refl No wr).drew | exact (Chg.refl No wr).drewN _)).mono ?_
            rintro e w6 ⟨rfl, hc6⟩
            go_wp2
            go_ret
            exact ⟨by rw [HRK.out]; rfl, (HC4.out.no HC.out).no (by first | exact hc6 | exact ((Chg.refl No wr).drew).no hc6 | exact ((Chg.refl No wr).drewN _).no hc6)⟩
end Go.Proofs.YtkjbbidnpnecjaaDoor
