/-
  Names: Join, Rest, In, Move; wakes.
-/
import Derived.Test.YtkjbbidnpnecjaaDoorNm4
namespace Go.Proofs.YtkjbbidnpnecjaaDoor
open Go.RowKit
set_option linter.unusedVariables false
set_option linter.unusedSimpArgs false
set_option maxRecDepth 100000

theorem sl2 (w : World) (p q : List UInt8) : Sl strv (w.alloc (.cells #[.string (mkS p), .string (mkS q)] 9)) (.slice (some ⟨w.heap.size, 0, none⟩) 2 2) [p, q] := (OwnS.lit w [p, q] (by unfold maxLen; simp)).sl rfl
theorem sl3 (w : World) (p q r : List UInt8) : Sl strv (w.alloc (.cells #[.string (mkS p), .string (mkS q), .string (mkS r)] 9)) (.slice (some ⟨w.heap.size, 0, none⟩) 3 3) [p, q, r] := (OwnS.lit w [p, q, r] (by unfold maxLen; simp)).sl rfl
theorem sl1 (w : World) (p : List UInt8) : Sl strv (w.alloc (.cells #[.string (mkS p)] 9)) (.slice (some ⟨w.heap.size, 0, none⟩) 1 1) [p] := (OwnS.lit w [p] (by unfold maxLen; simp)).sl rfl
theorem path_len {p : List UInt8} (h : (pathF p).1 = 0) : p.length ≤ 200 := by
  unfold pathF at h
  split at h
  · cases h
  · omega
theorem isF_zero {l : List (List UInt8)} : isF l = 0 ↔ ∀ p ∈ l, (pathF p).1 = 0 := by
  induction l with
  | nil => simp [isF]
  | cons p r ih =>
    rw [isF]
    by_cases h : (pathF p).1 = 0
    · rw [if_neg (by simpa using h), ih]; simp [h]
    · rw [if_pos h]; simp [h]
def joinF (p q : List UInt8) : List UInt8 × Int := if isF [p, q] ≠ 0 then ([], isF [p, q]) else makeF (partsL p ++ partsL q)
def restF (p q : List UInt8) : List UInt8 × Bool :=
  if isF [p, q] ≠ 0 then ([], false) else if Lib.hasPrefix p q = false then ([], false) else if q = [] ∨ p.drop q.length = [] then (p.drop q.length, true)
  else if (p.drop q.length).getD 0 0 = 47 then (p.drop (q.length + 1), true) else ([], false)
def moveF (p f t : List UInt8) : List UInt8 × Int := if isF [p, f, t] ≠ 0 then ([], isF [p, f, t]) else if (restF p f).2 = false then ([], 141) else joinF t (restF p f).1
theorem two_mem {p q : List UInt8} {m : Nat} (hp : p.length ≤ m) (hq : q.length ≤ m) : ∀ x ∈ [p, q], x.length ≤ m := by simp; exact ⟨hp, hq⟩
theorem namejoin_calls (w : World) (p q : List UInt8) (hp : p.length ≤ 9223372036854775807) (hq : q.length ≤ 9223372036854775807) :
    Calls Tryd.prog 28 #[.string (mkS p), .string (mkS q)] w fun e w' => e = .returned (.tuple #[.string (mkS (joinF p q).1), .int .i64 (joinF p q).2]) ∧ Chg No w w' := by
  have HIS : Hid (Calls Tryd.prog 44 #[.slice (some ⟨w.heap.size, 0, none⟩) 2 2] (w.alloc (.cells #[.string (mkS p), .string (mkS q)] 9)) fun e w' => e = .returned (.int .i64 (isF [p, q])) ∧ Chg No (w.alloc (.cells #[.string (mkS p), .string (mkS q)] 9)) w') := is_calls _ _ 2 2 [p, q] (sl2 w p q) (by omega) (two_mem hp hq)
  have HJ : Hid (joinF p q = if isF [p, q] ≠ 0 then ([], isF [p, q]) else makeF (partsL p ++ partsL q)) := rfl
  have HZ : Hid (isF [p, q] = 0 → p.length ≤ 200 ∧ q.length ≤ 200) := fun h => ⟨path_len (isF_zero.1 h p (by simp)), path_len (isF_zero.1 h q (by simp))⟩
  have HC0 : Hid (Chg No w (w.alloc (.cells #[.string (mkS p), .string (mkS q)] 9))) := (Chg.refl No w).alloc _
  generalize joinF p q = J at *
  generalize isF [p, q] = z at *
  go_enter Tryd.func28, Tryd.ntmps28
  go_wp2_with fail
  refine HIS.out.mono ?_
  rintro e w1 ⟨rfl, hc1⟩
  have HC1 := Lib.hid (HC0.out.no hc1)
  clear hc1 HIS HC0
  by_cases h0 : z = 0
  · have hb : (z != 0) = false := by rw [h0]; rfl
    obtain ⟨l1, l2⟩ := HZ.out h0
    have HJ2 : Hid (J = makeF (partsL p ++ partsL q)) := by rw [Hid, HJ.out, if_neg (by simpa using h0)]
    have HP := Lib.hid (parts_calls w1 (mkS p) (by rw [mkS_size]; omega))
    rw [mkS_list] at HP
    have hpl := parts_len p
    have hql := parts_len q
    have HPX : Hid (∀ x ∈ partsL p, x.length ≤ 200) := fun x hx => by have := parts_short hx; omega
    have HQX : Hid (∀ x ∈ partsL q, x.length ≤ 200) := fun x hx => by have := parts_short hx; omega
    clear h0
    go_wp2_with fail
    refine HP.out.mono ?_
    rintro e w2 ⟨A1, n1, c1, rfl, hl1, ho1, hc2⟩
    have HC2 := Lib.hid (HC1.out.no hc2)
    have HQ := Lib.hid (parts_calls w2 (mkS q) (by rw [mkS_size]; omega))
    rw [mkS_list] at HQ
    have HS1 := Lib.hid (ho1.sl hl1)
    rw [hl1] at hpl
    have HL1 := Lib.hid hl1
    clear hc2 ho1 hl1
    go_wp2_with fail
    refine HQ.out.mono ?_
    rintro e w3 ⟨A2, n2, c2, rfl, hl2, ho2, hc3⟩
    have HC3 := Lib.hid (HC2.out.no hc3)
    have HS1' := Lib.hid (HS1.out.no hc3)
    have HS2 := Lib.hid (ho2.sl hl2)
    rw [hl2] at hql
    have HL2 := Lib.hid hl2
    clear hc3 ho2 hl2
    have HCC := Lib.hid (concat_calls (w3.alloc (.cells #[.slice A1 n1 c1, .slice A2 n2 c2] 30)) w3.heap.size A1 n1 c1 (partsL p) A2 n2 c2 (partsL q) _ _ (heap_alloc_new w3 _) (HS1'.out.no ((Chg.refl No w3).alloc _)) (HS2.out.no ((Chg.refl No w3).alloc _)) (by omega) (by omega))
    have HC4 : Hid (Chg No w (w3.alloc (.cells #[.slice A1 n1 c1, .slice A2 n2 c2] 30))) := HC3.out.alloc _
    go_wp2_with fail
    refine HCC.out.mono ?_
    rintro e w5 ⟨A3, n3, c3, rfl, hl3, ho3, hc5⟩
    have HC5 := Lib.hid (HC4.out.no hc5)
    have HMK := Lib.hid (make_calls w5 A3 n3 c3 (partsL p ++ partsL q) (ho3.sl hl3) (by rw [← hl3, List.length_append, HL1.out, HL2.out]; omega) (by
      intro x hx
      rcases List.mem_append.1 hx with h | h
      · have := HPX.out x h; omega
      · have := HQX.out x h; omega))
    clear ho3 hc5 hl3
    go_wp2_with fail
    refine HMK.out.mono ?_
    rintro e w6 ⟨rfl, hc6⟩
    go_wp2
    go_ret2
    exact ⟨by rw [HJ2.out]; rfl, HC5.out.no hc6⟩
  · have hb : (z != 0) = true := by simpa using h0
    have HJ2 : Hid (J = ([], z)) := by rw [Hid, HJ.out, if_pos h0]
    clear h0
    go_wp2
    go_ret2
    exact ⟨by rw [HJ2.out]; rfl, HC1.out⟩
theorem text_tail (u : UInt8) (r : List UInt8) : (mkS (u :: r)).extract 1 (mkS (u :: r)).size = mkS r := by
  rw [Lib.extract_eq, mkS_list, mkS_size]
  simp [mkS]
theorem namerest_calls (w : World) (p q : List UInt8) (hp : p.length ≤ 9223372036854775807) (hq : q.length ≤ 9223372036854775807) :
    Calls Tryd.prog 25 #[.string (mkS p), .string (mkS q)] w fun e w' => e = .returned (.tuple #[.string (mkS (restF p q).1), .bool (restF p q).2]) ∧ Chg No w w' := by
  have HIS : Hid (Calls Tryd.prog 44 #[.slice (some ⟨w.heap.size, 0, none⟩) 2 2] (w.alloc (.cells #[.string (mkS p), .string (mkS q)] 9)) fun e w' => e = .returned (.int .i64 (isF [p, q])) ∧ Chg No (w.alloc (.cells #[.string (mkS p), .string (mkS q)] 9)) w') := is_calls _ _ 2 2 [p, q] (sl2 w p q) (by omega) (two_mem hp hq)
  have HJ : Hid (restF p q = if isF [p, q] ≠ 0 then ([], false) else if Lib.hasPrefix p q = false then ([], false) else if q = [] ∨ p.drop q.length = [] then (p.drop q.length, true) else if (p.drop q.length).getD 0 0 = 47 then (p.drop (q.length + 1), true) else ([], false)) := rfl
  have HC0 : Hid (Chg No w (w.alloc (.cells #[.string (mkS p), .string (mkS q)] 9))) := (Chg.refl No w).alloc _
  have HCP : Hid (∀ W, Calls Tryd.prog 47 #[.string (mkS p), .string (mkS q)] W fun e w' => e = .returned (.tuple #[.string (mkS (Lib.trimPrefix p q)), .bool (Lib.hasPrefix p q)]) ∧ W = w') := fun W => by
    have := Tryd.strings_CutPrefix (mkS p) (mkS q) W
    rw [mkS_list, mkS_list] at this
    exact this.mono fun _ _ h => ⟨h.1, h.2.symm⟩
  have HTP : Hid (Lib.hasPrefix p q = true → Lib.trimPrefix p q = p.drop q.length) := fun h => by rw [Lib.trimPrefix, if_pos h]
  generalize restF p q = J at *
  generalize isF [p, q] = z at *
  go_enter Tryd.func25, Tryd.ntmps25
  go_wp2_with fail
  refine HIS.out.mono ?_
  rintro e w1 ⟨rfl, hc1⟩
  have HC1 := Lib.hid (HC0.out.no hc1)
  clear hc1 HIS HC0
  by_cases h0 : z = 0
  · have hb : (z != 0) = false := by rw [h0]; rfl
    rw [Hid, if_neg (by simpa using h0)] at HJ
    have HJ := Lib.hid HJ
    clear h0
    cases hpre : Lib.hasPrefix p q with
    | false =>
      have HJ2 : Hid (J = ([], false)) := by rw [Hid, HJ.out, if_pos hpre]
      rw [hpre] at HCP
      clear hpre
      go_wp2_with fail
      refine (HCP.out _).mono ?_
      rintro e w2 ⟨rfl, rfl⟩
      go_wp2
      go_ret2
      exact ⟨by rw [HJ2.out]; rfl, HC1.out⟩
    | true =>
      have HT := HTP.out hpre
      rw [hpre, HT] at HCP
      rw [Hid, if_neg (by rw [hpre]; simp)] at HJ
      have HJ := Lib.hid HJ
      have hdd : p.drop (q.length + 1) = (p.drop q.length).drop 1 := by rw [List.drop_drop]
      rw [hdd] at HJ
      clear hpre HT hdd
      generalize p.drop q.length = r at *
      by_cases hq0 : q = []
      · have HJ2 : Hid (J = (r, true)) := by rw [Hid, HJ.out, if_pos (.inl hq0)]
        subst hq0
        have hqe : ((mkS []).toList == []) = true := by rw [Lib.toList_data, mkS_list]; rfl
        go_wp2_with fail
        refine (HCP.out _).mono ?_
        rintro e w2 ⟨rfl, rfl⟩
        go_wp2
        go_ret2
        exact ⟨by rw [HJ2.out]; rfl, HC1.out⟩
      · have hqe : ((mkS q).toList == []) = false := bytes_ne (by rw [mkS_list]; exact hq0)
        have hqe2 : (mkS q).toList.isEmpty = false := by rw [Lib.toList_data, mkS_list]; cases q with | nil => exact absurd rfl hq0 | cons => rfl
        cases r with
        | nil =>
          have HJ2 : Hid (J = ([], true)) := by rw [Hid, HJ.out, if_pos (.inr rfl)]
          have hre : ((mkS []).toList == []) = true := by rw [Lib.toList_data, mkS_list]; rfl
          clear hq0
          go_wp2_with fail
          refine (HCP.out _).mono ?_
          rintro e w2 ⟨rfl, rfl⟩
          go_wp2
          go_ret2
          exact ⟨by rw [HJ2.out]; rfl, HC1.out⟩
        | cons u r =>
          rw [Hid, if_neg (by rintro (h | h); exact hq0 h; cases h), List.getD_cons_zero, List.drop_succ_cons, List.drop_zero] at HJ
          have HJ := Lib.hid HJ
          have hre : ((mkS (u :: r)).toList == []) = false := bytes_ne (by rw [mkS_list]; simp)
          have hre2 : (mkS (u :: r)).toList.isEmpty = false := by rw [Lib.toList_data, mkS_list]; rfl
          have hsz : ((mkS (u :: r)).size : Int) = (r.length : Int) + 1 := by rw [mkS_size]; simp
          have hget : ∀ (h : 0 < (mkS (u :: r)).size), (mkS (u :: r))[0]'h = u := fun h => rfl
          have hszn : 0 < (mkS (u :: r)).size := by rw [mkS_size]; simp
          have htl := text_tail u r
          clear hq0
          by_cases hu : u = 47
          · have HJ2 : Hid (J = (r, true)) := by rw [Hid, HJ.out, if_pos hu]
            have hub : ((u.toNat : Int) == 47) = true := by rw [hu]; rfl
            clear hu
            go_wp2_with fail
            refine (HCP.out _).mono ?_
            rintro e w2 ⟨rfl, rfl⟩
            go_wp2
            go_ret2
            exact ⟨by rw [HJ2.out]; rfl, HC1.out⟩
          · have HJ2 : Hid (J = ([], false)) := by rw [Hid, HJ.out, if_neg hu]
            have hub : ((u.toNat : Int) == 47) = false := by
              simp only [beq_eq_false_iff_ne, ne_eq]
              intro h
              exact hu (UInt8.toNat_inj.1 (by show u.toNat = 47; omega))
            go_wp2_with fail
            refine (HCP.out _).mono ?_
            rintro e w2 ⟨rfl, rfl⟩
            go_wp2
            go_ret2
            exact ⟨by rw [HJ2.out]; rfl, HC1.out⟩
  · have hb : (z != 0) = true := by simpa using h0
    have HJ2 : Hid (J = ([], false)) := by rw [Hid, HJ.out, if_pos h0]
    clear h0
    go_wp2
    go_ret2
    exact ⟨by rw [HJ2.out]; rfl, HC1.out⟩
theorem in_calls (w : World) (p q : List UInt8) (hp : p.length ≤ 9223372036854775807) (hq : q.length ≤ 9223372036854775807) :
    Calls Tryd.prog 26 #[.string (mkS p), .string (mkS q)] w fun e w' => e = .returned (.bool (restF p q).2) ∧ Chg No w w' := by
  have HR := Lib.hid (namerest_calls w p q hp hq)
  generalize restF p q = J at *
  go_enter Tryd.func26, Tryd.ntmps26
  go_wp2_with fail
  refine HR.out.mono ?_
  rintro e w1 ⟨rfl, hc1⟩
  go_wp2
  go_ret
  exact ⟨rfl, hc1⟩
theorem move_calls (w : World) (p f t : List UInt8) (hp : p.length ≤ 9223372036854775807) (hf : f.length ≤ 9223372036854775807) (ht : t.length ≤ 9223372036854775807) :
    Calls Tryd.prog 23 #[.string (mkS p), .string (mkS f), .string (mkS t)] w fun e w' => e = .returned (.tuple #[.string (mkS (moveF p f t).1), .int .i64 (moveF p f t).2]) ∧ Chg No w w' := by
  have HIS : Hid (Calls Tryd.prog 44 #[.slice (some ⟨w.heap.size, 0, none⟩) 3 3] (w.alloc (.cells #[.string (mkS p), .string (mkS f), .string (mkS t)] 9)) fun e w' => e = .returned (.int .i64 (isF [p, f, t])) ∧ Chg No (w.alloc (.cells #[.string (mkS p), .string (mkS f), .string (mkS t)] 9)) w') := is_calls _ _ 3 3 [p, f, t] (sl3 w p f t) (by omega) (by simp; exact ⟨hp, hf, ht⟩)
  have HJ : Hid (moveF p f t = if isF [p, f, t] ≠ 0 then ([], isF [p, f, t]) else if (restF p f).2 = false then ([], 141) else joinF t (restF p f).1) := rfl
  have HC0 : Hid (Chg No w (w.alloc (.cells #[.string (mkS p), .string (mkS f), .string (mkS t)] 9))) := (Chg.refl No w).alloc _
  have HRL : Hid ((restF p f).1.length ≤ 9223372036854775807) := by
    rw [Hid]
    unfold restF
    split
    · simp
    · split
      · simp
      · split
        · simp; omega
        · split
          · simp; omega
          · simp
  have HRE : Hid (∀ W, Calls Tryd.prog 25 #[.string (mkS p), .string (mkS f)] W fun e w' => e = .returned (.tuple #[.string (mkS (restF p f).1), .bool (restF p f).2]) ∧ Chg No W w') := fun W => namerest_calls W p f hp hf
  have HJO : Hid (∀ W, Calls Tryd.prog 28 #[.string (mkS t), .string (mkS (restF p f).1)] W fun e w' => e = .returned (.tuple #[.string (mkS (joinF t (restF p f).1).1), .int .i64 (joinF t (restF p f).1).2]) ∧ Chg No W w') := fun W => namejoin_calls W t _ ht HRL.out
  generalize moveF p f t = J at *
  generalize joinF t (restF p f).1 = K at *
  generalize isF [p, f, t] = z at *
  go_enter Tryd.func23, Tryd.ntmps23
  go_wp2_with fail
  refine HIS.out.mono ?_
  rintro e w1 ⟨rfl, hc1⟩
  have HC1 := Lib.hid (HC0.out.no hc1)
  clear hc1 HIS HC0
  by_cases h0 : z = 0
  · have hb : (z != 0) = false := by rw [h0]; rfl
    rw [Hid, if_neg (by simpa using h0)] at HJ
    have HJ := Lib.hid HJ
    clear h0
    cases hr : (restF p f).2 with
    | false =>
      have HJ2 : Hid (J = ([], 141)) := by rw [Hid, HJ.out, if_pos hr]
      rw [hr] at HRE
      clear hr
      go_wp2_with fail
      refine (HRE.out _).mono ?_
      rintro e w2 ⟨rfl, hc2⟩
      go_wp2
      go_ret2
      exact ⟨by rw [HJ2.out]; rfl, HC1.out.no hc2⟩
    | true =>
      have HJ2 : Hid (J = K) := by rw [Hid, HJ.out, if_neg (by rw [hr]; simp)]
      rw [hr] at HRE
      clear hr
      go_wp2_with fail
      refine (HRE.out _).mono ?_
      rintro e w2 ⟨rfl, hc2⟩
      have HC2 := Lib.hid (HC1.out.no hc2)
      go_wp2_with fail
      refine (HJO.out _).mono ?_
      rintro e w3 ⟨rfl, hc3⟩
      go_wp2
      go_ret2
      exact ⟨by rw [HJ2.out]; rfl, HC2.out.no hc3⟩
  · have hb : (z != 0) = true := by simpa using h0
    have HJ2 : Hid (J = ([], z)) := by rw [Hid, HJ.out, if_pos h0]
    clear h0
    go_wp2
    go_ret2
    exact ⟨by rw [HJ2.out]; rfl, HC1.out⟩
end Go.Proofs.YtkjbbidnpnecjaaDoor
