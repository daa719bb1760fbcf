/-
  Names: the reference's Within, Rest, Join, Move.
-/
import Derived.Test.YtkjbbidnpnecjaaDoorNm7
import Derived.Test.YtkjbbidnpnecjaaDoorNm8
namespace Go.Proofs.YtkjbbidnpnecjaaDoor
open Go.RowKit
set_option linter.unusedVariables false
set_option linter.unusedSimpArgs false
set_option maxRecDepth 100000

theorem OwnS.chg {w w' : World} {base n : Nat} {v : Value} {l : List (List UInt8)} (h : OwnS w base v n l) (hc : Chg No w w') : OwnS w' base v n l := by
  obtain ⟨h1, h2⟩ := h
  refine ⟨h1, h2.imp id ?_⟩
  rintro ⟨g, cap, cur, rfl, hg, hh, r⟩
  exact ⟨g, cap, cur, rfl, hg, hc.heap hh (fun x => x), r⟩
theorem OwnS.mono {w : World} {base base' n : Nat} {v : Value} {l : List (List UInt8)} (h : OwnS w base v n l) (hb : base' ≤ base) : OwnS w base' v n l := by
  obtain ⟨h1, h2⟩ := h
  refine ⟨h1, h2.imp id ?_⟩
  rintro ⟨g, cap, cur, hv, hg, r⟩
  exact ⟨g, cap, cur, hv, Nat.le_trans hb hg, r⟩
theorem Sl.drop {w : World} {A : Option Addr} {n c k : Nat} {l : List (List UInt8)} (h : Sl strv w (.slice A n c) l) (hk : k ≤ n) : Sl strv w (.slice (if c = k then A else A.map (·.add k)) (n - k) (c - k)) (l.drop k) := by
  have hn := h.len
  have := Holds.drop (size := 1) (k := k) (show Holds w (.slice A n c) n (l.map strv) by rw [← hn]; rw [← hn] at h; exact h) hk (by decide) (by simp [hn])
  simpa [Sl, List.map_drop, hn] using this
set_option maxHeartbeats 3200000 in
theorem within_calls (w : World) (A : Option Addr) (n c : Nat) (l : List (List UInt8)) (A' : Option Addr) (n' c' : Nat) (m : List (List UInt8)) (h : Sl strv w (.slice A n c) l) (h' : Sl strv w (.slice A' n' c') m) (hn : n ≤ 1000) (hn' : n' ≤ 1000) (hc : n ≤ c) (hc2 : c ≤ 9223372036854775807) :
    Calls Tryd.prog 46 #[.slice A n c, .slice A' n' c'] w fun e w' => ∃ B k d, e = .returned (.tuple #[.slice B k d, .bool (m.isPrefixOf l)]) ∧ (m.isPrefixOf l = true → Hid (k = n - n') ∧ Hid (Sl strv w' (.slice B k d) (l.drop m.length))) ∧ Chg No w w' := by
  have HL := Lib.hid h.len
  have HL' := Lib.hid h'.len
  have H := Lib.hid h
  have H' := Lib.hid h'
  have HE := Lib.hid (List.isPrefixOf_iff_prefix (l₁ := m) (l₂ := l))
  have HP : Hid (m.isPrefixOf l = true ↔ m.take n' = l.take n' ∧ n' ≤ n) := by
    have hm : m.take n' = m := List.take_of_length_le (by rw [HL'.out]; exact Nat.le_refl _)
    rw [Hid, HE.out, List.prefix_iff_eq_take, HL'.out, hm]
    constructor
    · intro h
      refine ⟨h, ?_⟩
      have := congrArg List.length h
      rw [List.length_take, HL'.out, HL.out] at this
      omega
    · exact fun h => h.1
  generalize m.isPrefixOf l = P at *
  clear h h' HE
  by_cases hnn : n < n'
  · have hb : (n : Int) < (n' : Int) := by omega
    have HF : Hid (P = false) := by
      cases P with
      | false => rfl
      | true => exact absurd (HP.out.1 rfl).2 (by omega)
    go_enter Tryd.func46, Tryd.ntmps46
    go_wp2
    go_ret2
    exact ⟨none, 0, 0, by rw [HF.out]; rfl, (fun h => by rw [HF.out] at h; cases h), Chg.refl _ _⟩
  · have hb : ¬ (n : Int) < (n' : Int) := by omega
    go_enter Tryd.func46, Tryd.ntmps46
    go_wp2
    go_loopw [14] (fun i wr => ∃ k : Nat, k ≤ n' ∧ i = .int .i64 (k : Int) ∧ Hid (m.take k = l.take k) ∧ Hid (Chg No w wr)) (fun i _ => n' - (intOf i).toNat)
    case atStart => exact ⟨0, Nat.zero_le _, rfl, rfl, Chg.refl _ _⟩
    case round =>
      obtain ⟨k, hk, rfl, HN, HC⟩ := hrel
      by_cases hlt : k < n'
      · have hltn : k < n := by omega
        obtain ⟨b, o, rfl, hcell⟩ := (H.out.no HC.out).addr (by rw [HL.out]; omega)
        obtain ⟨b', o', rfl, hcell'⟩ := (H'.out.no HC.out).addr (by rw [HL'.out]; omega)
        have c0 := hcell k (by rw [HL.out]; exact hltn)
        have d0 := hcell' k (by rw [HL'.out]; exact hlt)
        have hT : l.take (k + 1) = l.take k ++ [l[k]'(by rw [HL.out]; exact hltn)] := by rw [List.take_succ_eq_append_getElem]
        have hT' : m.take (k + 1) = m.take k ++ [m[k]'(by rw [HL'.out]; exact hlt)] := by rw [List.take_succ_eq_append_getElem]
        generalize l[k]'(by rw [HL.out]; exact hltn) = x at *
        generalize m[k]'(by rw [HL'.out]; exact hlt) = y at *
        have HT := Lib.hid hT
        have HT' := Lib.hid hT'
        clear hcell hcell' hT hT'
        rw [strv_text] at c0 d0
        by_cases hx : x = y
        · subst hx
          generalize mkS x = sx at *
          go_wp2
          go_quiet (fail)
          go_wp2
          go_roundw
          case rel => exact ⟨k + 1, by omega, by simp, by rw [Hid, HT.out, HT'.out, HN.out], by first | exact HC.out | exact HC.out.drewN _⟩
          case measure => simp [intOf]; omega
        · have HF : Hid (P = false) := by
            cases P with
            | false => rfl
            | true =>
              have h1 := congrArg (List.take (k + 1)) (HP.out.1 rfl).1
              rw [List.take_take, List.take_take, Nat.min_eq_left (by omega), HT.out, HT'.out, HN.out, List.append_cancel_left_eq, List.singleton_inj] at h1
              exact absurd h1.symm hx
          have hb : ((mkS x).toList == (mkS y).toList) = false := by rw [Lib.toList_data, Lib.toList_data, mkS_list, mkS_list]; exact beq_eq_false_iff_ne.2 hx
          clear hx
          generalize mkS x = sx at *
          generalize mkS y = sy at *
          go_wp2
          go_quiet (fail)
          go_wp2
          go_ret2
          exact ⟨none, 0, 0, by rw [HF.out]; rfl, (fun h => by rw [HF.out] at h; cases h), by first | exact HC.out | exact HC.out.drewN _⟩
      · have hkn : k = n' := by omega
        subst hkn
        have HF : Hid (P = true) := HP.out.2 ⟨HN.out, by omega⟩
        have hlt2 : ¬ (k : Int) < (k : Int) := by omega
        have hkc : (k : Int) ≤ (n : Int) := by omega
        have hkc2 : (k : Int) ≤ (c : Int) := by omega
        have hnc2 : (n : Int) ≤ (c : Int) := by omega
        have HD := Lib.hid ((H.out.no HC.out).drop (k := k) (by omega))
        by_cases hck : c = k
        · have HD2 := HD.out
          rw [if_pos hck] at HD2
          have HD3 := Lib.hid HD2
          clear HD2 HD
          have hck1 : (c : Int) = (k : Int) := by omega
          go_wp2
          go_ret2
          exact ⟨_, _, _, by rw [HF.out]; rfl, fun _ => ⟨rfl, by rw [HL'.out]; have := HD3.out; rw [hck, Nat.sub_self] at this; exact this⟩, HC.out⟩
        · have HD2 := HD.out
          rw [if_neg hck] at HD2
          have HD3 := Lib.hid HD2
          clear HD2 HD
          have hck1 : ¬ (c : Int) = (k : Int) := by omega
          go_wp2
          go_ret2
          exact ⟨_, _, _, by rw [HF.out]; rfl, fun _ => ⟨rfl, by rw [HL'.out]; exact HD3.out⟩, HC.out⟩
set_option maxHeartbeats 3200000 in
theorem refrest_calls (w : World) (p q : List UInt8) (hp : p.length ≤ 9223372036854775807) (hq : q.length ≤ 9223372036854775807) :
    Calls Tryd.prog 24 #[.string (mkS p), .string (mkS q)] w fun e w' => e = .returned (.tuple #[.string (mkS (restR p q).1), .bool (restR p q).2]) ∧ Chg No w w' := by
  have HI1 : Hid (∀ W, _) := fun W => refis_calls W (mkS p) (by rw [mkS_size]; exact hp)
  have HI2 : Hid (∀ W, _) := fun W => refis_calls W (mkS q) (by rw [mkS_size]; exact hq)
  rw [mkS_list] at HI1 HI2
  have HR : Hid (restR p q = if isP p && isP q && (partsL q).isPrefixOf (partsL p) then (joinL ((partsL p).drop (partsL q).length), true) else ([], false)) := rfl
  generalize restR p q = R at *
  cases hp0 : isP p with
  | false =>
    have HN : Hid (R = ([], false)) := by rw [Hid, HR.out, hp0]; rfl
    rw [hp0] at HI1
    go_enter Tryd.func24, Tryd.ntmps24
    go_wp2_with fail
    refine (HI1.out _).mono ?_
    rintro e w1 ⟨rfl, hc1⟩
    go_wp2
    go_ret2
    exact ⟨by rw [HN.out]; rfl, hc1⟩
  | true =>
    cases hq0 : isP q with
    | false =>
      have HN : Hid (R = ([], false)) := by rw [Hid, HR.out, hq0, Bool.and_false]; rfl
      rw [hp0] at HI1
      rw [hq0] at HI2
      go_enter Tryd.func24, Tryd.ntmps24
      go_wp2_with fail
      refine (HI1.out _).mono ?_
      rintro e w1 ⟨rfl, hc1⟩
      have HC1 := Lib.hid hc1
      clear hc1
      go_wp2_with fail
      refine (HI2.out _).mono ?_
      rintro e w2 ⟨rfl, hc2⟩
      go_wp2
      go_ret2
      exact ⟨by rw [HN.out]; rfl, HC1.out.no hc2⟩
    | true =>
      rw [hp0] at HI1
      rw [hq0] at HI2
      rw [Hid, hp0, hq0, Bool.true_and, Bool.true_and] at HR
      have HR := Lib.hid HR
      have hpk : (pathF p).1 = 0 := by simpa [isP] using hp0
      have hqk : (pathF q).1 = 0 := by simpa [isP] using hq0
      have l1 := path_len hpk
      have l2 := path_len hqk
      have hpl := parts_len p
      have hql := parts_len q
      have HFP := Lib.hid (fit_parts hpk)
      have HP1 : Hid (∀ W, _) := fun W => refparts_calls W (mkS p) (by rw [mkS_size]; omega)
      have HP2 : Hid (∀ W, _) := fun W => refparts_calls W (mkS q) (by rw [mkS_size]; omega)
      rw [mkS_list] at HP1 HP2
      have HJL : Hid (∀ k, (joinL ((partsL p).drop k)).length ≤ 140737488355328) := fun k => by
        refine join_small (firstBad_iff.2 fun x hx => HFP.out.1 x (List.mem_of_mem_drop hx)) ?_
        rw [List.length_drop]
        omega
      clear hp0 hq0 hpk hqk HFP
      generalize partsL p = l at *
      generalize partsL q = m at *
      go_enter Tryd.func24, Tryd.ntmps24
      go_wp2_with fail
      refine (HI1.out _).mono ?_
      rintro e w1 ⟨rfl, hc1⟩
      have HC1 := Lib.hid hc1
      clear hc1
      go_wp2_with fail
      refine (HI2.out _).mono ?_
      rintro e w2 ⟨rfl, hc2⟩
      have HC2 := Lib.hid (HC1.out.no hc2)
      clear hc2
      go_wp2_with fail
      refine (HP1.out _).mono ?_
      rintro e w3 ⟨A1, n1, c1, rfl, hl1, ho1, hc3⟩
      have HC3 := Lib.hid (HC2.out.no hc3)
      have HS1 := Lib.hid (ho1.sl hl1)
      have HL1 := Lib.hid hl1
      rw [hl1] at hpl
      clear hc3 ho1 hl1
      go_wp2_with fail
      refine (HP2.out _).mono ?_
      rintro e w4 ⟨A2, n2, c2, rfl, hl2, ho2, hc4⟩
      have HC4 := Lib.hid (HC3.out.no hc4)
      have HS1' := Lib.hid (HS1.out.no hc4)
      have HS2 := Lib.hid (ho2.sl hl2)
      have HL2 := Lib.hid hl2
      rw [hl2] at hql
      clear hc4 ho2 hl2
      have hcc : n1 ≤ c1 ∧ c1 ≤ 9223372036854775807 := by
        obtain ⟨A', c', he, h2, h3, -⟩ := HS1'.out
        simp only [Value.slice.injEq] at he
        unfold maxLen at h3
        have := HL1.out
        omega
      have HW := Lib.hid (within_calls w4 A1 n1 c1 l A2 n2 c2 m HS1'.out HS2.out (by omega) (by omega) hcc.1 hcc.2)
      go_wp2_with fail
      refine HW.out.mono ?_
      rintro e w5 ⟨B, k, d, rfl, hsl, hc5⟩
      have HSL := Lib.hid hsl
      have HC5 := Lib.hid (HC4.out.no hc5)
      clear hsl hc5
      cases hpre : m.isPrefixOf l with
      | false =>
        have HN : Hid (R = ([], false)) := by rw [Hid, HR.out, hpre]; rfl
        clear hpre
        go_wp2
        go_ret2
        exact ⟨by rw [HN.out]; rfl, HC5.out⟩
      | true =>
        have HN : Hid (R = (joinL (l.drop m.length), true)) := by rw [Hid, HR.out, hpre]; rfl
        obtain ⟨hk, hs⟩ := HSL.out hpre
        have HJ := Lib.hid (join_calls w5 B k d (l.drop m.length) hs.out (by rw [hk.out]; omega) (HJL.out _))
        clear hpre hk hs
        generalize joinL (l.drop m.length) = j at *
        go_wp2_with fail
        refine HJ.out.mono ?_
        rintro e w6 ⟨rfl, hc6⟩
        have HC6 := Lib.hid (HC5.out.no hc6)
        go_wp2
        go_ret2
        exact ⟨by rw [HN.out]; rfl, HC6.out⟩
set_option maxHeartbeats 3200000 in
theorem refjoin_calls (w : World) (p q : List UInt8) (hp : p.length ≤ 9223372036854775807) (hq : q.length ≤ 9223372036854775807) :
    Calls Tryd.prog 29 #[.string (mkS p), .string (mkS q)] w fun e w' => e = .returned (.tuple #[.string (mkS (joinF p q).1), .int .i64 (joinF p q).2]) ∧ Chg No w w' := by
  have HI1 : Hid (∀ W, _) := fun W => refpath_calls W (mkS p) (by rw [mkS_size]; exact hp)
  have HI2 : Hid (∀ W, _) := fun W => refpath_calls W (mkS q) (by rw [mkS_size]; exact hq)
  rw [mkS_list] at HI1 HI2
  have HR : Hid (joinF p q = if (pathF p).1 ≠ 0 then ([], (pathF p).1) else if (pathF q).1 ≠ 0 then ([], (pathF q).1) else makeF (partsL p ++ partsL q)) := by
    rw [Hid, joinF, isF, isF, isF]
    by_cases h1 : (pathF p).1 = 0
    · by_cases h2 : (pathF q).1 = 0
      · simp [h1, h2]
      · simp [h1, h2]
    · simp [h1]
  have HZP : Hid ((pathF p).1 = 0 → p.length ≤ 200) := path_len
  have HZQ : Hid ((pathF q).1 = 0 → q.length ≤ 200) := path_len
  generalize joinF p q = R at *
  obtain ⟨⟨a1, a2⟩, ha⟩ : ∃ z, pathF p = z := ⟨_, rfl⟩
  obtain ⟨⟨b1, b2⟩, hb⟩ : ∃ z, pathF q = z := ⟨_, rfl⟩
  rw [ha] at HI1 HR HZP
  rw [hb] at HI2 HR HZQ
  clear ha hb
  unfold spotV at HI1 HI2
  have i0 : ∀ W, Sem.run Tryd.prog (Instr.index 61 (.agg #[.string (mkS p), .string (mkS q)]) (.int .i64 0)) W = .ok (.string (mkS p)) W := fun W => rfl
  have i1 : ∀ W, Sem.run Tryd.prog (Instr.index 61 (.agg #[.string (mkS p), .string (mkS q)]) (.int .i64 1)) W = .ok (.string (mkS q)) W := fun W => rfl
  go_enter Tryd.func29, Tryd.ntmps29
  go_wp2
  go_loopw [12] (fun i wr => ∃ k : Nat, k ≤ 2 ∧ i = .int .i64 (k : Int) ∧ Hid (1 ≤ k → a1 = 0) ∧ Hid (2 ≤ k → b1 = 0) ∧ Hid (Chg No w wr)) (fun i _ => 2 - (intOf i).toNat)
  case atStart => exact ⟨0, Nat.zero_le _, rfl, fun h => by omega, fun h => by omega, Chg.refl _ _⟩
  case round =>
    obtain ⟨k, hk, rfl, H1, H2, HC⟩ := hrel
    obtain rfl | rfl | rfl : k = 0 ∨ k = 1 ∨ k = 2 := by omega
    · go_wp2_with fail
      refine (HI1.out _).mono ?_
      rintro e w1 ⟨rfl, hc1⟩
      have HC1 := Lib.hid (HC.out.no hc1)
      have HB := Lib.hid (heap_alloc_new w1 (.cells #[.int .i64 a1, .int .i64 a2] 26))
      have HC2 : Hid (Chg No w (w1.alloc (.cells #[.int .i64 a1, .int .i64 a2] 26))) := HC1.out.alloc _
      obtain ⟨u0, u1⟩ := heap2 HB.out
      clear hc1 HC HC1 HB
      by_cases h0 : a1 = 0
      · have hb : (a1 != 0) = false := by rw [h0]; rfl
        have H0 := Lib.hid h0
        clear h0
        go_wp2
        go_roundw
        case rel => exact ⟨1, by omega, by first | rfl | simp, fun _ => H0.out, fun h => by omega, HC2.out⟩
        case measure => first | (simp [intOf]; done) | (simp [intOf]; omega) | omega | decide
      · have hb : (a1 != 0) = true := by simpa using h0
        have HN : Hid (R = ([], a1)) := by rw [Hid, HR.out, if_pos h0]
        clear h0
        go_wp2
        go_region
        all_goals
          go_wp2
          go_ret2
          exact ⟨by rw [HN.out]; rfl, HC2.out.drew⟩
    · have HA0 : Hid (a1 = 0) := H1.out (by omega)
      go_wp2_with fail
      refine (HI2.out _).mono ?_
      rintro e w1 ⟨rfl, hc1⟩
      have HC1 := Lib.hid (HC.out.no hc1)
      have HB := Lib.hid (heap_alloc_new w1 (.cells #[.int .i64 b1, .int .i64 b2] 26))
      have HC2 : Hid (Chg No w (w1.alloc (.cells #[.int .i64 b1, .int .i64 b2] 26))) := HC1.out.alloc _
      obtain ⟨u0, u1⟩ := heap2 HB.out
      clear hc1 HC HC1 HB
      by_cases h0 : b1 = 0
      · have hb : (b1 != 0) = false := by rw [h0]; rfl
        have H0 := Lib.hid h0
        clear h0
        go_wp2
        go_roundw
        case rel => exact ⟨2, by omega, by first | rfl | simp, fun _ => HA0.out, fun h => H0.out, HC2.out⟩
        case measure => first | (simp [intOf]; done) | (simp [intOf]; omega) | omega | decide
      · have hb : (b1 != 0) = true := by simpa using h0
        have HN : Hid (R = ([], b1)) := by rw [Hid, HR.out, HA0.out, if_neg (by simp), if_pos h0]
        clear h0
        go_wp2
        go_region
        all_goals
          go_wp2
          go_ret2
          exact ⟨by rw [HN.out]; rfl, HC2.out.drew⟩
    · have HA0 : Hid (a1 = 0) := H1.out (by omega)
      have HB0 : Hid (b1 = 0) := H2.out (by omega)
      have HJ2 : Hid (R = makeF (partsL p ++ partsL q)) := by rw [Hid, HR.out, HA0.out, HB0.out]; rfl
      have l1 := HZP.out HA0.out
      have l2 := HZQ.out HB0.out
      have HP := Lib.hid (refparts_calls wr (mkS p) (by rw [mkS_size]; omega))
      rw [mkS_list] at HP
      have hpl := parts_len p
      have hql := parts_len q
      have HPX : Hid (∀ x ∈ partsL p, x.length ≤ 200) := fun x hx => by have := parts_short hx; omega
      have HQX : Hid (∀ x ∈ partsL q, x.length ≤ 200) := fun x hx => by have := parts_short hx; omega
      clear i0 i1
      go_wp2_with fail
      refine HP.out.mono ?_
      rintro e w2 ⟨A1, n1, c1, rfl, hl1, ho1, hc2⟩
      have HC2 := Lib.hid (HC.out.no hc2)
      have HQ := Lib.hid (refparts_calls w2 (mkS q) (by rw [mkS_size]; omega))
      rw [mkS_list] at HQ
      have HO1 : Hid (OwnS w2 w.heap.size (.slice A1 n1 c1) n1 (partsL p)) := OwnS.mono ho1 HC.out.size
      rw [hl1] at hpl
      have HL1 := Lib.hid hl1
      clear hc2 ho1 hl1
      go_wp2_with fail
      refine HQ.out.mono ?_
      rintro e w3 ⟨A2, n2, c2, rfl, hl2, ho2, hc3⟩
      have HC3 := Lib.hid (HC2.out.no hc3)
      have HO1' : Hid (OwnS w3 w.heap.size (.slice A1 n1 c1) n1 (partsL p)) := OwnS.chg HO1.out hc3
      have src8 := Lib.hid (Src.ofStrs (ho2.sl hl2))
      rw [hl2] at hql
      have HL2 := Lib.hid hl2
      clear hc3 ho2 hl2
      generalize partsL p = lp at *
      generalize partsL q = lq at *
      go_wp2_with (at_builtin; (refine wpList_app2 rfl (.tmp 24) (.tmp 26) 30 30 rfl w.heap.size 9 (.string ⟨#[]⟩) 1 16 infoStr1 Tryd.underlying30 rfl (by decide) (.slice A1 n1 c1) (.slice A2 n2 c2) n1 n2 (lp.map strv) (lq.map strv) rfl rfl ?own ?src ?b1 ?b2 ?b3 ?_; (case own => exact HO1'.out); (case src => exact src8.out); (case b1 => omega); (case b2 => unfold maxLen; omega); (case b3 => exact HC3.out.size); intro v8 w8 hown8 hg8 hfrom8; refine Hid.out ?_))
      refine Lib.hid ?_
      obtain ⟨A8, c8, rfl⟩ := ownsRow_form hown8
      have HO8 : Hid (OwnS w8 w.heap.size (.slice A8 (n1 + n2) c8) (n1 + n2) (lp ++ lq)) := by rw [Hid, OwnS, List.map_append]; exact hown8
      have HC8 : Hid (Chg No w w8) := HC3.out.grown hg8 (fun q hq => .inl (World.ownsRow.lt HO1'.out q hq).1)
      clear hown8 hg8 hfrom8 src8
      have HMK := Lib.hid (refmake_calls w8 A8 (n1 + n2) c8 (lp ++ lq) (HO8.out.sl (by rw [List.length_append, HL1.out, HL2.out])) (by omega) (by
        intro x hx
        rcases List.mem_append.1 hx with hx | hx
        · have := HPX.out x hx; omega
        · have := HQX.out x hx; omega))
      generalize makeF (lp ++ lq) = M at *
      go_wp2_with fail
      refine HMK.out.mono ?_
      rintro e w9 ⟨rfl, hc9⟩
      have HC9 := Lib.hid (HC8.out.no hc9)
      go_wp2
      go_ret2
      exact ⟨by rw [HJ2.out]; rfl, HC9.out⟩
set_option maxHeartbeats 3200000 in
theorem refmove_calls (w : World) (p f t : List UInt8) (hp : p.length ≤ 9223372036854775807) (hf : f.length ≤ 9223372036854775807) (ht : t.length ≤ 9223372036854775807) :
    Calls Tryd.prog 22 #[.string (mkS p), .string (mkS f), .string (mkS t)] w fun e w' => e = .returned (.tuple #[.string (mkS (moveF p f t).1), .int .i64 (moveF p f t).2]) ∧ Chg No w w' := by
  have HI1 : Hid (∀ W, _) := fun W => refpath_calls W (mkS p) (by rw [mkS_size]; exact hp)
  have HI2 : Hid (∀ W, _) := fun W => refpath_calls W (mkS f) (by rw [mkS_size]; exact hf)
  have HI3 : Hid (∀ W, _) := fun W => refpath_calls W (mkS t) (by rw [mkS_size]; exact ht)
  rw [mkS_list] at HI1 HI2 HI3
  have HRR : Hid (∀ W, _) := fun W => refrest_calls W p f hp hf
  rw [← rest_eq] at HRR
  have hrl : (restF p f).1.length ≤ 9223372036854775807 := by
    unfold restF
    repeat' split
    all_goals first | (simp; done) | (simp; omega) | (show List.length _ ≤ _; rw [List.length_drop]; omega)
  have HJN : Hid (∀ W, _) := fun W => refjoin_calls W t (restF p f).1 ht hrl
  have HR : Hid (moveF p f t = if (pathF p).1 ≠ 0 then ([], (pathF p).1) else if (pathF f).1 ≠ 0 then ([], (pathF f).1) else if (pathF t).1 ≠ 0 then ([], (pathF t).1) else if (restF p f).2 = false then ([], 141) else joinF t (restF p f).1) := by
    rw [Hid, moveF, isF, isF, isF, isF]
    by_cases h1 : (pathF p).1 = 0
    · by_cases h2 : (pathF f).1 = 0
      · by_cases h3 : (pathF t).1 = 0
        · simp [h1, h2, h3]
        · simp [h1, h2, h3]
      · simp [h1, h2]
    · simp [h1]
  generalize moveF p f t = R at *
  obtain ⟨⟨a1, a2⟩, ha⟩ : ∃ z, pathF p = z := ⟨_, rfl⟩
  obtain ⟨⟨b1, b2⟩, hb⟩ : ∃ z, pathF f = z := ⟨_, rfl⟩
  obtain ⟨⟨d1, d2⟩, hd⟩ : ∃ z, pathF t = z := ⟨_, rfl⟩
  rw [ha] at HI1 HR
  rw [hb] at HI2 HR
  rw [hd] at HI3 HR
  obtain ⟨⟨rs, rb⟩, hr⟩ : ∃ z, restF p f = z := ⟨_, rfl⟩
  rw [hr] at HRR HJN HR
  clear ha hb hd hr hrl
  simp only at HRR HJN HR
  generalize joinF t rs = J at *
  unfold spotV at HI1 HI2 HI3
  have i0 : ∀ W, Sem.run Tryd.prog (Instr.index 56 (.agg #[.string (mkS p), .string (mkS f), .string (mkS t)]) (.int .i64 0)) W = .ok (.string (mkS p)) W := fun W => rfl
  have i1 : ∀ W, Sem.run Tryd.prog (Instr.index 56 (.agg #[.string (mkS p), .string (mkS f), .string (mkS t)]) (.int .i64 1)) W = .ok (.string (mkS f)) W := fun W => rfl
  have i2 : ∀ W, Sem.run Tryd.prog (Instr.index 56 (.agg #[.string (mkS p), .string (mkS f), .string (mkS t)]) (.int .i64 2)) W = .ok (.string (mkS t)) W := fun W => rfl
  go_enter Tryd.func22, Tryd.ntmps22
  go_wp2
  go_loopw [17] (fun i wr => ∃ k : Nat, k ≤ 3 ∧ i = .int .i64 (k : Int) ∧ Hid (1 ≤ k → a1 = 0) ∧ Hid (2 ≤ k → b1 = 0) ∧ Hid (3 ≤ k → d1 = 0) ∧ Hid (Chg No w wr)) (fun i _ => 3 - (intOf i).toNat)
  case atStart => exact ⟨0, Nat.zero_le _, rfl, fun h => by omega, fun h => by omega, fun h => by omega, Chg.refl _ _⟩
  case round =>
    obtain ⟨k, hk, rfl, H1, H2, H3, HC⟩ := hrel
    obtain rfl | rfl | rfl | rfl : k = 0 ∨ k = 1 ∨ k = 2 ∨ k = 3 := by omega
    · go_wp2_with fail
      refine (HI1.out _).mono ?_
      rintro e w1 ⟨rfl, hc1⟩
      have HC1 := Lib.hid (HC.out.no hc1)
      have HB := Lib.hid (heap_alloc_new w1 (.cells #[.int .i64 a1, .int .i64 a2] 26))
      have HC2 : Hid (Chg No w (w1.alloc (.cells #[.int .i64 a1, .int .i64 a2] 26))) := HC1.out.alloc _
      obtain ⟨u0, u1⟩ := heap2 HB.out
      clear hc1 HC HC1 HB
      by_cases h0 : a1 = 0
      · have hb : (a1 != 0) = false := by rw [h0]; rfl
        have H0 := Lib.hid h0
        clear h0
        go_wp2
        go_roundw
        case rel => exact ⟨1, by omega, by first | rfl | simp, fun _ => H0.out, fun h => by omega, fun h => by omega, HC2.out⟩
        case measure => first | (simp [intOf]; done) | (simp [intOf]; omega) | omega | decide
      · have hb : (a1 != 0) = true := by simpa using h0
        have HN : Hid (R = ([], a1)) := by rw [Hid, HR.out, if_pos h0]
        clear h0
        go_wp2
        go_region
        all_goals
          go_wp2
          go_ret2
          exact ⟨by rw [HN.out]; rfl, HC2.out.drew⟩
    · have HA0 : Hid (a1 = 0) := H1.out (by omega)
      go_wp2_with fail
      refine (HI2.out _).mono ?_
      rintro e w1 ⟨rfl, hc1⟩
      have HC1 := Lib.hid (HC.out.no hc1)
      have HB := Lib.hid (heap_alloc_new w1 (.cells #[.int .i64 b1, .int .i64 b2] 26))
      have HC2 : Hid (Chg No w (w1.alloc (.cells #[.int .i64 b1, .int .i64 b2] 26))) := HC1.out.alloc _
      obtain ⟨u0, u1⟩ := heap2 HB.out
      clear hc1 HC HC1 HB
      by_cases h0 : b1 = 0
      · have hb : (b1 != 0) = false := by rw [h0]; rfl
        have H0 := Lib.hid h0
        clear h0
        go_wp2
        go_roundw
        case rel => exact ⟨2, by omega, by first | rfl | simp, fun _ => HA0.out, fun _ => H0.out, fun h => by omega, HC2.out⟩
        case measure => first | (simp [intOf]; done) | (simp [intOf]; omega) | omega | decide
      · have hb : (b1 != 0) = true := by simpa using h0
        have HN : Hid (R = ([], b1)) := by rw [Hid, HR.out, HA0.out, if_neg (by simp), if_pos h0]
        clear h0
        go_wp2
        go_region
        all_goals
          go_wp2
          go_ret2
          exact ⟨by rw [HN.out]; rfl, HC2.out.drew⟩
    · have HA0 : Hid (a1 = 0) := H1.out (by omega)
      have HB0 : Hid (b1 = 0) := H2.out (by omega)
      go_wp2_with fail
      refine (HI3.out _).mono ?_
      rintro e w1 ⟨rfl, hc1⟩
      have HC1 := Lib.hid (HC.out.no hc1)
      have HB := Lib.hid (heap_alloc_new w1 (.cells #[.int .i64 d1, .int .i64 d2] 26))
      have HC2 : Hid (Chg No w (w1.alloc (.cells #[.int .i64 d1, .int .i64 d2] 26))) := HC1.out.alloc _
      obtain ⟨u0, u1⟩ := heap2 HB.out
      clear hc1 HC HC1 HB
      by_cases h0 : d1 = 0
      · have hb : (d1 != 0) = false := by rw [h0]; rfl
        have H0 := Lib.hid h0
        clear h0
        go_wp2
        go_roundw
        case rel => exact ⟨3, by omega, by first | rfl | simp, fun _ => HA0.out, fun _ => HB0.out, fun _ => H0.out, HC2.out⟩
        case measure => first | (simp [intOf]; done) | (simp [intOf]; omega) | omega | decide
      · have hb : (d1 != 0) = true := by simpa using h0
        have HN : Hid (R = ([], d1)) := by rw [Hid, HR.out, HA0.out, HB0.out, if_neg (by simp), if_neg (by simp), if_pos h0]
        clear h0
        go_wp2
        go_region
        all_goals
          go_wp2
          go_ret2
          exact ⟨by rw [HN.out]; rfl, HC2.out.drew⟩
    · have HA0 : Hid (a1 = 0) := H1.out (by omega)
      have HB0 : Hid (b1 = 0) := H2.out (by omega)
      have HD0 : Hid (d1 = 0) := H3.out (by omega)
      have HJ2 : Hid (R = if rb = false then ([], 141) else J) := by rw [Hid, HR.out, HA0.out, HB0.out, HD0.out]; rfl
      clear i0 i1 i2
      cases rb with
      | false =>
        have HN : Hid (R = ([], 141)) := HJ2.out
        go_wp2_with fail
        refine (HRR.out _).mono ?_
        rintro e w2 ⟨rfl, hc2⟩
        have HC2 := Lib.hid (HC.out.no hc2)
        clear hc2
        go_wp2
        go_ret2
        exact ⟨by rw [HN.out]; rfl, HC2.out⟩
      | true =>
        have HN : Hid (R = J) := HJ2.out
        go_wp2_with fail
        refine (HRR.out _).mono ?_
        rintro e w2 ⟨rfl, hc2⟩
        have HC2 := Lib.hid (HC.out.no hc2)
        clear hc2
        go_wp2_with fail
        refine (HJN.out _).mono ?_
        rintro e w3 ⟨rfl, hc3⟩
        have HC3 := Lib.hid (HC2.out.no hc3)
        clear hc3
        go_wp2
        go_ret2
        exact ⟨by rw [HN.out]; rfl, HC3.out⟩
end Go.Proofs.YtkjbbidnpnecjaaDoor
