/-
  NameThere: the walk.
-/
import Derived.Test.YtkjbbidnpnecjaaDoorNm14
import Derived.Deep.DeepCutAuto
namespace Go.Proofs.YtkjbbidnpnecjaaDoor
open Go.RowKit
set_option linter.unusedVariables false
set_option linter.unusedSimpArgs false
set_option maxRecDepth 100000

set_option maxHeartbeats 64000000 in
theorem nameThere_core (w : World) (s1 s2 : ByteArray) (hs1 : s1.size ≤ 140737488351232) (hs2 : s2.size ≤ 140737488351232) (A : Option Addr) (n c : Nat) (xs : List (List UInt8)) (h : Sl strv w (.slice A n c) xs) (hx : ∀ x ∈ xs, x.length ≤ 140737488351232) (hn : n ≤ 9223372036854775807) (hnc : n ≤ c) :
    Calls Tryd.prog 9 #[.string s1, .string s2, .slice A n c] w fun e w' => e = .returned (.bool true) ∧ Chg No w w' := by
  have hm : (min (n : Int) 40).toNat ≤ n := by omega
  have hm2 : (min (n : Int) 40) ≤ (n : Int) := by omega
  have hm3 : (min (n : Int) 40) ≤ (c : Int) := by omega
  have hm0 : 0 ≤ (min (n : Int) 40) := by omega
  obtain ⟨m, hmm⟩ : ∃ m : Nat, (min (n : Int) 40) = (m : Int) := ⟨(min (n : Int) 40).toNat, by omega⟩
  have hm40 : m ≤ 40 := by omega
  have HS := Lib.hid (h.take (k := m) (m := c) (by omega) (by omega) (Nat.le_refl _))
  have HX : Hid (∀ x ∈ xs.take m, x.length ≤ 9223372036854775807) := fun x hx1 => by have := hx x (List.mem_of_mem_take hx1); omega
  generalize xs.take m = l at *
  have HL := Lib.hid HS.out.len
  clear h hx
  have HPp := Lib.hid fun W => cut_calls W s1 (by omega)
  have hlp : Hid ((cutL s1.data.toList).length ≤ 9223372036854775807) := by have := cutL_len s1.data.toList; rw [Hid]; omega
  have HPq := Lib.hid fun W => cut_calls W s2 (by omega)
  have hlq : Hid ((cutL s2.data.toList).length ≤ 9223372036854775807) := by have := cutL_len s2.data.toList; rw [Hid]; omega
  generalize cutL s1.data.toList = p at *
  generalize cutL s2.data.toList = q at *
  have HSP := Lib.hid fun W => namesplit_calls W p hlp.out
  have HDI := Lib.hid fun W => dir_calls W p hlp.out
  have HMK : Hid ((pathF p).1 = 0 → ∀ W A n c, Sl strv W (.slice A n c) (splitF p) → Calls Tryd.prog 19 #[.slice A n c] W fun e w' => e = .returned (.tuple #[.string (mkS p), .int .i64 0]) ∧ Chg No W w') := fun h W A n c hs => by
    have hf := fit_parts h
    have he : splitF p = partsL p := if_pos h
    rw [he] at hs
    have hn := hs.len
    have hb := hf.2.1
    have := make_calls W A n c (partsL p) hs (by omega) (fun x hx => by have := (spot_len (hf.1 x hx)).2; omega)
    rwa [make_fit hf, join_parts] at this
  have HDJ : Hid ((pathF p).1 = 0 → splitF p ≠ [] → (dirF p).2.2 = 0 ∧ ∀ W, Calls Tryd.prog 28 #[.string (mkS (dirF p).1), .string (mkS (dirF p).2.1)] W fun e w' => e = .returned (.tuple #[.string (mkS p), .int .i64 0]) ∧ Chg No W w') := fun h hn => by
    have hf := fit_parts h
    have he : splitF p = partsL p := if_pos h
    rw [he] at hn
    have hd : dirF p = (joinL ((partsL p).take ((partsL p).length - 1)), (partsL p).getD ((partsL p).length - 1) [], 0) := by rw [dirF, if_neg (by simpa using h), if_neg hn]
    rw [hd]
    refine ⟨rfl, fun W => ?_⟩
    have hp := join_parts p
    generalize partsL p = L at *
    have hl1 : 1 ≤ L.length := List.length_pos_iff.2 hn
    obtain ⟨k, hk⟩ : ∃ k, L.length = k + 1 := ⟨L.length - 1, by omega⟩
    have e1 : L.take k ++ [L.getD k []] = L := by
      have h1 := List.take_succ_eq_append_getElem (l := L) (i := k) (by omega)
      rw [List.take_of_length_le (by omega)] at h1
      rw [h1]
      congr 1
      · rw [← h1]
      · rw [← h1, List.getD, List.getElem?_eq_getElem (by omega)]; rfl
    simp only [hk, Nat.add_sub_cancel]
    generalize hld : L.getD k [] = ld at *
    have hf2 : Fit (L.take k ++ [ld]) := by rw [e1]; exact hf
    have hj1 : joinL [ld] = ld := Lib.join_one ld [47]
    have hj := join_names hf2
    rw [e1, hp, hj1] at hj
    have l1 := hf2.app.1.2.2
    have l2 := hf2.app.2.2.2
    rw [hj1] at l2
    have := namejoin_calls W (joinL (L.take k)) ld (by omega) (by omega)
    rwa [hj] at this
  obtain ⟨⟨mr, me⟩, hmf⟩ : ∃ q, makeF l = q := ⟨_, rfl⟩
  have HM1 : Hid (∀ W A c, Sl strv W (.slice A m c) l → Calls Tryd.prog 19 #[.slice A m c] W fun e w' => e = .returned (.tuple #[.string (mkS mr), .int .i64 me]) ∧ Chg No W w') := fun W A c h => by
    have := make_calls W A m c l h (by omega) HX.out
    rwa [hmf] at this
  have HM2 : Hid (me = 0 → ∀ W, Calls Tryd.prog 32 #[.string (mkS mr)] W fun e w' => SplitR W w' e l 0) := fun h W => by
    have hf : Fit l := make_ok.1 (by rw [hmf]; exact h)
    have e := make_fit hf
    rw [hmf] at e
    have e1 : mr = joinL l := (Prod.mk.inj e).1
    have hp := hf.path
    have hl := hf.2.2
    have := namesplit_calls W mr (by rw [e1]; omega)
    rw [splitF, e1, if_pos hp, hp, hf.parts] at this
    rw [e1]; exact this
  clear hmf
  have HJ1 := Lib.hid fun W => namejoin_calls W p q hlp.out hlq.out
  have HJ2 : Hid ((joinF p q).2 = 0 → (∀ W, Calls Tryd.prog 25 #[.string (mkS (joinF p q).1), .string (mkS p)] W fun e w' => e = .returned (.tuple #[.string (mkS q), .bool true]) ∧ Chg No W w') ∧ (∀ W, Calls Tryd.prog 26 #[.string (mkS (joinF p q).1), .string (mkS p)] W fun e w' => e = .returned (.bool true) ∧ Chg No W w') ∧ (∃ d1 d2 : Nat, d1 ≤ 16 ∧ d2 ≤ 16 ∧ (∀ W, Calls Tryd.prog 33 #[.string (mkS (joinF p q).1)] W fun e w' => e = .returned (.int .i64 ((d1 : Int) + (d2 : Int))) ∧ Chg No W w') ∧ (∀ W, Calls Tryd.prog 33 #[.string (mkS p)] W fun e w' => e = .returned (.int .i64 (d1 : Int)) ∧ Chg No W w') ∧ (∀ W, Calls Tryd.prog 33 #[.string (mkS q)] W fun e w' => e = .returned (.int .i64 (d2 : Int)) ∧ Chg No W w'))) := fun h => by
    obtain ⟨h1, h2, h3, h4⟩ := join_open h
    rw [h4]
    have hr := rest_names h3
    have hi := in_names h3
    have hl := h3.2.2
    have hd : depthF (joinL (partsL p ++ partsL q)) = ((partsL p).length : Int) + ((partsL q).length : Int) := by rw [depthF, if_pos h3.path, h3.parts, List.length_append]; simp
    have hd1 : depthF p = ((partsL p).length : Int) := by rw [depthF, if_pos ((isP_iff _).1 h1)]
    have hd2 : depthF q = ((partsL q).length : Int) := by rw [depthF, if_pos ((isP_iff _).1 h2)]
    rw [join_parts p] at hr hi
    rw [join_parts q] at hr
    refine ⟨fun W => ?_, fun W => ?_, (partsL p).length, (partsL q).length, h3.app.1.2.1, h3.app.2.2.1, fun W => ?_, fun W => ?_, fun W => ?_⟩
    · have := namerest_calls W (joinL (partsL p ++ partsL q)) p (by omega) hlp.out
      rwa [hr] at this
    · have : Calls Tryd.prog 26 #[.string (mkS (joinL (partsL p ++ partsL q))), .string (mkS p)] W fun e w' => e = .returned (.bool (inB (joinL (partsL p ++ partsL q)) p)) ∧ Chg No W w' := in_calls W (joinL (partsL p ++ partsL q)) p (by omega) hlp.out
      rwa [hi] at this
    · have := depth_calls W (joinL (partsL p ++ partsL q)) (by omega)
      rwa [hd] at this
    · have := depth_calls W p hlp.out
      rwa [hd1] at this
    · have := depth_calls W q hlq.out
      rwa [hd2] at this
  obtain ⟨⟨js, je⟩, hj⟩ : ∃ z, joinF p q = z := ⟨_, rfl⟩
  rw [hj] at HJ1 HJ2
  obtain ⟨⟨d1, d2, d3⟩, hdd⟩ : ∃ z, dirF p = z := ⟨_, rfl⟩
  rw [hdd] at HDI HDJ
  simp only at HJ1 HJ2 HDI HDJ
  clear hj hdd
  generalize (pathF p).1 = z at *
  generalize splitF p = L at *
  generalize mkS js = xj at *
  generalize mkS d1 = xd1 at *
  generalize mkS d2 = xd2 at *
  generalize mkS mr = xm at *
  generalize mkS p = xp at *
  generalize mkS q = xq at *
  go_enter Tryd.func9, Tryd.ntmps9
  go_wp2_with fail
  refine (wakes4_calls _).mono ?_
  rintro e w1 ⟨rfl, hc1⟩
  have HC1 := Lib.hid hc1
  clear hc1
  go_wp2_with fail
  refine (HPp.out _).mono ?_
  rintro e w2 ⟨rfl, rfl⟩
  go_wp2_with fail
  refine (HPq.out _).mono ?_
  rintro e w3 ⟨rfl, rfl⟩
  go_wp2_with fail
  refine (HSP.out _).mono ?_
  rintro e w4 ⟨A1, n1, c1, rfl, hl1, ho1, hc4⟩
  have HC4 := Lib.hid (HC1.out.no hc4)
  have HS4 := Lib.hid (ho1.sl hl1)
  have HL4 := Lib.hid hl1
  clear hc4 hl1 ho1
  go_upto_if 41 with fail
  go_cut [] (fun wx => Hid (Chg No w wx))
  case first =>
    by_cases h0 : z = 0
    · subst h0
      have HMKx := Lib.hid (HMK.out rfl)
      have HDJ0 := Lib.hid (HDJ.out rfl)
      go_wp2_with fail
      refine (HMKx.out _ _ _ _ HS4.out).mono ?_
      rintro e w5 ⟨rfl, hc5⟩
      have HC5 := Lib.hid (HC4.out.no hc5)
      clear hc5
      by_cases hn0 : n1 = 0
      · have hnb : ¬ (0 : Int) < (n1 : Int) := by omega
        clear hn0
        go_wp2_with fail
        go_meet
        exact HC5.out
      · have hnb : (0 : Int) < (n1 : Int) := by omega
        obtain ⟨hd0, hdj⟩ := HDJ0.out (by rintro rfl; exact hn0 HL4.out.symm)
        subst hd0
        have HDJx := Lib.hid hdj
        clear hdj hn0
        go_wp2_with fail
        refine (HDI.out _).mono ?_
        rintro e w6 ⟨rfl, hc6⟩
        have HC6 := Lib.hid (HC5.out.no hc6)
        clear hc6
        go_wp2_with fail
        refine (HDJx.out _).mono ?_
        rintro e w7 ⟨rfl, hc7⟩
        have HC7 := Lib.hid (HC6.out.no hc7)
        clear hc7
        go_wp2_with fail
        go_meet
        exact HC7.out
    · have hb : (z == 0) = false := by simpa using h0
      clear h0
      go_wp2_with fail
      go_meet
      exact HC4.out
  case rest =>
  have HW4 := hcut
  clear hcut
  go_wp2_with fail
  refine (HM1.out _ _ _ (HS.out.no HW4.out)).mono ?_
  rintro e w8 ⟨rfl, hc8⟩
  have HC8 := Lib.hid (HW4.out.no hc8)
  clear hc8
  go_upto_if 86 with fail
  go_cut [] (fun wx => Hid (Chg No w wx))
  case first =>
    by_cases h0 : me = 0
    · subst h0
      have HM2x := Lib.hid (HM2.out rfl)
      go_wp2_with fail
      refine (HM2x.out _).mono ?_
      rintro e w9 ⟨A2, n2, c2, rfl, hl2, ho2, hc9⟩
      have HC9 := Lib.hid (HC8.out.no hc9)
      have hn2 : n2 = m := by rw [← hl2]; exact HL.out
      subst hn2
      have HTX := Lib.hid (texts_calls w9 A2 n2 c2 l A n2 c l (ho2.sl hl2) (HS.out.no HC9.out) (by omega) (by omega))
      have hdt : decide (l = l) = true := decide_eq_true rfl
      rw [hdt] at HTX
      clear hl2 ho2 hc9
      go_wp2_with fail
      refine HTX.out.mono ?_
      rintro e w10 ⟨rfl, hc10⟩
      have HC10 := Lib.hid (HC9.out.no hc10)
      clear hc10
      go_wp2_with fail
      go_meet
      exact HC10.out
    · have hb : (me == 0) = false := by simpa using h0
      clear h0
      go_wp2_with fail
      go_meet
      exact HC8.out
  case rest =>
  have HW8 := hcut
  clear hcut
  go_wp2_with fail
  refine (HJ1.out _).mono ?_
  rintro e w11 ⟨rfl, hc11⟩
  have HC11 := Lib.hid (HW8.out.no hc11)
  clear hc11
  by_cases h0 : je = 0
  · subst h0
    obtain ⟨hr, hi, e1, e2, he1, he2, g0, g1, g2⟩ := HJ2.out rfl
    have HRx := Lib.hid hr
    have HIx := Lib.hid hi
    have HG0 := Lib.hid g0
    have HG1 := Lib.hid g1
    have HG2 := Lib.hid g2
    clear hr hi g0 g1 g2
    go_wp2_with fail
    refine (HRx.out _).mono ?_
    rintro e w12 ⟨rfl, hc12⟩
    have HC12 := Lib.hid (HC11.out.no hc12)
    clear hc12
    go_wp2_with fail
    refine (HIx.out _).mono ?_
    rintro e w13 ⟨rfl, hc13⟩
    have HC13 := Lib.hid (HC12.out.no hc13)
    clear hc13
    go_wp2_with fail
    refine (HG0.out _).mono ?_
    rintro e w14 ⟨rfl, hc14⟩
    have HC14 := Lib.hid (HC13.out.no hc14)
    clear hc14
    go_wp2_with fail
    refine (HG1.out _).mono ?_
    rintro e w15 ⟨rfl, hc15⟩
    have HC15 := Lib.hid (HC14.out.no hc15)
    clear hc15
    go_wp2_with fail
    refine (HG2.out _).mono ?_
    rintro e w16 ⟨rfl, hc16⟩
    have HC16 := Lib.hid (HC15.out.no hc16)
    clear hc16
    go_wp2_with fail
    refine (wakes4_calls _).mono ?_
    rintro e w17 ⟨rfl, hc17⟩
    have HC17 := Lib.hid (HC16.out.no hc17)
    clear hc17
    go_wp2
    go_ret
    exact ⟨rfl, HC17.out⟩
  · have hb : (je == 0) = false := by simpa using h0
    clear h0
    go_wp2_with fail
    refine (wakes4_calls _).mono ?_
    rintro e w18 ⟨rfl, hc18⟩
    have HC18 := Lib.hid (HC11.out.no hc18)
    clear hc18
    go_wp2
    go_ret
    exact ⟨rfl, HC18.out⟩
theorem nameThere_walk (w : World) (s1 : ByteArray) (hs1 : s1.size ≤ 140737488351232) (s2 : ByteArray) (hs2 : s2.size ≤ 140737488351232) (A : Option Addr) (n c : Nat) (xs : List (List UInt8)) (h : Sl strv w (.slice A n c) xs) (hx : ∀ x ∈ xs, x.length ≤ 140737488351232) :
    Calls Tryd.prog 9 #[.string s1, .string s2, .slice A n c] w fun e w' => e = .returned (.bool true) ∧ Below w.heap.size w w' := by
  have hl := h.len
  obtain ⟨A', c', he, h2, h3, -⟩ := id h
  simp only [Value.slice.injEq] at he
  unfold maxLen at h3
  exact (nameThere_core w s1 s2 hs1 hs2 A n c xs h hx (by omega) (by omega)).mono fun _ _ h => ⟨h.1, h.2.below⟩
end Go.Proofs.YtkjbbidnpnecjaaDoor
