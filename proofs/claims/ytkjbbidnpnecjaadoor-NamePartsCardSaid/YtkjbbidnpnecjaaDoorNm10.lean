/-
  Names: Split, Depth, Dir.
-/
import Derived.Test.YtkjbbidnpnecjaaDoorNm9
namespace Go.Proofs.YtkjbbidnpnecjaaDoor
open Go.RowKit
set_option linter.unusedVariables false
set_option linter.unusedSimpArgs false
set_option maxRecDepth 100000

theorem isF1 (p : List UInt8) : isF [p] = (pathF p).1 := by
  rw [isF, isF]
  by_cases h : (pathF p).1 = 0
  · simp [h]
  · simp [h]
/-- What Split answers. -/
def splitF (p : List UInt8) : List (List UInt8) := if (pathF p).1 = 0 then partsL p else []
def SplitR (w w' : World) (e : Ending) (l : List (List UInt8)) (er : Int) : Prop := ∃ A n c, e = .returned (.tuple #[.slice A n c, .int .i64 er]) ∧ l.length = n ∧ OwnS w' w.heap.size (.slice A n c) n l ∧ Chg No w w'
theorem OwnS.nil (w : World) (b : Nat) : OwnS w b (.slice none 0 0) 0 [] := World.ownsRow_nil _ _ _ _
theorem namesplit_calls (w : World) (p : List UInt8) (hp : p.length ≤ 9223372036854775807) : Calls Tryd.prog 32 #[.string (mkS p)] w fun e w' => SplitR w w' e (splitF p) (pathF p).1 := by
  have HIS : Hid (Calls Tryd.prog 44 #[.slice (some ⟨w.heap.size, 0, none⟩) 1 1] (w.alloc (.cells #[.string (mkS p)] 9)) fun e w' => e = .returned (.int .i64 (isF [p])) ∧ Chg No (w.alloc (.cells #[.string (mkS p)] 9)) w') := is_calls _ _ 1 1 [p] (sl1 w p) (by omega) (by simpa using hp)
  rw [isF1] at HIS
  have HC0 : Hid (Chg No w (w.alloc (.cells #[.string (mkS p)] 9))) := (Chg.refl No w).alloc _
  have HF : Hid (splitF p = if (pathF p).1 = 0 then partsL p else []) := rfl
  have HZ : Hid ((pathF p).1 = 0 → p.length ≤ 200) := path_len
  generalize splitF p = L at *
  generalize (pathF p).1 = z at *
  go_enter Tryd.func32, Tryd.ntmps32
  go_wp2_with fail
  refine HIS.out.mono ?_
  rintro e w1 ⟨rfl, hc1⟩
  have HC1 := Lib.hid (HC0.out.no hc1)
  clear hc1 HIS HC0
  by_cases h0 : z = 0
  · have hb : (z != 0) = false := by rw [h0]; rfl
    have HL : Hid (L = partsL p) := by rw [Hid, HF.out, if_pos h0]
    have hl := HZ.out h0
    have H0 := Lib.hid h0
    clear h0
    have HP := Lib.hid (parts_calls w1 (mkS p) (by rw [mkS_size]; omega))
    rw [mkS_list] at HP
    go_wp2_with fail
    refine HP.out.mono ?_
    rintro e w2 ⟨A, n, c, rfl, hl1, ho1, hc2⟩
    have HC2 := Lib.hid (HC1.out.no hc2)
    have HO := Lib.hid (OwnS.mono ho1 HC1.out.size)
    have HLN := Lib.hid hl1
    clear hc2 ho1 hl1
    go_wp2
    go_ret2
    exact ⟨A, n, c, by rw [H0.out]; rfl, by rw [HL.out]; exact HLN.out, by rw [HL.out]; exact HO.out, HC2.out⟩
  · have hb : (z != 0) = true := by simpa using h0
    have HL : Hid (L = []) := by rw [Hid, HF.out, if_neg h0]
    clear h0
    go_wp2
    go_ret2
    exact ⟨none, 0, 0, rfl, by rw [HL.out]; rfl, by rw [HL.out]; exact OwnS.nil _ _, HC1.out⟩
def depthF (p : List UInt8) : Int := if (pathF p).1 = 0 then ((partsL p).length : Int) else -1
theorem depth_calls (w : World) (p : List UInt8) (hp : p.length ≤ 9223372036854775807) : Calls Tryd.prog 33 #[.string (mkS p)] w fun e w' => e = .returned (.int .i64 (depthF p)) ∧ Chg No w w' := by
  have HS := Lib.hid (namesplit_calls w p hp)
  have HF : Hid (depthF p = if (pathF p).1 = 0 then ((partsL p).length : Int) else -1) := rfl
  have HG : Hid (splitF p = if (pathF p).1 = 0 then partsL p else []) := rfl
  generalize depthF p = D at *
  generalize splitF p = L at *
  generalize (pathF p).1 = z at *
  go_enter Tryd.func33, Tryd.ntmps33
  go_wp2_with fail
  refine HS.out.mono ?_
  rintro e w1 ⟨A, n, c, rfl, hl1, ho1, hc1⟩
  have HC1 := Lib.hid hc1
  have HLN := Lib.hid hl1
  clear hc1 hl1 ho1
  by_cases h0 : z = 0
  · have hb : (z != 0) = false := by rw [h0]; rfl
    have HD : Hid (D = (n : Int)) := by rw [Hid, HF.out, if_pos h0, ← HLN.out, HG.out, if_pos h0]
    clear h0
    go_wp2
    go_ret
    exact ⟨by rw [HD.out]; rfl, HC1.out⟩
  · have hb : (z != 0) = true := by simpa using h0
    have HD : Hid (D = -1) := by rw [Hid, HF.out, if_neg h0]
    clear h0
    go_wp2
    go_ret
    exact ⟨by rw [HD.out]; rfl, HC1.out⟩
def dirF (p : List UInt8) : List UInt8 × List UInt8 × Int :=
  if (pathF p).1 ≠ 0 then ([], [], (pathF p).1) else if partsL p = [] then ([], [], 141) else (joinL ((partsL p).take ((partsL p).length - 1)), (partsL p).getD ((partsL p).length - 1) [], 0)
set_option maxHeartbeats 3200000 in
theorem dir_calls (w : World) (p : List UInt8) (hp : p.length ≤ 9223372036854775807) : Calls Tryd.prog 30 #[.string (mkS p)] w fun e w' => e = .returned (.tuple #[.string (mkS (dirF p).1), .string (mkS (dirF p).2.1), .int .i64 (dirF p).2.2]) ∧ Chg No w w' := by
  have HS := Lib.hid (namesplit_calls w p hp)
  have HF : Hid (dirF p = if (pathF p).1 ≠ 0 then ([], [], (pathF p).1) else if partsL p = [] then ([], [], 141) else (joinL ((partsL p).take ((partsL p).length - 1)), (partsL p).getD ((partsL p).length - 1) [], 0)) := rfl
  have HG : Hid (splitF p = if (pathF p).1 = 0 then partsL p else []) := rfl
  have HFT : Hid ((pathF p).1 = 0 → Fit (partsL p)) := fit_parts
  generalize dirF p = D at *
  generalize splitF p = L at *
  generalize (pathF p).1 = z at *
  generalize partsL p = M at *
  go_enter Tryd.func30, Tryd.ntmps30
  go_wp2_with fail
  refine HS.out.mono ?_
  rintro e w1 ⟨A, n, c, rfl, hl1, ho1, hc1⟩
  have HC1 := Lib.hid hc1
  have HLN := Lib.hid hl1
  have HSL := Lib.hid (ho1.sl hl1)
  clear hc1 hl1 ho1
  by_cases h0 : z = 0
  · have hb : (z != 0) = false := by rw [h0]; rfl
    have HL : Hid (L = M) := by rw [Hid, HG.out, if_pos h0]
    have HD : Hid (D = if L = [] then ([], [], 141) else (joinL (L.take (n - 1)), L.getD (n - 1) [], 0)) := by rw [Hid, HF.out, if_neg (by simpa using h0), HL.out, ← HLN.out, HL.out]
    have HT : Hid (Fit L) := by rw [HL.out]; exact HFT.out h0
    have hn16 : n ≤ 16 := by have := HT.out.2.1; rw [HLN.out] at this; exact this
    clear h0
    by_cases hn0 : n = 0
    · have HE : Hid (L = []) := List.eq_nil_of_length_eq_zero (by rw [HLN.out]; exact hn0)
      have HD2 : Hid (D = ([], [], 141)) := by rw [Hid, HD.out, if_pos HE.out]
      have hnb : (n : Int) - 1 < 0 := by omega
      have hnb2 : (n : Int) < 1 := by omega
      clear hn0
      go_wp2
      exact bodyPost_ret (v := .tuple #[.string ⟨#[]⟩, .string ⟨#[]⟩, .int .i64 141]) (by simp [results, Tryd.results30, go_sem]) rfl ⟨by rw [HD2.out]; rfl, HC1.out⟩
    · obtain ⟨m, rfl⟩ : ∃ m, n = m + 1 := ⟨n - 1, by omega⟩
      have HD2 : Hid (D = (joinL (L.take m), L.getD m [], 0)) := by
        rw [Hid, HD.out, if_neg]
        · rfl
        · intro h; have := HLN.out; rw [h] at this; simp at this
      have hcc : m + 1 ≤ c := by
        obtain ⟨A', c', he, h2, h3, -⟩ := HSL.out
        simp only [Value.slice.injEq] at he
        have := HLN.out
        omega
      have hcm1 : (m : Int) ≤ (c : Int) := by omega
      have hnb : ¬ ((m : Int) < 0) := by omega
      have HTK := Lib.hid (HSL.out.take (k := m) (m := c) (by omega) (by omega) (Nat.le_refl _))
      have HJ : Hid (∀ W, Chg No w1 W → Calls Tryd.prog 43 #[.slice A m c, .string ⟨#[47]⟩] W fun e w' => e = .returned (.string (mkS (joinL (L.take m)))) ∧ Chg No W w') := fun W hW => by
        refine join_calls W A m c (L.take m) (HTK.out.no hW) (by omega) (join_small (firstBad_iff.2 fun x hx => HT.out.1 x (List.mem_of_mem_take hx)) ?_)
        rw [List.length_take]; omega
      obtain ⟨b, o, rfl, hcell⟩ := HSL.out.addr (by rw [HLN.out]; omega)
      have HLC : Hid (∀ W, Chg No w1 W → W.cell? ⟨b, o + m, none⟩ = some (.string (mkS (L.getD m [])))) := fun W hW => by
        obtain ⟨b', o', he, hcell⟩ := (HSL.out.no hW).addr (by rw [HLN.out]; omega)
        cases he
        have := hcell m (by rw [HLN.out]; omega)
        rw [this, strv_text, List.getD, List.getElem?_eq_getElem (by rw [HLN.out]; omega)]; rfl
      clear hcell
      have hl0 := HLC.out w1 (Chg.refl _ _)
      generalize joinL (L.take m) = j at *
      generalize L.getD m [] = ld at *
      go_wp2
      go_region_with (go_at_call 43; refine (HJ.out _ (by first | exact Chg.refl _ _ | exact (Chg.refl No w1).drew)).mono ?_; rintro e w2 ⟨rfl, hc2⟩; have hl2 := hc2.cell hl0 (fun x => x))
      all_goals
        go_wp2
        exact bodyPost_ret (v := .tuple #[.string (mkS j), .string (mkS ld), .int .i64 0]) (by simp [results, Tryd.results30, go_sem]) rfl ⟨by rw [HD2.out], HC1.out.no (by first | exact hc2 | exact ((Chg.refl No w1).drew).no hc2 | exact hc2.drew)⟩
  · have hb : (z != 0) = true := by simpa using h0
    have HD : Hid (D = ([], [], z)) := by rw [Hid, HF.out, if_pos h0]
    have hnn : n = 0 := by rw [← HLN.out, HG.out, if_neg h0]; rfl
    clear h0
    go_wp2
    exact bodyPost_ret (v := .tuple #[.string ⟨#[]⟩, .string ⟨#[]⟩, .int .i64 z]) (by simp [results, Tryd.results30, go_sem]) rfl ⟨by rw [HD.out]; rfl, HC1.out⟩
end Go.Proofs.YtkjbbidnpnecjaaDoor
