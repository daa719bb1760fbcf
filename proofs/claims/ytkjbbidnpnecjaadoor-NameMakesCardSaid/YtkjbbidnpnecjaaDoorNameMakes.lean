/-
  NameMakes: the walk: Make says what the document's Make says, and leaves its names alone. For every list of texts.
-/
import Derived.Test.YtkjbbidnpnecjaaDoorNm7
namespace Go.Proofs.YtkjbbidnpnecjaaDoor
open Go.RowKit
set_option linter.unusedVariables false
set_option linter.unusedSimpArgs false
set_option maxRecDepth 100000

set_option maxHeartbeats 3200000 in
theorem nameMakes_core (w : World) (A : Option Addr) (n c : Nat) (xs : List (List UInt8)) (h : Sl strv w (.slice A n c) xs) (hx : ∀ x ∈ xs, x.length ≤ 140737488351232) (hn : n ≤ 9223372036854775807) (hnc : n ≤ c) :
    Calls Tryd.prog 5 #[.slice A n c] w fun e w' => e = .returned (.bool true) ∧ Chg No w w' := by
  obtain ⟨i0, hi, hz0, hz1, hz2⟩ := info_parts infoStr1
  have hm : (min (n : Int) 40).toNat ≤ n := by omega
  have hm2 : (min (n : Int) 40) ≤ (n : Int) := by omega
  have hm3 : (min (n : Int) 40) ≤ (c : Int) := by omega
  have hm0 : 0 ≤ (min (n : Int) 40) := by omega
  obtain ⟨m, hmm⟩ : ∃ m : Nat, (min (n : Int) 40) = (m : Int) := ⟨(min (n : Int) 40).toNat, by omega⟩
  have hm40 : m ≤ 40 := by omega
  have HS := Lib.hid (h.take (k := m) (m := c) (by omega) (by omega) (Nat.le_refl _))
  have HX : Hid (∀ x ∈ xs.take m, x.length ≤ 9223372036854775807) := fun x hx1 => by have := hx x (List.mem_of_mem_take hx1); omega
  generalize xs.take m = l at *
  have HL := Lib.hid HS.out.len
  obtain ⟨⟨r1, r2⟩, hr⟩ : ∃ q, makeF l = q := ⟨_, rfl⟩
  have HM1 : Hid (∀ W A c, Sl strv W (.slice A m c) l → Calls Tryd.prog 19 #[.slice A m c] W fun e w' => e = .returned (.tuple #[.string (mkS r1), .int .i64 r2]) ∧ Chg No W w') := fun W A c h => by
    have := make_calls W A m c l h (by omega) HX.out
    rwa [hr] at this
  have HM2 : Hid (∀ W A c, Sl strv W (.slice A m c) l → Calls Tryd.prog 20 #[.slice A m c] W fun e w' => e = .returned (.tuple #[.string (mkS r1), .int .i64 r2]) ∧ Chg No W w') := fun W A c h => by
    have := refmake_calls W A m c l h (by omega) HX.out
    rwa [hr] at this
  clear hr h hx
  generalize mkS r1 = sr at *
  go_enter Tryd.func5, Tryd.ntmps5
  go_wp2_with fail
  refine (wakes4_calls _).mono ?_
  rintro e w1 ⟨rfl, hc1⟩
  have HC1 := Lib.hid hc1
  have HS1 := Lib.hid (HS.out.no hc1)
  clear hc1
  go_wp2_with (at_make; refine wpList_make_own _ rfl _ _ 30 rfl w.heap.size 9 i0 (.string ⟨#[]⟩) 1 Tryd.underlying30 hi hz0 hz1 .i64 .i64 _ (m + 5) rfl rfl (by omega) (by rw [hz2]; omega) (by unfold maxLen; omega) HC1.out.size ?_; intro w2 hown2 hg2; refine Hid.out ?_)
  refine Lib.hid ?_
  have HO2 : Hid (w2.ownsRow w.heap.size 9 1 (.slice (some ⟨w1.heap.size, 0, none⟩) 0 (m + 5)) 0 []) := hown2
  have HC2 : Hid (Chg No w w2) := HC1.out.grown hg2 (fun k hk => by cases hk)
  have HS2 := Lib.hid (HS1.out.no (Chg.ofGrown hg2 (fun k hk => by cases hk)))
  have src3 := Lib.hid (Src.ofStrs HS2.out)
  clear hown2 hg2 hi hz0 hz1 hz2
  go_wp2_with (at_builtin; (refine wpList_app2 rfl (.tmp 18) (.tmp 19) 30 30 rfl w.heap.size 9 (.string ⟨#[]⟩) 1 16 infoStr1 Tryd.underlying30 rfl (by decide) (.slice (some ⟨w1.heap.size, 0, none⟩) 0 (m + 5)) (.slice A m c) 0 m [] (l.map strv) rfl rfl ?own ?src ?b1 ?b2 ?b3 ?_; (case own => exact HO2.out); (case src => exact src3.out); (case b1 => omega); (case b2 => unfold maxLen; omega); (case b3 => exact HC2.out.size); intro v3 w3 hown3 hg3 hfrom3; refine Hid.out ?_))
  refine Lib.hid ?_
  obtain ⟨A3, c3, rfl⟩ := ownsRow_form hown3
  have hm00 : 0 + m = m := by omega
  rw [hm00] at hown3 ⊢
  have HO3 : Hid (OwnS w3 w.heap.size (.slice A3 m c3) m l) := hown3
  have HC3 : Hid (Chg No w w3) := HC2.out.grown hg3 (fun q hq => .inl (World.ownsRow.lt HO2.out q hq).1)
  have HS3 : Hid (Sl strv w3 (.slice A m c) l) := HS.out.no HC3.out
  clear hown3 hg3 hfrom3 src3
  have src4 : Hid (Src Tryd.prog 1 30 (.slice (some ⟨w3.heap.size, 0, none⟩) 2 2) 2 [.string ⟨#[126]⟩, .string ⟨#[126]⟩] (w3.alloc (.cells #[.string ⟨#[126]⟩, .string ⟨#[126]⟩] 9))) := Src.ofStrs (sl2 w3 [126] [126])
  have HO4 : Hid (OwnS (w3.alloc (.cells #[.string ⟨#[126]⟩, .string ⟨#[126]⟩] 9)) w.heap.size (.slice A3 m c3) m l) := World.ownsRow.alloc HO3.out _
  have HC4 : Hid (Chg No w (w3.alloc (.cells #[.string ⟨#[126]⟩, .string ⟨#[126]⟩] 9))) := HC3.out.alloc _
  go_wp2_with (at_builtin; (refine wpList_app2 rfl (.tmp 21) (.tmp 22) 30 30 rfl w.heap.size 9 (.string ⟨#[]⟩) 1 16 infoStr1 Tryd.underlying30 rfl (by decide) (.slice A3 m c3) (.slice (some ⟨w3.heap.size, 0, none⟩) 2 2) m 2 (l.map strv) [.string ⟨#[126]⟩, .string ⟨#[126]⟩] rfl rfl ?own ?src ?b1 ?b2 ?b3 ?_; (case own => exact HO4.out); (case src => exact src4.out); (case b1 => omega); (case b2 => unfold maxLen; omega); (case b3 => exact HC4.out.size); intro v5 w5 hown5 hg5 hfrom5; refine Hid.out ?_))
  refine Lib.hid ?_
  obtain ⟨A5, c5, rfl⟩ := ownsRow_form hown5
  have HO5 : Hid (OwnS w5 w.heap.size (.slice A5 (m + 2) c5) (m + 2) (l ++ [[126], [126]])) := by rw [Hid, OwnS, List.map_append]; exact hown5
  have HC5 : Hid (Chg No w w5) := HC4.out.grown hg5 (fun q hq => .inl (World.ownsRow.lt HO4.out q hq).1)
  have HF5 : Hid (Sl strv w5 (.slice A5 (m + 2) c5) (l ++ [[126], [126]])) := HO5.out.sl (by rw [List.length_append, HL.out]; rfl)
  have hc5 : m + 2 ≤ c5 := by
    obtain ⟨A', c', he, h2, h3, -⟩ := HF5.out
    simp only [Value.slice.injEq] at he
    omega
  have hmx : m ≤ c5 := by omega
  have hmx2 : (m : Int) ≤ (c5 : Int) := by omega
  have HT5 : Hid (Sl strv w5 (.slice A5 m c5) l) := by
    have := HF5.out.take (k := m) (m := c5) (by omega) (by omega) (Nat.le_refl _)
    rwa [List.take_left' HL.out] at this
  clear hown5 hg5 hfrom5 src4 HO4 HC4 HO3 HO2
  obtain ⟨b5, o5, rfl, hcell5⟩ := HF5.out.addr (by rw [List.length_append, HL.out]; simp)
  have hcm : ∀ W, Chg No w5 W → W.cell? ⟨b5, o5 + m, none⟩ = some (.string ⟨#[126]⟩) := fun W hW => by
    obtain ⟨b5', o5', he, hcell⟩ := (HF5.out.no hW).addr (by rw [List.length_append, HL.out]; simp)
    cases he
    have := hcell m (by rw [List.length_append, HL.out]; simp)
    rw [this, List.getElem_append_right (by rw [HL.out]; exact Nat.le_refl _)]
    simp [HL.out]
    rfl
  have HCM := Lib.hid hcm
  clear hcell5 hcm
  go_wp2_with fail
  refine (HM1.out _ _ _ HT5.out).mono ?_
  rintro e w6 ⟨rfl, hc6⟩
  have HC6 := Lib.hid hc6
  clear hc6
  go_wp2_with fail
  refine (HM2.out _ _ _ (HS.out.no (HC5.out.no HC6.out))).mono ?_
  rintro e w7 ⟨rfl, hc7⟩
  have HC7 := Lib.hid (HC6.out.no hc7)
  clear hc7
  have HTX := Lib.hid (texts_calls w7 (some ⟨b5, o5, none⟩) m c5 l A m c l (HT5.out.no HC7.out) (HS.out.no (HC5.out.no HC7.out)) (by omega) (by omega))
  have hdt : decide (l = l) = true := decide_eq_true rfl
  rw [hdt] at HTX
  go_wp2_with fail
  refine HTX.out.mono ?_
  rintro e w8 ⟨rfl, hc8⟩
  have HC8 := Lib.hid (HC7.out.no hc8)
  have hcc := HCM.out w8 HC8.out
  clear hc8
  go_wp2_with fail
  refine (wakes4_calls _).mono ?_
  rintro e w9 ⟨rfl, hc9⟩
  go_wp2
  go_ret
  exact ⟨rfl, (HC5.out.no HC8.out).no hc9⟩
theorem nameMakes_walk (w : World) (A : Option Addr) (n c : Nat) (xs : List (List UInt8)) (h : Sl strv w (.slice A n c) xs) (hx : ∀ x ∈ xs, x.length ≤ 140737488351232) :
    Calls Tryd.prog 5 #[.slice A n c] w fun e w' => e = .returned (.bool true) ∧ Below w.heap.size w w' := by
  have hl := h.len
  obtain ⟨A', c', he, h2, h3, -⟩ := id h
  simp only [Value.slice.injEq] at he
  unfold maxLen at h3
  exact (nameMakes_core w A n c xs h hx (by omega) (by omega)).mono fun _ _ h => ⟨h.1, h.2.below⟩
end Go.Proofs.YtkjbbidnpnecjaaDoor
