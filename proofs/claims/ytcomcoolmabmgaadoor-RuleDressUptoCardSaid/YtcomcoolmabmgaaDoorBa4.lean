/-
  Nm2, Nm3, Nm4, Nm5, Nm6, Nm8, Q1, Q2, Num, Q3, Q4, Q5, Q6, Q7: in one text.
-/
import Derived.Test.YtcomcoolmabmgaaDoorBa3
import Derived.WalkMore
import Derived.BigQuiet
import Derived.Deep.DeepCutAuto
import Derived.Shelf.Spec.SlicesGrow
import Derived.Lib.Strings
import Derived.Lib.Slices
import Derived.Lib.Walk
import Derived.Lib.Bytealg
import Derived.Laws.RangeAny
import Derived.Laws.BitsLemmas
import Derived.Laws.Bits64
import Derived.Laws.Wrap64
import Derived.Deep.RegionHeld3
namespace Go.Proofs.YtcomcoolmabmgaaDoor
set_option linter.unnecessarySimpa false
open Go.RowKit
set_option linter.unusedVariables false
set_option linter.unusedSimpArgs false
set_option maxRecDepth 100000

def walkP : Nat → Int → List (List UInt8) → Int × Int
  | _, _, [] => (0, 0)
  | i, a, n :: r => if i = 16 then (3, a) else if (spotF n).1 ≠ 0 then ((spotF n).1, a + (spotF n).2) else walkP (i + 1) (a + ((n.length : Int) + 1)) r
def pathF (p : List UInt8) : Int × Int := if 200 < p.length then (3, 200) else walkP 0 0 (partsL p)
theorem spl_short : ∀ (s acc : List UInt8), ∀ x ∈ spl acc s, x.length ≤ acc.length + s.length := by
  intro s
  induction s with
  | nil => intro acc x hx; simp [spl] at hx; subst hx; simp
  | cons b r ih =>
    intro acc x hx
    rw [spl] at hx
    split at hx
    · rcases List.mem_cons.1 hx with rfl | hx
      · omega
      · have := ih [] x hx; simp only [List.length_nil, List.length_cons] at *; omega
    · have := ih (acc ++ [b]) x hx; simp only [List.length_append, List.length_cons, List.length_nil] at *; omega
theorem parts_short {p x : List UInt8} (h : x ∈ partsL p) : x.length ≤ p.length := by
  unfold partsL at h
  split at h
  · cases h
  · have := spl_short p [] x h; simpa using this
theorem wrong_at : ∀ (n : Nat) (l : List UInt8) (k j : Nat), l.length ≤ n → wrongAt k (pcs l) = some j → k ≤ j ∧ j < k + l.length := by
  intro n
  induction n with
  | zero =>
    intro l k j hl h
    have : l = [] := List.eq_nil_of_length_eq_zero (by omega)
    subst this
    rw [show pcs ([] : List UInt8) = [] from by rw [pcs.eq_def]; rfl] at h
    cases h
  | succ n ih =>
    intro l k j hl h
    by_cases h0 : l = []
    · subst h0
      rw [show pcs ([] : List UInt8) = [] from by rw [pcs.eq_def]; rfl] at h
      cases h
    · rw [wrong_cons k l h0] at h
      have hp : 0 < l.length := List.length_pos_iff.2 h0
      obtain ⟨q1, q2, q3⟩ := decL_facts _ h0
      split at h
      · cases h; omega
      · have := ih (l.drop (decL l).2) (k + (decL l).2) j (by rw [List.length_drop]; omega) h
        rw [List.length_drop] at this
        omega
theorem spot_at (l : List UInt8) : 0 ≤ (spotF l).2 ∧ (spotF l).2 ≤ l.length ∧ 0 ≤ (spotF l).1 ∧ (spotF l).1 ≤ 140 := by
  unfold spotF
  split
  · exact ⟨by decide, by simp, by decide, by decide⟩
  · split
    · refine ⟨by decide, ?_, by decide, by decide⟩; show (32 : Int) ≤ _; omega
    · split
      · exact ⟨by decide, by simp, by decide, by decide⟩
      · rename_i k hk
        have := wrong_at l.length l 0 k (Nat.le_refl _) hk
        refine ⟨by simp, ?_, by show (0:Int) ≤ 140; decide, by show (140:Int) ≤ 140; decide⟩
        show (k : Int) ≤ _
        omega
theorem heap2 {W : World} {g : Nat} {a b : Value} {t : TypeId} {fz : Nat × Nat} (h : W.heap[g]? = some (.cells #[a, b] t fz)) : W.cell? ⟨g, 0, none⟩ = some a ∧ W.cell? ⟨g, 1, none⟩ = some b := ⟨cellAt h 0 _ rfl, cellAt h 1 _ rfl⟩
theorem strv_text (s : List UInt8) : strv s = .string (mkS s) := rfl
set_option maxHeartbeats 6400000 in
theorem path_calls (w : World) (s : ByteArray) (hs : s.size ≤ 9223372036854775807) : Calls Tryd.prog 52 #[.string s] w fun e w' => e = .returned (spotV (pathF s.data.toList)) ∧ Chg No w w' := by
  have HS := Lib.hid (size_list s)
  have HR0 := Lib.hid (heap_alloc_new w (.cells #[.int .i64 0, .int .i64 0] 26))
  by_cases h200 : 200 < s.size
  · have HF : Hid (pathF s.data.toList = (3, 200)) := by rw [Hid, pathF, if_pos (by rw [HS.out]; exact h200)]
    have hb : (200 : Int) < (s.size : Int) := by omega
    go_enter Tryd.func52, Tryd.ntmps52
    go_wp2
    go_step3
    go_wp2
    try rw [Exit.noGoto_ret]
    exact bodyPost_ret (v := spotV (3, 200)) (by simp [results, Tryd.results52, go_sem, spotV]) rfl ⟨by rw [HF.out], (Chg.refl No w).alloc _⟩
  · have HF : Hid (pathF s.data.toList = walkP 0 0 (partsL s.data.toList)) := by rw [Hid, pathF, if_neg (by rw [HS.out]; exact h200)]
    have hb : ¬ (200 : Int) < (s.size : Int) := by omega
    have HXL : Hid (∀ x ∈ partsL s.data.toList, x.length ≤ 200) := fun x hx => by have := parts_short hx; rw [HS.out] at this; omega
    have hpl : (partsL s.data.toList).length ≤ 201 := by have := parts_len s.data.toList; rw [HS.out] at this; omega
    have HPC : Hid (∀ W, Calls Tryd.prog 67 #[.string s] W fun e w' => PartsR W w' e (partsL s.data.toList)) := fun W => parts_calls W s (by omega)
    generalize pathF s.data.toList = R at *
    generalize partsL s.data.toList = l at *
    have HC0 : Hid (Chg No w (w.alloc (.cells #[.int .i64 0, .int .i64 0] 26))) := (Chg.refl No w).alloc _
    go_enter Tryd.func52, Tryd.ntmps52
    go_wp2
    go_step3
    go_wp2
    go_step3
    go_wp2_with fail
    refine (HPC.out _).mono ?_
    rintro e w1 ⟨A, n, c, rfl, hl, ho, hc1⟩
    have HR1 := Lib.hid (hc1.heap HR0.out (fun x => x))
    have HC1 := Lib.hid (HC0.out.no hc1)
    have HSL := Lib.hid (ho.sl hl)
    have HLN := Lib.hid hl
    have HG : Hid (w.heap.size ≤ w.heap.size) := Nat.le_refl _
    rw [hl] at hpl
    clear hc1 ho hl HC0 HR0
    generalize hg : w.heap.size = g at *
    have hgw : w.heap.size ≤ g := by omega
    go_wp2
    go_loopw [3, 14] (fun a i wr => ∃ (k : Nat) (z : Int), k ≤ n ∧ k ≤ 16 ∧ i = .int .i64 (k : Int) ∧ a = .int .i64 z ∧ 0 ≤ z ∧ z ≤ 201 * k ∧ Hid (R = walkP k z (l.drop k)) ∧ Hid (wr.heap[g]? = some (.cells #[.int .i64 0, .int .i64 0] 26)) ∧ Hid (Sl strv wr (.slice A n c) l) ∧ Hid (Chg No w wr)) (fun _ i _ => n - (intOf i).toNat)
    case atStart => exact ⟨0, 0, Nat.zero_le _, by omega, rfl, rfl, by omega, by omega, HF.out, HR1.out, HSL.out, HC1.out⟩
    case round =>
      obtain ⟨k, z, hk, hk16, rfl, rfl, hz0, hz1, HI, HR, HS2, HC⟩ := hrel
      have y0 := (heap2 HR.out).1
      have y1 := (heap2 HR.out).2
      have yf0 := frzAt HR.out 0
      have yf1 := frzAt HR.out 1
      clear HR1 HC1 HSL
      by_cases hkn : k < n
      · have hki : (k : Int) < (n : Int) := by omega
        obtain ⟨b0, o0, rfl, hcell⟩ := HS2.out.addr (by rw [HLN.out]; omega)
        have hx0 := hcell k (by rw [HLN.out]; exact hkn)
        have hdr : l.drop k = (l[k]'(by rw [HLN.out]; exact hkn)) :: l.drop (k + 1) := List.drop_eq_getElem_cons (by rw [HLN.out]; exact hkn)
        have hmem := List.getElem_mem (l := l) (n := k) (by rw [HLN.out]; exact hkn)
        have hxl := HXL.out _ hmem
        generalize l[k]'(by rw [HLN.out]; exact hkn) = x at *
        have HDR := Lib.hid hdr
        clear hcell hdr hmem
        rw [strv_text] at hx0
        by_cases h16 : k = 16
        · have h16b : ((k : Int) == 16) = true := by simp; omega
          have HN : Hid (R = (3, z)) := by rw [Hid, HI.out, HDR.out, walkP, if_pos h16]
          clear h16
          go_wp2
          try rw [Exit.noGoto_ret]
          exact bodyPost_ret (v := spotV (3, z)) (by simp [results, Tryd.results52, go_sem, spotV, y0, y1]) rfl ⟨by rw [HN.out], (HC.out.setCell (.inl hgw) _).setCell (.inl hgw) _⟩
        · have h16b : ((k : Int) == 16) = false := by simp; omega
          have HCK := Lib.hid (check_calls wr (mkS x) (by rw [mkS_size]; omega))
          rw [mkS_list] at HCK
          have hat := spot_at x
          have HW : Hid (R = if (spotF x).1 ≠ 0 then ((spotF x).1, z + (spotF x).2) else walkP (k + 1) (z + ((x.length : Int) + 1)) (l.drop (k + 1))) := by rw [Hid, HI.out, HDR.out, walkP, if_neg h16]
          obtain ⟨⟨e1, e2⟩, he⟩ : ∃ q, spotF x = q := ⟨_, rfl⟩
          rw [he] at HCK hat
          rw [Hid, he] at HW
          simp only at hat HW
          have HW := Lib.hid HW
          have HSZ : Hid ((mkS x).size = x.length) := mkS_size x
          generalize mkS x = sx at *
          generalize x.length = xl at *
          clear he
          go_wp2_with fail
          refine HCK.out.mono ?_
          rintro e w2 ⟨rfl, hc2⟩
          have HR2 := Lib.hid (hc2.heap HR.out (fun x => x))
          have HS3 := Lib.hid (HS2.out.no hc2)
          have HC2 := Lib.hid (HC.out.no hc2)
          have HB := Lib.hid (heap_alloc_new w2 (.cells #[.int .i64 e1, .int .i64 e2] 26))
          have HR3 := Lib.hid (((Chg.refl No w2).alloc (.cells #[.int .i64 e1, .int .i64 e2] 26)).heap HR2.out (fun x => x))
          have HS4 := Lib.hid (HS3.out.no ((Chg.refl No w2).alloc (.cells #[.int .i64 e1, .int .i64 e2] 26)))
          have HC3 : Hid (Chg No w (w2.alloc (.cells #[.int .i64 e1, .int .i64 e2] 26))) := HC2.out.alloc _
          clear hc2 hx0 y0 y1 yf0 yf1 HR HR2 HS2 HS3 HC HC2 HCK
          obtain ⟨u0, u1⟩ := heap2 HB.out
          have y0 := (heap2 HR3.out).1
          have y1 := (heap2 HR3.out).2
          have yf0 := frzAt HR3.out 0
          have yf1 := frzAt HR3.out 1
          by_cases h0 : e1 = 0
          · have hb1 : (e1 != 0) = false := by rw [h0]; rfl
            have HN : Hid (R = walkP (k + 1) (z + ((xl : Int) + 1)) (l.drop (k + 1))) := by rw [Hid, HW.out, if_neg (by simpa using h0)]
            clear h0
            have hxs : sx.size = xl := HSZ.out
            unfold spotV
            go_wp2
            go_roundw
            case rel => exact ⟨k + 1, z + ((xl : Int) + 1), by omega, by omega, by simp, by first | rfl | (congr 1; omega) | (simp; omega) | simp, by omega, by omega, HN.out, HR3.out, HS4.out, HC3.out⟩
            case measure => simp [intOf]; omega
          · have hb1 : (e1 != 0) = true := by simpa using h0
            have HN : Hid (R = (e1, z + e2)) := by rw [Hid, HW.out, if_pos (by simpa using h0)]
            clear h0
            unfold spotV
            go_wp2
            try rw [Exit.noGoto_ret]
            exact bodyPost_ret (v := spotV (e1, z + e2)) (by simp [results, Tryd.results52, go_sem, spotV, y0, y1]) rfl ⟨by rw [HN.out], (HC3.out.setCell (.inl hgw) _).setCell (.inl hgw) _⟩
      · have hki : ¬ (k : Int) < (n : Int) := by omega
        have HN : Hid (R = (0, 0)) := by rw [Hid, HI.out, List.drop_eq_nil_of_le (by rw [HLN.out]; omega)]; rfl
        go_wp2
        try rw [Exit.noGoto_ret]
        exact bodyPost_ret (v := spotV (0, 0)) (by simp [results, Tryd.results52, go_sem, spotV, y0, y1]) rfl ⟨by rw [HN.out], (HC.out.setCell (.inl hgw) _).setCell (.inl hgw) _⟩
set_option maxHeartbeats 6400000 in
theorem refpath_calls (w : World) (s : ByteArray) (hs : s.size ≤ 9223372036854775807) : Calls Tryd.prog 66 #[.string s] w fun e w' => e = .returned (spotV (pathF s.data.toList)) ∧ Chg No w w' := by
  have HS := Lib.hid (size_list s)
  have HR0 := Lib.hid (heap_alloc_new w (.cells #[.int .i64 0, .int .i64 0] 26))
  by_cases h200 : 200 < s.size
  · have HF : Hid (pathF s.data.toList = (3, 200)) := by rw [Hid, pathF, if_pos (by rw [HS.out]; exact h200)]
    have hb : (200 : Int) < (s.size : Int) := by omega
    go_enter Tryd.func66, Tryd.ntmps66
    go_wp2
    exact bodyPost_ret (v := spotV (3, 200)) (by simp [results, Tryd.results66, go_sem, spotV]) rfl ⟨by rw [HF.out], (Chg.refl No w).alloc _⟩
  · have HF : Hid (pathF s.data.toList = walkP 0 0 (partsL s.data.toList)) := by rw [Hid, pathF, if_neg (by rw [HS.out]; exact h200)]
    have hb : ¬ (200 : Int) < (s.size : Int) := by omega
    have HXL : Hid (∀ x ∈ partsL s.data.toList, x.length ≤ 200) := fun x hx => by have := parts_short hx; rw [HS.out] at this; omega
    have hpl : (partsL s.data.toList).length ≤ 201 := by have := parts_len s.data.toList; rw [HS.out] at this; omega
    have HPC : Hid (∀ W, Calls Tryd.prog 81 #[.string s] W fun e w' => PartsR W w' e (partsL s.data.toList)) := fun W => refparts_calls W s (by omega)
    generalize pathF s.data.toList = R at *
    generalize partsL s.data.toList = l at *
    have HC0 : Hid (Chg No w (w.alloc (.cells #[.int .i64 0, .int .i64 0] 26))) := (Chg.refl No w).alloc _
    go_enter Tryd.func66, Tryd.ntmps66
    go_wp2_with fail
    refine (HPC.out _).mono ?_
    rintro e w1 ⟨A, n, c, rfl, hl, ho, hc1⟩
    have HR1 := Lib.hid (hc1.heap HR0.out (fun x => x))
    have HC1 := Lib.hid (HC0.out.no hc1)
    have HSL := Lib.hid (ho.sl hl)
    have HLN := Lib.hid hl
    have HG : Hid (w.heap.size ≤ w.heap.size) := Nat.le_refl _
    rw [hl] at hpl
    clear hc1 ho hl HC0 HR0
    generalize hg : w.heap.size = g at *
    have hgw : w.heap.size ≤ g := by omega
    go_wp2
    go_loopw [3, 14] (fun a i wr => ∃ (k : Nat) (z : Int), k ≤ n ∧ k ≤ 16 ∧ i = .int .i64 (k : Int) ∧ a = .int .i64 z ∧ 0 ≤ z ∧ z ≤ 201 * k ∧ Hid (R = walkP k z (l.drop k)) ∧ Hid (wr.heap[g]? = some (.cells #[.int .i64 0, .int .i64 0] 26)) ∧ Hid (Sl strv wr (.slice A n c) l) ∧ Hid (Chg No w wr)) (fun _ i _ => n - (intOf i).toNat)
    case atStart => exact ⟨0, 0, Nat.zero_le _, by omega, rfl, rfl, by omega, by omega, HF.out, HR1.out, HSL.out, HC1.out⟩
    case round =>
      obtain ⟨k, z, hk, hk16, rfl, rfl, hz0, hz1, HI, HR, HS2, HC⟩ := hrel
      have y0 := (heap2 HR.out).1
      have y1 := (heap2 HR.out).2
      have yf0 := frzAt HR.out 0
      have yf1 := frzAt HR.out 1
      clear HR1 HC1 HSL
      by_cases hkn : k < n
      · have hki : (k : Int) < (n : Int) := by omega
        obtain ⟨b0, o0, rfl, hcell⟩ := HS2.out.addr (by rw [HLN.out]; omega)
        have hx0 := hcell k (by rw [HLN.out]; exact hkn)
        have hdr : l.drop k = (l[k]'(by rw [HLN.out]; exact hkn)) :: l.drop (k + 1) := List.drop_eq_getElem_cons (by rw [HLN.out]; exact hkn)
        have hmem := List.getElem_mem (l := l) (n := k) (by rw [HLN.out]; exact hkn)
        have hxl := HXL.out _ hmem
        generalize l[k]'(by rw [HLN.out]; exact hkn) = x at *
        have HDR := Lib.hid hdr
        clear hcell hdr hmem
        rw [strv_text] at hx0
        by_cases h16 : k = 16
        · have h16b : ((k : Int) == 16) = true := by simp; omega
          have HN : Hid (R = (3, z)) := by rw [Hid, HI.out, HDR.out, walkP, if_pos h16]
          clear h16
          go_wp2
          exact bodyPost_ret (v := spotV (3, z)) (by simp [results, Tryd.results66, go_sem, spotV, y0, y1]) rfl ⟨by rw [HN.out], (HC.out.setCell (.inl hgw) _).setCell (.inl hgw) _⟩
        · have h16b : ((k : Int) == 16) = false := by simp; omega
          have HCK := Lib.hid (refspot_calls wr (mkS x) (by rw [mkS_size]; omega))
          rw [mkS_list] at HCK
          have hat := spot_at x
          have HW : Hid (R = if (spotF x).1 ≠ 0 then ((spotF x).1, z + (spotF x).2) else walkP (k + 1) (z + ((x.length : Int) + 1)) (l.drop (k + 1))) := by rw [Hid, HI.out, HDR.out, walkP, if_neg h16]
          obtain ⟨⟨e1, e2⟩, he⟩ : ∃ q, spotF x = q := ⟨_, rfl⟩
          rw [he] at HCK hat
          rw [Hid, he] at HW
          simp only at hat HW
          have HW := Lib.hid HW
          have HSZ : Hid ((mkS x).size = x.length) := mkS_size x
          generalize mkS x = sx at *
          generalize x.length = xl at *
          clear he
          go_wp2_with fail
          refine HCK.out.mono ?_
          rintro e w2 ⟨rfl, hc2⟩
          have HR2 := Lib.hid (hc2.heap HR.out (fun x => x))
          have HS3 := Lib.hid (HS2.out.no hc2)
          have HC2 := Lib.hid (HC.out.no hc2)
          have HB := Lib.hid (heap_alloc_new w2 (.cells #[.int .i64 e1, .int .i64 e2] 26))
          have HR3 := Lib.hid (((Chg.refl No w2).alloc (.cells #[.int .i64 e1, .int .i64 e2] 26)).heap HR2.out (fun x => x))
          have HS4 := Lib.hid (HS3.out.no ((Chg.refl No w2).alloc (.cells #[.int .i64 e1, .int .i64 e2] 26)))
          have HC3 : Hid (Chg No w (w2.alloc (.cells #[.int .i64 e1, .int .i64 e2] 26))) := HC2.out.alloc _
          clear hc2 hx0 y0 y1 yf0 yf1 HR HR2 HS2 HS3 HC HC2 HCK
          obtain ⟨u0, u1⟩ := heap2 HB.out
          have y0 := (heap2 HR3.out).1
          have y1 := (heap2 HR3.out).2
          have yf0 := frzAt HR3.out 0
          have yf1 := frzAt HR3.out 1
          by_cases h0 : e1 = 0
          · have hb1 : (e1 != 0) = false := by rw [h0]; rfl
            have HN : Hid (R = walkP (k + 1) (z + ((xl : Int) + 1)) (l.drop (k + 1))) := by rw [Hid, HW.out, if_neg (by simpa using h0)]
            clear h0
            have hxs : sx.size = xl := HSZ.out
            unfold spotV
            go_wp2
            go_roundw
            case rel => exact ⟨k + 1, z + ((xl : Int) + 1), by omega, by omega, by simp, by first | rfl | (congr 1; omega) | (simp; omega) | simp, by omega, by omega, HN.out, HR3.out, HS4.out, HC3.out⟩
            case measure => simp [intOf]; omega
          · have hb1 : (e1 != 0) = true := by simpa using h0
            have HN : Hid (R = (e1, z + e2)) := by rw [Hid, HW.out, if_pos (by simpa using h0)]
            clear h0
            unfold spotV
            go_wp2
            exact bodyPost_ret (v := spotV (e1, z + e2)) (by simp [results, Tryd.results66, go_sem, spotV, y0, y1]) rfl ⟨by rw [HN.out], (HC3.out.setCell (.inl hgw) _).setCell (.inl hgw) _⟩
      · have hki : ¬ (k : Int) < (n : Int) := by omega
        have HN : Hid (R = (0, 0)) := by rw [Hid, HI.out, List.drop_eq_nil_of_le (by rw [HLN.out]; omega)]; rfl
        go_wp2
        exact bodyPost_ret (v := spotV (0, 0)) (by simp [results, Tryd.results66, go_sem, spotV, y0, y1]) rfl ⟨by rw [HN.out], (HC.out.setCell (.inl hgw) _).setCell (.inl hgw) _⟩
/-- Is it a path? -/
def isP (p : List UInt8) : Bool := decide ((pathF p).1 = 0)
def isF : List (List UInt8) → Int
  | [] => 0
  | p :: r => if (pathF p).1 ≠ 0 then (pathF p).1 else isF r
theorem refis_calls (w : World) (s : ByteArray) (hs : s.size ≤ 9223372036854775807) : Calls Tryd.prog 51 #[.string s] w fun e w' => e = .returned (.bool (isP s.data.toList)) ∧ Chg No w w' := by
  have HP := Lib.hid (refpath_calls w s hs)
  unfold isP
  obtain ⟨⟨e1, e2⟩, he⟩ : ∃ q, pathF s.data.toList = q := ⟨_, rfl⟩
  rw [he] at HP ⊢
  clear he
  have hf0 : ∀ (w : World), Sem.run Tryd.prog (Instr.field 26 (.agg #[.int .i64 e1, .int .i64 e2]) 0) w = .ok (.int .i64 e1) w := fun _ => rfl
  have HB : Hid ((e1 == 0) = decide (e1 = 0)) := by rw [Hid, Bool.eq_iff_iff]; simp
  go_enter Tryd.func51, Tryd.ntmps51
  go_wp2_with fail
  refine HP.out.mono ?_
  rintro e w1 ⟨rfl, hc1⟩
  unfold spotV
  go_wp2
  go_ret
  exact ⟨rfl, hc1⟩
end Go.Proofs.YtcomcoolmabmgaaDoor

namespace Go.Proofs.YtcomcoolmabmgaaDoor
set_option linter.unnecessarySimpa false
open Go.RowKit
set_option linter.unusedVariables false
set_option linter.unusedSimpArgs false
set_option maxRecDepth 100000

def firstBad : List (List UInt8) → Int
  | [] => 0
  | n :: r => if (spotF n).1 ≠ 0 then (spotF n).1 else firstBad r
def makeF (l : List (List UInt8)) : List UInt8 × Int :=
  if firstBad l ≠ 0 then ([], firstBad l) else if 16 < l.length ∨ 200 < (joinL l).length then ([], 3) else (joinL l, 0)
theorem spot_len {l : List UInt8} (h : (spotF l).1 = 0) : 1 ≤ l.length ∧ l.length ≤ 32 := by
  unfold spotF at h
  split at h
  · cases h
  · split at h
    · cases h
    · rename_i h1 h2
      refine ⟨?_, by omega⟩
      cases l with
      | nil => exact absurd (.inl rfl) h1
      | cons => simp
theorem firstBad_zero {l : List (List UInt8)} (h : firstBad l = 0) : ∀ x ∈ l, (spotF x).1 = 0 := by
  induction l with
  | nil => intro x hx; cases hx
  | cons n r ih =>
    rw [firstBad] at h
    split at h
    · rename_i h1; exact absurd h h1
    · rename_i h1
      intro x hx
      rcases List.mem_cons.1 hx with rfl | hx
      · exact Classical.byContradiction h1
      · exact ih h x hx
theorem join_len (l : List (List UInt8)) : (joinL l).length = (l.length - 1) + Lib.lens l := by
  cases l with
  | nil => rfl
  | cons x r => rw [joinL, Lib.join_length]; simp
theorem lens_le {l : List (List UInt8)} {m : Nat} (h : ∀ x ∈ l, x.length ≤ m) : Lib.lens l ≤ m * l.length := by
  induction l with
  | nil => simp [Lib.lens]
  | cons x r ih =>
    have h1 := ih (fun y hy => h y (by simp [hy]))
    have h2 := h x (by simp)
    have h3 : Lib.lens (x :: r) = x.length + Lib.lens r := by simp [Lib.lens]
    rw [h3, List.length_cons, Nat.mul_succ]
    omega
theorem join_small {l : List (List UInt8)} (h : firstBad l = 0) (hn : l.length ≤ 1000000) : (joinL l).length ≤ 140737488355328 := by
  rw [join_len]
  have := lens_le (m := 32) fun x hx => (spot_len (firstBad_zero h x hx)).2
  omega
end Go.Proofs.YtcomcoolmabmgaaDoor

namespace Go.Proofs.YtcomcoolmabmgaaDoor
set_option linter.unnecessarySimpa false
open Go.RowKit
set_option linter.unusedVariables false
set_option linter.unusedSimpArgs false
set_option maxRecDepth 100000

theorem infoStr1 : (Tryd.prog.info? 9).map (fun i => (i.zero, i.size, i.bytes)) = some (some (.string ⟨#[]⟩), 1, 16) := by kernel_rfl
theorem Src.ofStrs {w : World} {A : Option Addr} {n c : Nat} {l : List (List UInt8)} (h : Sl strv w (.slice A n c) l) : Src Tryd.prog 1 43 (.slice A n c) n (l.map strv) w := by
  have hl := h.len
  refine Src.ofHolds w Tryd.underlying43 (m := n) (by have := h; rw [Sl, hl] at this; exact this) (by rw [List.length_map, hl]; simp) (by omega) ?_
  intro u hu
  obtain ⟨x, -, rfl⟩ := List.mem_map.1 hu
  rfl
end Go.Proofs.YtcomcoolmabmgaaDoor

namespace Go.Proofs.YtcomcoolmabmgaaDoor
set_option linter.unnecessarySimpa false
open Go.RowKit
set_option linter.unusedVariables false
set_option linter.unusedSimpArgs false
set_option maxRecDepth 100000

theorem sl2 (w : World) (p q : List UInt8) : Sl strv (w.alloc (.cells #[.string (mkS p), .string (mkS q)] 9)) (.slice (some ⟨w.heap.size, 0, none⟩) 2 2) [p, q] := (OwnS.lit w [p, q] (by unfold maxLen; simp)).sl rfl
theorem sl3 (w : World) (p q r : List UInt8) : Sl strv (w.alloc (.cells #[.string (mkS p), .string (mkS q), .string (mkS r)] 9)) (.slice (some ⟨w.heap.size, 0, none⟩) 3 3) [p, q, r] := (OwnS.lit w [p, q, r] (by unfold maxLen; simp)).sl rfl
theorem sl1 (w : World) (p : List UInt8) : Sl strv (w.alloc (.cells #[.string (mkS p)] 9)) (.slice (some ⟨w.heap.size, 0, none⟩) 1 1) [p] := (OwnS.lit w [p] (by unfold maxLen; simp)).sl rfl
theorem path_len {p : List UInt8} (h : (pathF p).1 = 0) : p.length ≤ 200 := by
  unfold pathF at h
  split at h
  · cases h
  · omega
theorem isF_zero {l : List (List UInt8)} : isF l = 0 ↔ ∀ p ∈ l, (pathF p).1 = 0 := by
  induction l with
  | nil => simp [isF]
  | cons p r ih =>
    rw [isF]
    by_cases h : (pathF p).1 = 0
    · rw [if_neg (by simpa using h), ih]; simp [h]
    · rw [if_pos h]; simp [h]
def joinF (p q : List UInt8) : List UInt8 × Int := if isF [p, q] ≠ 0 then ([], isF [p, q]) else makeF (partsL p ++ partsL q)
def restF (p q : List UInt8) : List UInt8 × Bool :=
  if isF [p, q] ≠ 0 then ([], false) else if Lib.hasPrefix p q = false then ([], false) else if q = [] ∨ p.drop q.length = [] then (p.drop q.length, true)
  else if (p.drop q.length).getD 0 0 = 47 then (p.drop (q.length + 1), true) else ([], false)
def moveF (p f t : List UInt8) : List UInt8 × Int := if isF [p, f, t] ≠ 0 then ([], isF [p, f, t]) else if (restF p f).2 = false then ([], 141) else joinF t (restF p f).1
theorem two_mem {p q : List UInt8} {m : Nat} (hp : p.length ≤ m) (hq : q.length ≤ m) : ∀ x ∈ [p, q], x.length ≤ m := by simp; exact ⟨hp, hq⟩
theorem text_tail (u : UInt8) (r : List UInt8) : (mkS (u :: r)).extract 1 (mkS (u :: r)).size = mkS r := by
  rw [Lib.extract_eq, mkS_list, mkS_size]
  simp [mkS]
end Go.Proofs.YtcomcoolmabmgaaDoor

namespace Go.Proofs.YtcomcoolmabmgaaDoor
set_option linter.unnecessarySimpa false
open Go.RowKit
set_option linter.unusedVariables false
set_option linter.unusedSimpArgs false
set_option maxRecDepth 100000

theorem move_ex : moveF [97, 47, 98] [97] [120, 47, 121] = ([120, 47, 121, 47, 98], 0) := by decide +kernel
theorem in_ex1 : (restF [97, 47, 98] [97]).2 = true := by decide +kernel
theorem in_ex2 : (restF [97, 98] [97]).2 = false := by decide +kernel
theorem spot_ex : spotF [47] = (140, 0) := by decide +kernel
/-- A text of at most 4096 bytes. -/
def cutL (p : List UInt8) : List UInt8 := p.take 4096
theorem cutL_len (p : List UInt8) : (cutL p).length ≤ 4096 := by rw [cutL, List.length_take]; omega
end Go.Proofs.YtcomcoolmabmgaaDoor

namespace Go.Proofs.YtcomcoolmabmgaaDoor
set_option linter.unnecessarySimpa false
open Go.RowKit
set_option linter.unusedVariables false
set_option linter.unusedSimpArgs false

/-- A stroke lies in no piece but its own. -/
theorem piece47 (l : List UInt8) (h : l ≠ []) (hb : brk l = false) (hm : (47 : UInt8) ∈ l.take (decL l).2) : (decL l).1 = 47 := by
  have hf := decL_facts l h
  rw [take_get l _ hf.2.1] at hm
  have hb0 : (l.getD 0 0).toNat < 256 := (l.getD 0 0).toNat_lt
  have h47 : ∀ k, (l.getD k 0) = 47 → (l.getD k 0).toNat = 47 := fun k h => by rw [h]; rfl
  rcases decL_ways l with ⟨h1, e⟩ | ⟨h1, h2, h3, h4, e⟩ | ⟨h1, h2, h3, h4, h5, h6, e⟩ | ⟨h1, h2, h3, h4, h5, h6, h7, e⟩ | ⟨h1, e⟩
  · rw [e] at hm ⊢
    have hm : (47 : UInt8) = l.getD 0 0 := by simpa [List.range_succ] using hm
    exact h47 0 hm.symm
  · exfalso
    rw [e] at hm
    have hm : (47 : UInt8) = l.getD 0 0 ∨ (47 : UInt8) = l.getD 1 0 := by simpa [List.range_succ] using hm
    rcases hm with hm | hm
    · have := h47 0 hm.symm; omega
    · have := h47 1 hm.symm; omega
  · exfalso
    rw [e] at hm
    have hm : (47 : UInt8) = l.getD 0 0 ∨ (47 : UInt8) = l.getD 1 0 ∨ (47 : UInt8) = l.getD 2 0 := by simpa [List.range_succ] using hm
    rcases hm with hm | hm | hm
    · have := h47 0 hm.symm; omega
    · have := h47 1 hm.symm; omega
    · have := h47 2 hm.symm; omega
  · exfalso
    rw [e] at hm
    have hm : (47 : UInt8) = l.getD 0 0 ∨ (47 : UInt8) = l.getD 1 0 ∨ (47 : UInt8) = l.getD 2 0 ∨ (47 : UInt8) = l.getD 3 0 := by simpa [List.range_succ] using hm
    rcases hm with hm | hm | hm | hm
    · have := h47 0 hm.symm; omega
    · have := h47 1 hm.symm; omega
    · have := h47 2 hm.symm; omega
    · have := h47 3 hm.symm; omega
  · exfalso
    have hp : ([239, 191, 189] : List UInt8).isPrefixOf l = true := by
      unfold brk at hb
      rw [e] at hb
      simpa using hb
    rw [pre_fffd hp] at e
    cases e
theorem wrong_none : ∀ (n : Nat) (l : List UInt8) (k : Nat), l.length ≤ n → wrongAt k (pcs l) = none → (47 : UInt8) ∉ l := by
  intro n
  induction n with
  | zero => intro l k hl _; have : l = [] := List.eq_nil_of_length_eq_zero (by omega); subst this; simp
  | succ n ih =>
    intro l k hl h
    by_cases h0 : l = []
    · subst h0; simp
    · rw [wrong_cons k l h0] at h
      obtain ⟨q1, q2, q3⟩ := decL_facts _ h0
      split at h
      · cases h
      · rename_i hb
        have hb : badN ((decL l).1, brk l, l.take (decL l).2) = false := by simpa using hb
        rw [badN, Bool.or_eq_false_iff] at hb
        have hc := hb.1
        rw [ctlN, Bool.or_eq_false_iff] at hc
        have h2 := ih (l.drop (decL l).2) _ (by rw [List.length_drop]; omega) h
        intro hm
        rw [← List.take_append_drop (decL l).2 l] at hm
        rcases List.mem_append.1 hm with hm | hm
        · have := piece47 l h0 hb.2 hm
          have h3 := hc.2
          simp at h3
          exact h3 this
        · exact h2 hm
theorem spot_flat {x : List UInt8} (h : (spotF x).1 = 0) : (47 : UInt8) ∉ x := by
  unfold spotF at h
  split at h
  · cases h
  · split at h
    · cases h
    · split at h
      · rename_i hw; exact wrong_none _ x 0 (Nat.le_refl _) hw
      · cases h
theorem spot_ne {x : List UInt8} (h : (spotF x).1 = 0) : x ≠ [] := by
  have := (spot_len h).1
  rintro rfl
  simp at this
/-- Names that may be. -/
def Good (l : List (List UInt8)) : Prop := ∀ x ∈ l, (spotF x).1 = 0
theorem walkP_zero : ∀ (l : List (List UInt8)) (i : Nat) (a : Int), i ≤ 16 → ((walkP i a l).1 = 0 ↔ i + l.length ≤ 16 ∧ Good l) := by
  intro l
  induction l with
  | nil => intro i a hi; simp [walkP, Good, hi]
  | cons x r ih =>
    intro i a hi
    rw [walkP]
    by_cases h16 : i = 16
    · rw [if_pos h16]
      constructor
      · intro h; cases h
      · rintro ⟨h, -⟩; rw [List.length_cons] at h; omega
    · rw [if_neg h16]
      by_cases h0 : (spotF x).1 = 0
      · rw [if_neg (by simpa using h0), ih (i + 1) _ (by omega), List.length_cons]
        constructor
        · rintro ⟨h1, h2⟩
          exact ⟨by omega, fun y hy => by rcases List.mem_cons.1 hy with rfl | hy; exact h0; exact h2 y hy⟩
        · rintro ⟨h1, h2⟩
          exact ⟨by omega, fun y hy => h2 y (by simp [hy])⟩
      · rw [if_pos h0]
        constructor
        · intro h; exact absurd h h0
        · rintro ⟨-, h2⟩; exact absurd (h2 x (by simp)) h0
theorem path_ok (p : List UInt8) : (pathF p).1 = 0 ↔ p.length ≤ 200 ∧ (partsL p).length ≤ 16 ∧ Good (partsL p) := by
  unfold pathF
  split
  · constructor
    · intro h; cases h
    · rintro ⟨h, -⟩; omega
  · rw [walkP_zero _ _ _ (by omega)]
    constructor
    · rintro ⟨h1, h2⟩; exact ⟨by omega, by omega, h2⟩
    · rintro ⟨h1, h2, h3⟩; exact ⟨by omega, h3⟩
theorem join_ne {l : List (List UInt8)} (hl : l ≠ []) (h : Good l) : joinL l ≠ [] := by
  cases l with
  | nil => exact absurd rfl hl
  | cons x r =>
    rw [join_cons2]
    intro e
    exact spot_ne (h x (by simp)) (List.append_eq_nil_iff.1 e).1
theorem parts_joinL {l : List (List UInt8)} (h : Good l) : partsL (joinL l) = l := by
  by_cases hl : l = []
  · subst hl; rfl
  · rw [partsL, if_neg (join_ne hl h)]
    exact spl_join l hl fun x hx => spot_flat (h x hx)
theorem firstBad_iff {l : List (List UInt8)} : firstBad l = 0 ↔ Good l := by
  constructor
  · exact firstBad_zero
  · intro h
    induction l with
    | nil => rfl
    | cons x r ih =>
      rw [firstBad, if_neg (by simpa using h x (by simp))]
      exact ih fun y hy => h y (by simp [hy])
/-- Names whose path may be. -/
def Fit (l : List (List UInt8)) : Prop := Good l ∧ l.length ≤ 16 ∧ (joinL l).length ≤ 200
theorem make_ok {l : List (List UInt8)} : (makeF l).2 = 0 ↔ Fit l := by
  unfold makeF
  by_cases h : firstBad l = 0
  · rw [if_neg (by simpa using h)]
    split
    · rename_i h2
      constructor
      · intro h; cases h
      · rintro ⟨-, h3, h4⟩; omega
    · rename_i h2
      exact ⟨fun _ => ⟨firstBad_iff.1 h, by omega, by omega⟩, fun _ => rfl⟩
  · rw [if_pos h]
    constructor
    · intro h2; exact absurd h2 h
    · rintro ⟨h2, -⟩; exact absurd (firstBad_iff.2 h2) h
theorem make_fit {l : List (List UInt8)} (h : Fit l) : makeF l = (joinL l, 0) := by
  unfold makeF
  rw [if_neg (by simpa using firstBad_iff.2 h.1), if_neg (by have := h.2; omega)]
theorem Fit.path {l : List (List UInt8)} (h : Fit l) : (pathF (joinL l)).1 = 0 := by
  rw [path_ok, parts_joinL h.1]
  exact ⟨h.2.2, h.2.1, h.1⟩
theorem fit_parts {p : List UInt8} (h : (pathF p).1 = 0) : Fit (partsL p) := by
  rw [path_ok] at h
  exact ⟨h.2.2, h.2.1, by rw [join_parts]; exact h.1⟩
theorem Fit.of_path {p : List UInt8} (h : (pathF p).1 = 0) : ∃ l, Fit l ∧ p = joinL l ∧ partsL p = l := ⟨partsL p, fit_parts h, (join_parts p).symm, rfl⟩
theorem spl_app2 (r : List UInt8) : ∀ (q acc : List UInt8), spl acc (q ++ 47 :: r) = spl acc q ++ spl [] r := by
  intro q
  induction q with
  | nil => intro acc; simp [spl]
  | cons b q ih =>
    intro acc
    rw [List.cons_append, spl, spl]
    split
    · rw [ih]; rfl
    · rw [ih]
theorem join_app {l m : List (List UInt8)} (hl : l ≠ []) (hm : m ≠ []) : joinL (l ++ m) = joinL l ++ 47 :: joinL m := by
  induction l with
  | nil => exact absurd rfl hl
  | cons x r ih =>
    cases r with
    | nil =>
      cases m with
      | nil => exact absurd rfl hm
      | cons y m => rw [show joinL [x] = x from Lib.join_one x [47], List.singleton_append, join_cons2, joinTail_cons, ← join_cons2]
    | cons y r =>
      have := ih (by simp)
      rw [List.cons_append, List.cons_append, join_cons2, joinTail_cons, ← join_cons2, ← List.cons_append, this, join_cons2 x, joinTail_cons, ← join_cons2]
      simp
/-- Rest by the names: does the one begin with the other's? -/
def restR (p q : List UInt8) : List UInt8 × Bool :=
  if isP p && isP q && (partsL q).isPrefixOf (partsL p) then (joinL ((partsL p).drop (partsL q).length), true) else ([], false)
theorem isF2 (p q : List UInt8) : isF [p, q] = 0 ↔ (isP p && isP q) = true := by
  rw [isF_zero]; simp [isP]
theorem isF3 (p q r : List UInt8) : isF [p, q, r] = 0 ↔ (isP p && isP q && isP r) = true := by
  rw [isF_zero]; simp [isP, and_assoc]
theorem rest_eq (p q : List UInt8) : restF p q = restR p q := by
  unfold restF restR
  by_cases hz : isF [p, q] = 0
  · have hpq := (isF2 p q).1 hz
    rw [if_neg (by simpa using hz), hpq, Bool.true_and]
    obtain ⟨hp, hq⟩ : (pathF p).1 = 0 ∧ (pathF q).1 = 0 := by simpa [isP] using hpq
    obtain ⟨L, hL, rfl, eL⟩ := Fit.of_path hp
    obtain ⟨M, hM, rfl, eM⟩ := Fit.of_path hq
    rw [eL, eM]
    by_cases hpre : M <+: L
    · rw [if_pos (List.isPrefixOf_iff_prefix.2 hpre)]
      obtain ⟨R, rfl⟩ := hpre
      rw [List.drop_left]
      by_cases hM0 : M = []
      · subst hM0
        have h1 : Lib.hasPrefix (joinL ([] ++ R)) (joinL []) = true := by rw [show joinL [] = [] from rfl]; simp [Lib.hasPrefix]
        rw [if_neg (by rw [h1]; simp), if_pos (.inl rfl)]
        rfl
      · by_cases hR0 : R = []
        · subst hR0
          rw [List.append_nil]
          have h1 : Lib.hasPrefix (joinL M) (joinL M) = true := by simp [Lib.hasPrefix]
          rw [if_neg (by rw [h1]; simp), if_pos (.inr (by rw [List.drop_length])), List.drop_length]
          rfl
        · rw [join_app hM0 hR0]
          have h1 : Lib.hasPrefix (joinL M ++ 47 :: joinL R) (joinL M) = true := by simp [Lib.hasPrefix]
          rw [if_neg (by rw [h1]; simp), List.drop_left, if_neg (by rintro (h | h); exact join_ne hM0 hM.1 h; cases h), List.getD_cons_zero, if_pos rfl, ← List.drop_drop, List.drop_left]
          rfl
    · have hR : (if M.isPrefixOf L = true then (joinL (L.drop M.length), true) else ([], false)) = (([], false) : List UInt8 × Bool) := if_neg (by rw [List.isPrefixOf_iff_prefix]; exact hpre)
      rw [hR]
      by_cases hh : Lib.hasPrefix (joinL L) (joinL M) = true
      · have h1 : joinL M <+: joinL L := by simpa [Lib.hasPrefix] using hh
        obtain ⟨r, hr⟩ := h1
        rw [if_neg (by rw [hh]; simp), ← hr, List.drop_left]
        rw [if_neg, if_neg]
        · cases r with
          | nil =>
            exfalso
            rw [List.append_nil] at hr
            rw [← eM, ← eL, hr] at hpre
            exact hpre (List.prefix_refl _)
          | cons u r =>
            intro hu
            rw [List.getD_cons_zero] at hu
            subst hu
            apply hpre
            have hM0 : M ≠ [] := by rintro rfl; exact hpre (List.nil_prefix)
            have e1 : partsL (joinL M ++ 47 :: r) = spl [] (joinL M) ++ spl [] r := by rw [partsL, if_neg (by simp), spl_app2]
            rw [hr, eL] at e1
            rw [e1, spl_join M hM0 fun x hx => spot_flat (hM.1 x hx)]
            exact List.prefix_append _ _
        · rintro (h | h)
          · have : M = [] := Classical.byContradiction fun h0 => join_ne h0 hM.1 h
            subst this
            exact hpre List.nil_prefix
          · subst h
            rw [List.append_nil] at hr
            rw [← eM, ← eL, hr] at hpre
            exact hpre (List.prefix_refl _)
      · rw [if_pos (by simpa using hh)]
  · rw [if_pos hz, if_neg]
    intro h
    rw [Bool.and_eq_true_iff] at h
    exact hz ((isF2 p q).2 h.1)
end Go.Proofs.YtcomcoolmabmgaaDoor

namespace Go.Proofs.YtcomcoolmabmgaaDoor
set_option linter.unnecessarySimpa false
open Go.RowKit
set_option linter.unusedVariables false
set_option linter.unusedSimpArgs false

set_option maxHeartbeats 1000000 in
set_option maxRecDepth 100000 in
theorem indexbyte1_calls (s : ByteArray) (c : Int) (w : World) :
    Calls Tryd.prog 57 #[.string s, .int .u8 c] w fun e w' => e = .returned (.int .i64 (Lib.indexByte s.data.toList c.toNat.toUInt8)) ∧ w = w' := by
  go_enter Tryd.func57, Tryd.ntmps57
  go_wp2
  rw [run_callFunc_extern Tryd.func73 (by kernel_rfl) (by kernel_rfl) (by kernel_rfl) (e := Extern.BytealgIndexByte.indexByte) (by kernel_rfl), Lib.run_indexByteString]
  simp only [Result.andThen]
  rw [Oper.upon_value]
  go_wp2
  go_ret
  exact ⟨rfl, rfl⟩
set_option maxHeartbeats 1000000 in
theorem indexbyte_calls (s : ByteArray) (c : Int) (w : World) :
    Calls Tryd.prog 38 #[.string s, .int .u8 c] w fun e w' => e = .returned (.int .i64 (Lib.indexByte s.data.toList c.toNat.toUInt8)) ∧ w = w' := by
  go_enter Tryd.func38, Tryd.ntmps38
  go_wp2_with (go_at_call 57; refine (indexbyte1_calls _ _ _).mono ?_; rintro e w' ⟨rfl, rfl⟩)
  go_ret
  exact ⟨rfl, rfl⟩

def ctl (r : Nat) : Bool := decide (r < 32) || decide (127 ≤ r ∧ r ≤ 159)
set_option maxHeartbeats 400000 in
theorem control_calls (w : World) (r : Nat) : Calls Tryd.prog 42 #[.int .i32 (r : Int)] w fun e w' => e = .returned (.bool (ctl r)) ∧ w = w' := by
  by_cases h1 : r < 32
  · have HU : Hid (ctl r = true) := by simp [Hid, ctl, h1]
    go_enter Tryd.func42, Tryd.ntmps42
    go_wp2
    go_ret
    exact ⟨by rw [HU.out]; first | rfl | (simp; done) | (simp; omega), rfl⟩
  · by_cases h2 : 127 ≤ r
    · by_cases h3 : r ≤ 159
      · have HU : Hid (ctl r = true) := by simp [Hid, ctl, h2, h3]
        go_enter Tryd.func42, Tryd.ntmps42
        go_wp2
        go_ret
        exact ⟨by rw [HU.out]; first | rfl | (simp; done) | (simp; omega), rfl⟩
      · have HU : Hid (ctl r = false) := by simp [Hid, ctl]; omega
        go_enter Tryd.func42, Tryd.ntmps42
        go_wp2
        go_ret
        exact ⟨by rw [HU.out]; first | rfl | (simp; done) | (simp; omega), rfl⟩
    · have HU : Hid (ctl r = false) := by simp [Hid, ctl]; omega
      go_enter Tryd.func42, Tryd.ntmps42
      go_wp2
      go_ret
      exact ⟨by rw [HU.out]; first | rfl | (simp; done) | (simp; omega), rfl⟩

set_option maxHeartbeats 400000 in
theorem broken_calls (w : World) (s : ByteArray) (hs : s.size ≤ 9223372036854775807) (i : Nat) (hi : i ≤ s.size) :
    Calls Tryd.prog 40 #[.string s, .int .i64 (i : Int), .int .i32 ((decL (s.data.toList.drop i)).1 : Int)] w fun e w' => e = .returned (.bool (brk (s.data.toList.drop i))) ∧ w = w' := by
  have hx := extract_list s i
  by_cases h1 : (decL (s.data.toList.drop i)).1 = 65533
  · have HU : Hid (brk (s.data.toList.drop i) = !Lib.hasPrefix (List.take (s.size - i) (List.drop i s.data.toList)) [239, 191, 189]) := by
      rw [Hid, List.take_of_length_le (by rw [List.length_drop, size_list]; exact Nat.le_refl _)]
      unfold brk
      rw [h1]
      rfl
    rw [h1]
    have hi' : (i : Int) ≤ (s.size : Int) := by omega
    clear h1 hx
    go_enter Tryd.func40, Tryd.ntmps40
    go_wp2_with (go_at_call 58; refine (hasprefix_calls _ _ _).mono ?_; rintro e w' ⟨rfl, rfl⟩)
    go_ret
    exact ⟨by rw [HU.out]; rfl, rfl⟩
  · have HU : Hid (brk (s.data.toList.drop i) = false) := by
      unfold brk
      simp [Hid, h1]
    have hr : (((decL (s.data.toList.drop i)).1 : Int) == 65533) = false := by simp; omega
    generalize (decL (s.data.toList.drop i)).1 = r at *
    clear h1 hx
    go_enter Tryd.func40, Tryd.ntmps40
    go_wp2
    go_ret
    exact ⟨by rw [HU.out]; rfl, rfl⟩
end Go.Proofs.YtcomcoolmabmgaaDoor

namespace Go.Proofs.YtcomcoolmabmgaaDoor
set_option linter.unnecessarySimpa false
open Go.RowKit
set_option linter.unusedVariables false
set_option linter.unusedSimpArgs false

/-- May a piece not stand in a plain word? -/
def badP (p : Nat × Bool × List UInt8) : Bool := ctl p.1 || p.2.1 || p.1 == 32 || p.1 == 34 || p.1 == 92
def plainF (l : List UInt8) : Bool := match l with
  | [] => false
  | a :: t => a != 35 && (pcs (a :: t)).all fun p => !badP p

set_option maxRecDepth 100000 in
set_option maxHeartbeats 1600000 in
theorem plain_calls (w : World) (s : ByteArray) (hs : s.size ≤ 9223372036854775807) :
    Calls Tryd.prog 39 #[.string s] w fun e w' => e = .returned (.bool (plainF s.data.toList)) ∧ Chg No w w' := by
  have hsl := size_list s
  by_cases h0 : s.size = 0
  · have : s = ⟨#[]⟩ := by
      obtain ⟨⟨l⟩⟩ := s
      cases l with
      | nil => rfl
      | cons a t => simp [ByteArray.size] at h0
    subst this
    clear h0 hsl hs
    go_enter Tryd.func39, Tryd.ntmps39
    go_wp2
    go_ret
    exact ⟨rfl, Chg.refl _ _⟩
  · have i0 : (0 : Int) < (s.size : Int) := by omega
    have HS := Lib.hid hsl
    have HP : Hid (plainF s.data.toList = (s[0]'(by omega) != 35 && (pcs s.data.toList).all fun p => !badP p)) := by
      obtain ⟨⟨l⟩⟩ := s
      cases l with
      | nil => simp [ByteArray.size] at h0
      | cons a t => rfl
    have hn : ¬ s.toList = [] := by
      rw [Lib.toList_data]
      intro h
      rw [h] at hsl
      simp at hsl
      omega
    have hem : s.toList.isEmpty = false := by simpa using hn
    have hlt : 0 < s.size := by omega
    by_cases h35 : s[0]'hlt = 35
    · have hb : (((s[0]'hlt).toNat : Int) == 35) = true := by rw [h35]; rfl
      have HU : Hid (plainF s.data.toList = false) := by rw [Hid, HP.out, h35]; rfl
      clear HP hsl h35
      go_enter Tryd.func39, Tryd.ntmps39
      go_wp2
      go_ret
      exact ⟨by rw [HU.out]; rfl, Chg.refl _ _⟩
    · have hb : (((s[0]'hlt).toNat : Int) == 35) = false := by
        rw [beq_eq_false_iff_ne]
        intro h
        exact h35 (UInt8.toNat_inj.1 (by show _ = 35; omega))
      have HU : Hid (plainF s.data.toList = (pcs s.data.toList).all fun p => !badP p) := by
        rw [Hid, HP.out]
        have : (s[0]'hlt != 35) = true := by simpa using h35
        rw [this, Bool.true_and]
      clear HP hsl h35
      go_enter Tryd.func39, Tryd.ntmps39
      go_wp2
      go_loopw [] (fun wr => ∃ pos, pos ≤ s.size ∧ Hid (wr.heap[w.heap.size]? = some (.stringIter s pos)) ∧ Hid (plainF s.data.toList = (pcs (s.data.toList.drop pos)).all fun p => !badP p) ∧ Hid (Chg No w wr)) (fun wr => s.size - wr.iterPos w.heap.size)
      case atStart => exact ⟨0, Nat.zero_le _, World.iter_heap _ _ _, HU.out, (Chg.refl No w).alloc _⟩
      case round =>
        obtain ⟨pos, hpos, HI, HU2, HC⟩ := hrel
        by_cases hp : pos < s.size
        · have hl := drop_ne hp
          obtain ⟨f1, f2, f3⟩ := decL_facts _ hl
          have HPC := Lib.hid (pcs_cons _ hl)
          have hnx := fun ty => Lib.run_next_any_at (P := Tryd.prog) wr w.heap.size s pos ty HI.out hp
          rw [decode_drop] at hnx
          have HCT : Hid (∀ w1, Calls Tryd.prog 42 #[.int .i32 (((decL (s.data.toList.drop pos)).1 : Nat) : Int)] w1 fun e w' => e = .returned (.bool (ctl (decL (s.data.toList.drop pos)).1)) ∧ w1 = w') := fun w1 => control_calls w1 _
          have HBR : Hid (∀ w1, Calls Tryd.prog 40 #[.string s, .int .i64 (pos : Int), .int .i32 (((decL (s.data.toList.drop pos)).1 : Nat) : Int)] w1 fun e w' => e = .returned (.bool (brk (s.data.toList.drop pos))) ∧ w1 = w') := fun w1 => broken_calls w1 s hs pos hpos
          rw [List.length_drop, HS.out] at f2
          rw [List.drop_drop] at HPC
          generalize decL (s.data.toList.drop pos) = D at *
          obtain ⟨r, k⟩ := D
          simp only at f1 f2 f3 hnx HCT HBR HPC
          have HC1 : Hid (Chg No w (wr.iterAt w.heap.size s (pos + k))) := Chg.iterAt HC.out (Nat.le_refl _) _ _
          have HI1 : Hid ((wr.iterAt w.heap.size s (pos + k)).heap[w.heap.size]? = some (.stringIter s (pos + k))) := Lib.iterAt_heap wr w.heap.size s pos (pos + k) HI.out
          have hip : wr.iterPos w.heap.size = pos := iterPos_of HI.out
          have hip2 : (wr.iterAt w.heap.size s (pos + k)).iterPos w.heap.size = pos + k := iterPos_of HI1.out
          generalize brk (s.data.toList.drop pos) = bk at *
          generalize (s.data.toList.drop pos).take k = bs at *
          clear hl
          generalize wr.iterAt w.heap.size s (pos + k) = wn at *
          generalize hct : ctl r = ct at *
          have HCTR := Lib.hid hct
          clear hct
          cases ct with
          | true =>
            go_wp2_with (first | (go_at_call 42; refine (HCT.out _).mono ?_; rintro e w' ⟨rfl, rfl⟩) | (go_at_call 40; refine (HBR.out _).mono ?_; rintro e w' ⟨rfl, rfl⟩))
            go_ret
            exact ⟨by rw [HU2.out, HPC.out]; simp [badP, HCTR.out], HC1.out⟩
          | false =>
            cases bk with
            | true =>
              go_wp2_with (first | (go_at_call 42; refine (HCT.out _).mono ?_; rintro e w' ⟨rfl, rfl⟩) | (go_at_call 40; refine (HBR.out _).mono ?_; rintro e w' ⟨rfl, rfl⟩))
              go_ret
              exact ⟨by rw [HU2.out, HPC.out]; simp [badP, HCTR.out], HC1.out⟩
            | false =>
              by_cases h32 : r = 32
              · have hb : ((r : Int) == 32) = true := by rw [h32]; rfl
                have H32 := Lib.hid h32
                clear h32
                go_wp2_with (first | (go_at_call 42; refine (HCT.out _).mono ?_; rintro e w' ⟨rfl, rfl⟩) | (go_at_call 40; refine (HBR.out _).mono ?_; rintro e w' ⟨rfl, rfl⟩))
                go_ret
                exact ⟨by rw [HU2.out, HPC.out]; simp [badP, H32.out], HC1.out⟩
              · have hb32 : ((r : Int) == 32) = false := by simp; omega
                by_cases h34 : r = 34
                · have hb : ((r : Int) == 34) = true := by rw [h34]; rfl
                  have H34 := Lib.hid h34
                  clear h34
                  go_wp2_with (first | (go_at_call 42; refine (HCT.out _).mono ?_; rintro e w' ⟨rfl, rfl⟩) | (go_at_call 40; refine (HBR.out _).mono ?_; rintro e w' ⟨rfl, rfl⟩))
                  go_ret
                  exact ⟨by rw [HU2.out, HPC.out]; simp [badP, H34.out], HC1.out⟩
                · have hb34 : ((r : Int) == 34) = false := by simp; omega
                  by_cases h92 : r = 92
                  · have hb : ((r : Int) == 92) = true := by rw [h92]; rfl
                    have H92 := Lib.hid h92
                    clear h92
                    go_wp2_with (first | (go_at_call 42; refine (HCT.out _).mono ?_; rintro e w' ⟨rfl, rfl⟩) | (go_at_call 40; refine (HBR.out _).mono ?_; rintro e w' ⟨rfl, rfl⟩))
                    go_ret
                    exact ⟨by rw [HU2.out, HPC.out]; simp [badP, H92.out], HC1.out⟩
                  · have hb92 : ((r : Int) == 92) = false := by simp; omega
                    have HG : Hid (badP (r, false, bs) = false) := by simp [Hid, badP, HCTR.out, h32, h34, h92]
                    clear h32 h34 h92
                    go_wp2_with (first | (go_at_call 42; refine (HCT.out _).mono ?_; rintro e w' ⟨rfl, rfl⟩) | (go_at_call 40; refine (HBR.out _).mono ?_; rintro e w' ⟨rfl, rfl⟩))
                    go_roundw
                    case rel => exact ⟨pos + k, by omega, HI1.out, by rw [Hid, HU2.out, HPC.out, List.all_cons, HG.out]; rfl, HC1.out⟩
                    case measure => rw [hip, hip2]; omega
        · have hnx := fun ty => Lib.run_next_end_at (P := Tryd.prog) wr w.heap.size s pos ty HI.out hp
          have HE : Hid (s.data.toList.drop pos = []) := by rw [Hid]; exact List.drop_of_length_le (by rw [HS.out]; omega)
          go_wp2
          go_ret
          exact ⟨by rw [HU2.out, HE.out]; rfl, HC.out⟩
end Go.Proofs.YtcomcoolmabmgaaDoor

namespace Go.Proofs.YtcomcoolmabmgaaDoor
set_option linter.unnecessarySimpa false
set_option linter.unusedVariables false
set_option linter.unusedSimpArgs false

theorem wraps_u64 (n : Int) (h₀ : 0 ≤ n) (h₁ : n < 2 ^ 64) : IntKind.u64.wrap n = n := by rw [IntKind.wrap_u64]; omega
theorem wrap_u64_nat (n : Nat) (h : n < 18446744073709551616) : IntKind.u64.wrap (n : Int) = n := by rw [IntKind.wrap_u64]; omega
theorem wrap_u8_nat (n : Nat) : IntKind.u8.wrap (n : Int) = ((n % 256 : Nat) : Int) := by rw [IntKind.wrap_u8]; omega
theorem and127 (u : Nat) (h : u < 256) : bits .and .u8 (u : Int) 127 = ((u % 128 : Nat) : Int) := by
  have := bits_mask .u8 8 (by decide) wraps_u8 7 (by decide) (u : Int) (by omega) (by omega)
  simp at this
  rw [this]; omega
theorem or_u64 (a b : Nat) (ha : a < 18446744073709551616) (hb : b < 18446744073709551616) : bits .or .u64 (a : Int) (b : Int) = ((a ||| b : Nat) : Int) :=
  (bits_nat .u64 64 (by decide) wraps_u64 a b (by omega) (by omega)).2
theorem and_u64 (a b : Nat) (ha : a < 18446744073709551616) (hb : b < 18446744073709551616) : bits .and .u64 (a : Int) (b : Int) = ((a &&& b : Nat) : Int) :=
  (bits_nat .u64 64 (by decide) wraps_u64 a b (by omega) (by omega)).1
theorem or_u8 (a b : Nat) (ha : a < 256) (hb : b < 256) : bits .or .u8 (a : Int) (b : Int) = ((a ||| b : Nat) : Int) :=
  (bits_nat .u8 8 (by decide) wraps_u8 a b (by omega) (by omega)).2
theorem or_add (a b i : Nat) (h : b < 2 ^ i) : b ||| a * 2 ^ i = b + a * 2 ^ i := by
  rw [Nat.or_comm, Nat.mul_comm, ← Nat.two_pow_add_eq_or_of_lt h, Nat.add_comm]

theorem pow128_le (k : Nat) (h : k ≤ 9) : 128 ^ k ≤ 9223372036854775808 := by
  have := Nat.pow_le_pow_right (n := 128) (by decide) h
  exact Nat.le_trans this (by decide)

theorem shl_or (k y u : Nat) (hk : k ≤ 9) (hy : y < 128 ^ k) (hu : u < 256) (h9 : k = 9 → u ≤ 1) :
    bits .or .u64 (y : Int) (IntKind.u64.wrap (IntKind.u64.wrap (bits .and .u8 (u : Int) 127) * 2 ^ (7 * k))) = ((y + u % 128 * 128 ^ k : Nat) : Int) := by
  have hp : (2 : Nat) ^ (7 * k) = 128 ^ k := by rw [Nat.pow_mul]
  have hb : u % 128 * 128 ^ k < 18446744073709551616 := by
    by_cases h : k = 9
    · have := h9 h; subst h
      have : u % 128 ≤ 1 := by omega
      exact Nat.lt_of_le_of_lt (Nat.mul_le_mul_right _ this) (by decide)
    · have h1 := Nat.pow_le_pow_right (n := 128) (by decide) (show k ≤ 8 by omega)
      have h2 : u % 128 ≤ 127 := by omega
      exact Nat.lt_of_le_of_lt (Nat.mul_le_mul h2 h1) (by decide)
  have hy2 := Nat.lt_of_lt_of_le hy (pow128_le k hk)
  rw [and127 u hu, wrap_u64_nat _ (by omega)]
  have e : ((u % 128 : Nat) : Int) * 2 ^ (7 * k) = ((u % 128 * 128 ^ k : Nat) : Int) := by
    rw [← hp]; simp
  rw [e, wrap_u64_nat _ hb, or_u64 _ _ (by omega) hb]
  rw [← hp, or_add _ _ _ (by rw [hp]; exact hy)]
theorem shl_or_9 (y u : Nat) (hy : y < 128 ^ 9) (hu : u < 256) (h9 : u ≤ 1) :
    bits .or .u64 (y : Int) (IntKind.u64.wrap (IntKind.u64.wrap (bits .and .u8 (u : Int) 127) * 9223372036854775808)) = ((y + u % 128 * 128 ^ 9 : Nat) : Int) :=
  shl_or 9 y u (by decide) hy hu (fun _ => h9)
theorem xor_u8 (a b : UInt8) : bits .xor .u8 (a.toNat : Int) (b.toNat : Int) = ((a ^^^ b).toNat : Int) := by
  have ha : a.toNat < 256 := a.toNat_lt
  have hb : b.toNat < 256 := b.toNat_lt
  have hx : a.toNat ^^^ b.toNat < 2 ^ 8 := Nat.xor_lt_two_pow (by omega) (by omega)
  have h1 : (BitVec.ofInt 8 (a.toNat : Int)).toNat = a.toNat := by
    rw [BitVec.ofInt_natCast, BitVec.toNat_ofNat]; exact Nat.mod_eq_of_lt (by omega)
  have h2 : (BitVec.ofInt 8 (b.toNat : Int)).toNat = b.toNat := by
    rw [BitVec.ofInt_natCast, BitVec.toNat_ofNat]; exact Nat.mod_eq_of_lt (by omega)
  show IntKind.u8.wrap ((BitVec.ofInt 8 (a.toNat : Int) ^^^ BitVec.ofInt 8 (b.toNat : Int)).toNat : Int) = _
  rw [BitVec.toNat_xor, h1, h2, IntKind.wrap_u8, UInt8.toNat_xor]
  omega
end Go.Proofs.YtcomcoolmabmgaaDoor

namespace Go.Proofs.YtcomcoolmabmgaaDoor
set_option linter.unnecessarySimpa false
open Go.RowKit
set_option linter.unusedVariables false
set_option linter.unusedSimpArgs false

/-- A digit. -/
def hx (d : Nat) : UInt8 := UInt8.ofNat (if d < 10 then 48 + d else 87 + d)
def hexs (bs : List UInt8) : List UInt8 := bs.flatMap fun b => [92, 120, hx (b.toNat / 16), hx (b.toNat % 16)]
theorem hx_get : ∀ (q : Nat) (h : q < 16), ((⟨#[48, 49, 50, 51, 52, 53, 54, 55, 56, 57, 97, 98, 99, 100, 101, 102]⟩ : ByteArray)[q]'h).toNat = (hx q).toNat := by decide
theorem dig {u : Nat} (hu : u < 256) (hq : 0 ≤ (u : Int) / 16 ∧ (u : Int) / 16 < 16) : (((⟨#[48, 49, 50, 51, 52, 53, 54, 55, 56, 57, 97, 98, 99, 100, 101, 102]⟩ : ByteArray)[((u : Int) / 16).toNat]'(by show _ < 16; omega)).toNat : Int) = ((hx (u / 16)).toNat : Int) := by
  have e : ((u : Int) / 16).toNat = u / 16 := by omega
  rw [hx_get ((u : Int) / 16).toNat (by omega), e]
theorem dig2 {u : Nat} (hu : u < 256) (hq : 0 ≤ (u : Int) % 16 ∧ (u : Int) % 16 < 16) : (((⟨#[48, 49, 50, 51, 52, 53, 54, 55, 56, 57, 97, 98, 99, 100, 101, 102]⟩ : ByteArray)[((u : Int) % 16).toNat]'(by show _ < 16; omega)).toNat : Int) = ((hx (u % 16)).toNat : Int) := by
  have e : ((u : Int) % 16).toNat = u % 16 := by omega
  rw [hx_get ((u : Int) % 16).toNat (by omega), e]
theorem and15_u8 (u : Nat) (h : u < 256) : bits .and .u8 (u : Int) 15 = ((u % 16 : Nat) : Int) := by
  have := bits_mask .u8 8 (by decide) wraps_u8 4 (by decide) (u : Int) (by omega) (by omega)
  simp at this
  rw [this]; omega

set_option maxRecDepth 100000 in
set_option maxHeartbeats 1600000 in
theorem byhex_calls (w : World) (base : Nat) (A : Option Addr) (n c : Nat) (bs : List UInt8) (ho : OwnB w base (.slice A n c) bs) (hl : bs.length = n) (hb : base ≤ w.heap.size) (s : ByteArray) (hn : n + 4 * s.size ≤ 140737488355328) :
    Calls Tryd.prog 41 #[.slice A n c, .string s] w fun e w' => ∃ v, e = .returned v ∧ OwnB w' base v (bs ++ hexs s.data.toList) ∧ Chg (Rows base w) w w' := by
  have HO := Lib.hid ho
  have HL := Lib.hid hl
  have HS := Lib.hid (size_list s)
  clear ho hl
  go_enter Tryd.func41, Tryd.ntmps41
  go_wp2
  go_loopw [0, 5] (fun v i wr => ∃ (k : Nat) (A : Option Addr) (m c : Nat) (ys : List UInt8), k ≤ s.size ∧ i = .int .i64 (k : Int) ∧ v = .slice A m c ∧ m = n + 4 * k ∧ Hid (ys = bs ++ hexs (s.data.toList.take k)) ∧ Hid (ys.length = m) ∧ Hid (OwnB wr base (.slice A m c) ys) ∧ base ≤ wr.heap.size ∧ Hid (Chg (Rows base w) w wr)) (fun _ i _ => s.size - (intOf i).toNat)
  case atStart => exact ⟨0, A, n, c, bs, by omega, rfl, rfl, by omega, by simp [Hid, hexs], HL.out, HO.out, hb, Chg.refl _ _⟩
  case round =>
    clear HO HL
    obtain ⟨k, A, m, c, ys, hk, rfl, rfl, hm, HY, HL, HO, hb, HC⟩ := hrel
    by_cases hlt : k < s.size
    · have i0 : (0 : Int) ≤ (k : Int) := by omega
      have i1 : (k : Int) < (s.size : Int) := by omega
      have hm4 : m + 4 ≤ 140737488355328 := by omega
      have HM := Lib.hid hm
      have hmb : n ≤ m := by omega
      clear hm
      have hu : (s[k]'hlt).toNat < 256 := (s[k]'hlt).toNat_lt
      have HT : Hid (s.data.toList.take (k + 1) = s.data.toList.take k ++ [s[k]'hlt]) := by
        rw [Hid, List.take_succ_eq_append_getElem (by rw [HS.out]; exact hlt)]
        rfl
      have ha := and15_u8 _ hu
      have hq : 0 ≤ ((s[k]'hlt).toNat : Int) / 16 ∧ ((s[k]'hlt).toNat : Int) / 16 < 16 := by omega
      have hr : 0 ≤ ((s[k]'hlt).toNat : Int) % 16 ∧ ((s[k]'hlt).toNat : Int) % 16 < 16 := by omega
      go_wp2
      refine wp_region_held_drew (S := fun _ => True) (by kernel_rfl) trivial (fun hSw => ?_)
      refine wpAnyH_take (i := 0) (oi := { dst := some 12, op := Go.Op.move (Go.Operand.tmp 0), type := 57, pos := "quote.go:37", after := #[], guard := none }) (v := ?_) rfl (by kernel_rfl) (by kernel_rfl) (by kernel_rfl) (fun _ _ _ h => h) (Or.inl ⟨by rfl, ?_⟩) hSw ?_
      rotate_left
      · (intro W hW; (try dsimp only at hW); go_simp; try with_reducible rfl)
      try simp only [Act.put, List.setIfInBounds_toArray, List.set_cons_zero, List.set_cons_succ]
      refine wpAnyH_take (i := 1) (oi := { dst := some 13, op := Go.Op.move (Go.Operand.tmp 1), type := 9, pos := "quote.go:37", after := #[], guard := none }) (v := ?_) rfl (by kernel_rfl) (by kernel_rfl) (by kernel_rfl) (fun _ _ _ h => h) (Or.inl ⟨by rfl, ?_⟩) hSw ?_
      rotate_left
      · (intro W hW; (try dsimp only at hW); go_simp; try with_reducible rfl)
      try simp only [Act.put, List.setIfInBounds_toArray, List.set_cons_zero, List.set_cons_succ]
      refine wpAnyH_take (i := 2) (oi := { dst := some 14, op := Go.Op.move (Go.Operand.tmp 5), type := 3, pos := "quote.go:37", after := #[], guard := none }) (v := ?_) rfl (by kernel_rfl) (by kernel_rfl) (by kernel_rfl) (fun _ _ _ h => h) (Or.inl ⟨by rfl, ?_⟩) hSw ?_
      rotate_left
      · (intro W hW; (try dsimp only at hW); go_simp; try with_reducible rfl)
      try simp only [Act.put, List.setIfInBounds_toArray, List.set_cons_zero, List.set_cons_succ]
      refine wpAnyH_take (i := 3) (oi := { dst := some 15, op := Go.Op.index 9 (Go.Operand.tmp 13) (Go.Operand.tmp 14), type := 5, pos := "quote.go:37", after := #[{ on := 1, ground := Go.Ground.data }, { on := 2, ground := Go.Ground.data }], guard := none }) (v := ?_) rfl (by kernel_rfl) (by kernel_rfl) (by kernel_rfl) (fun _ _ _ h => h) (Or.inl ⟨by rfl, ?_⟩) hSw ?_
      rotate_left
      · (intro W hW; (try dsimp only at hW); go_simp; try with_reducible rfl)
      try simp only [Act.put, List.setIfInBounds_toArray, List.set_cons_zero, List.set_cons_succ]
      refine wpAnyH_take (i := 4) (oi := { dst := some 16, op := Go.Op.binOp Go.BinOp.shr 5 (Go.Operand.tmp 15) (Go.Operand.const (Go.Value.int Go.IntKind.u64 4)) 79, type := 5, pos := "quote.go:37", after := #[{ on := 3, ground := Go.Ground.data }], guard := none }) (v := ?_) rfl (by kernel_rfl) (by kernel_rfl) (by kernel_rfl) (fun _ _ _ h => h) (Or.inl ⟨by rfl, ?_⟩) hSw ?_
      rotate_left
      · (intro W hW; (try dsimp only at hW); go_simp; try with_reducible rfl)
      try simp only [Act.put, List.setIfInBounds_toArray, List.set_cons_zero, List.set_cons_succ]
      refine wpAnyH_take (i := 5) (oi := { dst := some 17, op := Go.Op.index 9 (Go.Operand.const (Go.Value.string { data := #[48, 49, 50, 51, 52, 53, 54, 55, 56, 57, 97, 98, 99, 100, 101, 102] })) (Go.Operand.tmp 16), type := 5, pos := "quote.go:37", after := #[{ on := 4, ground := Go.Ground.data }], guard := none }) (v := ?_) rfl (by kernel_rfl) (by kernel_rfl) (by kernel_rfl) (fun _ _ _ h => h) (Or.inl ⟨by rfl, ?_⟩) hSw ?_
      rotate_left
      · (intro W hW; (try dsimp only at hW); go_simp; try with_reducible rfl)
      try simp only [Act.put, List.setIfInBounds_toArray, List.set_cons_zero, List.set_cons_succ]
      refine wpAnyH_take (i := 6) (oi := { dst := some 18, op := Go.Op.move (Go.Operand.tmp 1), type := 9, pos := "quote.go:37", after := #[], guard := none }) (v := ?_) rfl (by kernel_rfl) (by kernel_rfl) (by kernel_rfl) (fun _ _ _ h => h) (Or.inl ⟨by rfl, ?_⟩) hSw ?_
      rotate_left
      · (intro W hW; (try dsimp only at hW); go_simp; try with_reducible rfl)
      try simp only [Act.put, List.setIfInBounds_toArray, List.set_cons_zero, List.set_cons_succ]
      refine wpAnyH_take (i := 7) (oi := { dst := some 19, op := Go.Op.move (Go.Operand.tmp 5), type := 3, pos := "quote.go:37", after := #[], guard := none }) (v := ?_) rfl (by kernel_rfl) (by kernel_rfl) (by kernel_rfl) (fun _ _ _ h => h) (Or.inl ⟨by rfl, ?_⟩) hSw ?_
      rotate_left
      · (intro W hW; (try dsimp only at hW); go_simp; try with_reducible rfl)
      try simp only [Act.put, List.setIfInBounds_toArray, List.set_cons_zero, List.set_cons_succ]
      refine wpAnyH_take (i := 8) (oi := { dst := some 20, op := Go.Op.index 9 (Go.Operand.tmp 18) (Go.Operand.tmp 19), type := 5, pos := "quote.go:37", after := #[{ on := 6, ground := Go.Ground.data }, { on := 7, ground := Go.Ground.data }], guard := none }) (v := ?_) rfl (by kernel_rfl) (by kernel_rfl) (by kernel_rfl) (fun _ _ _ h => h) (Or.inl ⟨by rfl, ?_⟩) hSw ?_
      rotate_left
      · (intro W hW; (try dsimp only at hW); go_simp; try with_reducible rfl)
      try simp only [Act.put, List.setIfInBounds_toArray, List.set_cons_zero, List.set_cons_succ]
      refine wpAnyH_take (i := 9) (oi := { dst := some 21, op := Go.Op.binOp Go.BinOp.and 5 (Go.Operand.tmp 20) (Go.Operand.const (Go.Value.int Go.IntKind.u8 15)) 5, type := 5, pos := "quote.go:37", after := #[{ on := 8, ground := Go.Ground.data }], guard := none }) (v := ?_) rfl (by kernel_rfl) (by kernel_rfl) (by kernel_rfl) (fun _ _ _ h => h) (Or.inl ⟨by rfl, ?_⟩) hSw ?_
      rotate_left
      · (intro W hW; (try dsimp only at hW); go_simp; try with_reducible rfl)
      try simp only [Act.put, List.setIfInBounds_toArray, List.set_cons_zero, List.set_cons_succ]
      refine wpAnyH_take (i := 10) (oi := { dst := some 22, op := Go.Op.index 9 (Go.Operand.const (Go.Value.string { data := #[48, 49, 50, 51, 52, 53, 54, 55, 56, 57, 97, 98, 99, 100, 101, 102] })) (Go.Operand.tmp 21), type := 5, pos := "quote.go:37", after := #[{ on := 9, ground := Go.Ground.data }], guard := none }) (v := ?_) rfl (by kernel_rfl) (by kernel_rfl) (by kernel_rfl) (fun _ _ _ h => h) (Or.inl ⟨by rfl, ?_⟩) hSw ?_
      rotate_left
      · (intro W hW; (try dsimp only at hW); go_simp; try with_reducible rfl)
      try simp only [Act.put, List.setIfInBounds_toArray, List.set_cons_zero, List.set_cons_succ]
      refine wpAnyH_ready (rs := [11]) (by kernel_rfl) (by simp) ?_
      refine AllReadyH.cons (o := { dst := some 23, op := Go.Op.buildSlice 57 4 #[(0, Go.Operand.const (Go.Value.int Go.IntKind.u8 92)), (1, Go.Operand.const (Go.Value.int Go.IntKind.u8 120)), (2, Go.Operand.tmp 17), (3, Go.Operand.tmp 22)], type := 57, pos := "quote.go:37", after := #[{ on := 5, ground := Go.Ground.data }, { on := 10, ground := Go.Ground.data }], guard := none }) rfl (fun K hK => ?_) AllReadyH.nil
      rw [if_pos (by rfl)]
      go_simp
      refine hK.out _ _ trivial (fun hSw => ?_)
      clear hK
      try simp only [Act.put, List.setIfInBounds_toArray, List.set_cons_zero, List.set_cons_succ]
      refine wpAnyH_ready (rs := [12]) (by kernel_rfl) (by simp) ?_
      refine AllReadyH.cons (o := { dst := some 24, op := Go.Op.call { callee := Go.Callee.builtin Go.Builtin.append, args := #[Go.Operand.tmp 12, Go.Operand.tmp 23], argTypes := #[57, 57] }, type := 57, pos := "quote.go:37", after := #[{ on := 0, ground := Go.Ground.data }, { on := 11, ground := Go.Ground.data }], guard := none }) rfl (fun K hK => ?_) AllReadyH.nil
      rw [if_pos (by rfl)]
      refine wp_app (.tmp 12) (.tmp 23) 57 57 rfl base 5 (.int .u8 0) 1 1 infoU8 Tryd.underlying57 rfl (by decide) (.slice A m c) (.slice (some ⟨wr.heap.size, 0, none⟩) 4 4) m 4 (u8s ys) (u8s [92, 120, hx ((s[k]'hlt).toNat / 16), hx ((s[k]'hlt).toNat % 16)]) rfl rfl ?own ?src ?b1 ?b2 ?b3 ?_
      · (have h0 := HO.out.chg (((Chg.refl No wr).alloc (.cells #[.int .u8 92, .int .u8 120, .int .u8 (((⟨#[48, 49, 50, 51, 52, 53, 54, 55, 56, 57, 97, 98, 99, 100, 101, 102]⟩ : ByteArray)[(((s[k]'hlt).toNat : Int) / 16).toNat]'(by show _ < 16; omega)).toNat : Int), .int .u8 (((⟨#[48, 49, 50, 51, 52, 53, 54, 55, 56, 57, 97, 98, 99, 100, 101, 102]⟩ : ByteArray)[(((s[k]'hlt).toNat : Int) % 16).toNat]'(by show _ < 16; omega)).toNat : Int)] 5)).drew) (fun _ _ h => h); unfold OwnB at h0; rw [HL.out] at h0; exact h0)
      · exact Src.four Tryd.underlying57 _ _ _ _ _ (Chg.refl No _).drew (by rw [dig hu hq, dig2 hu hr]; rfl) (u8s_one _)
      · omega
      · unfold maxLen; omega
      · simp; omega
      intro v' w' hown hg
      refine hK.out _ _ trivial (fun hSw => ?_)
      clear hK
      try simp only [Act.put, List.setIfInBounds_toArray, List.set_cons_zero, List.set_cons_succ]
      refine wpAnyH_ready (rs := [13]) (by kernel_rfl) (by simp) ?_
      refine AllReadyH.cons (o := { dst := some 0, op := Go.Op.assign (Go.Operand.tmp 24), type := 57, pos := "quote.go:37", after := #[{ on := 12, ground := Go.Ground.data }, { on := 12, ground := Go.Ground.chain }, { on := 0, ground := Go.Ground.phase }, { on := 1, ground := Go.Ground.phase }, { on := 2, ground := Go.Ground.phase }, { on := 3, ground := Go.Ground.phase }, { on := 4, ground := Go.Ground.phase }, { on := 5, ground := Go.Ground.phase }, { on := 6, ground := Go.Ground.phase }, { on := 7, ground := Go.Ground.phase }, { on := 8, ground := Go.Ground.phase }, { on := 9, ground := Go.Ground.phase }, { on := 10, ground := Go.Ground.phase }, { on := 11, ground := Go.Ground.phase }, { on := 12, ground := Go.Ground.phase }], guard := none }) rfl (fun K hK => ?_) AllReadyH.nil
      rw [if_pos (by rfl)]
      go_simp
      refine hK.out _ _ trivial (fun hSw => ?_)
      clear hK
      try simp only [Act.put, List.setIfInBounds_toArray, List.set_cons_zero, List.set_cons_succ]
      refine wpAnyH_done (by kernel_rfl) ?_ _

      have hown' : OwnB w' base v' (ys ++ [92, 120, hx ((s[k]'hlt).toNat / 16), hx ((s[k]'hlt).toNat % 16)]) := .of hown (by rw [u8s_append])
      obtain ⟨A', c', hv', -, -⟩ := hown'.bytes.form
      subst hv'
      have HCN : Hid (Chg (Rows base w) w w') := Chg.rows ((HC.out.alloc _).drew) (HO.out.chg (((Chg.refl No wr).alloc _).drew) (fun _ _ h => h)) hg
      have hbz : base ≤ w'.heap.size := Nat.le_trans hb (Chg.ofGrown (S := fun _ => True) hg (fun _ _ => trivial) |> fun h => by have := h.size; simp at this; omega)
      have HOW := Lib.hid hown'
      clear hown hown' hg
      go_wp2
      go_roundw
      case rel =>
        refine ⟨k + 1, _, _, _, _, hlt, by go_num, rfl, ?_, ?_, rfl, HOW.out, hbz, HCN.out⟩
        · have := HL.out; have := HM.out; simp only [List.length_append, List.length_cons, List.length_nil]; omega
        · rw [Hid, HT.out, HY.out]; simp [hexs]
      case measure => simp [intOf]; omega
    · have hks : k = s.size := by omega
      have HT : Hid (s.data.toList.take k = s.data.toList) := by rw [Hid]; exact List.take_of_length_le (by rw [HS.out]; omega)
      clear hm
      go_wp2
      go_ret
      exact ⟨_, rfl, by rw [← HT.out, ← HY.out]; exact HO.out, HC.out⟩
end Go.Proofs.YtcomcoolmabmgaaDoor


namespace Go.Proofs.YtcomcoolmabmgaaDoor
set_option linter.unnecessarySimpa false
open Go.RowKit
set_option linter.unusedVariables false
set_option linter.unusedSimpArgs false

/-- How a piece is quoted. -/
def quoteP (p : Nat × Bool × List UInt8) : List UInt8 :=
  if p.1 = 34 ∨ p.1 = 92 then [92, UInt8.ofNat p.1]
  else if p.1 = 10 then [92, 110]
  else if p.2.1 = true ∨ ctl p.1 = true then hexs p.2.2
  else p.2.2
def quoteF (l : List UInt8) : List UInt8 := [34] ++ (pcs l).flatMap quoteP ++ [34]

theorem hexs_len (bs : List UInt8) : (hexs bs).length = 4 * bs.length := by
  induction bs with
  | nil => rfl
  | cons a t ih => simp only [hexs, List.flatMap_cons, List.length_append, List.length_cons, List.length_nil] at *; omega
theorem quoteP_len (p : Nat × Bool × List UInt8) (h : 1 ≤ p.2.2.length) : (quoteP p).length ≤ 4 * p.2.2.length := by
  unfold quoteP
  split
  · simp; omega
  · split
    · simp; omega
    · split
      · rw [hexs_len]; exact Nat.le_refl _
      · omega

theorem OwnB.iterAt {w : World} {base k : Nat} {v : Value} {xs : List UInt8} {s : ByteArray} {pos : Nat} (h : OwnB w base v xs) (hk : w.heap[k]? = some (.stringIter s pos)) (pos' : Nat) : OwnB (w.iterAt k s pos') base v xs :=
  h.chg (Chg.iterOne w k s pos') (fun b hb hx => by
    obtain ⟨c, fz, hc⟩ := h.cells b hb
    have hx : b = k := hx
    subst hx
    rw [hk] at hc
    cases hc)
/-- What is left of a row and of an iterator behind an append. -/
theorem app_left {w wn w1 w' : World} {base k : Nat} {v : Value} {xs : List UInt8} {s : ByteArray} {pos : Nat} (hb : w.heap.size ≤ base) (h0 : Chg No w wn) (hk : wn.heap[k]? = some (.stringIter s pos)) (ho : OwnB wn base v xs) (h1 : Chg No wn w1) (hg : w1.grownBy w' v.ownBlock) :
    Chg No w w' ∧ w'.heap[k]? = some (.stringIter s pos) ∧ wn.heap.size ≤ w'.heap.size := by
  have hc := Chg.rows (base := base) (a := wn) (h1.mono (fun _ _ x => x.elim)) (ho.chg h1 (fun _ _ x => x)) hg
  exact ⟨Chg.rowsNew h0 hc hb, hc.iter hk, hc.size⟩

set_option maxRecDepth 100000 in
set_option maxHeartbeats 3200000 in
theorem quote_calls (w : World) (s : ByteArray) (hs : s.size ≤ 35184372088000) :
    Calls Tryd.prog 19 #[.string s] w fun e w' => e = .returned (.string (mkS (quoteF s.data.toList))) ∧ Chg No w w' := by
  have HS := Lib.hid (size_list s)
  have own0 : Hid (OwnB ((w.alloc (.cells #[.int .u8 34] 5)).iter s 0) w.heap.size (.slice (some ⟨w.heap.size, 0, none⟩) 1 1) [34]) :=
    OwnB.chg (S := No) (OwnB.lit w [34] (by decide)) ((Chg.refl No _).alloc _) (fun _ _ x => x)
  have hit0 : Hid (((w.alloc (.cells #[.int .u8 34] 5)).iter s 0).heap[w.heap.size + 1]? = some (.stringIter s 0)) := by
    have := World.iter_heap (w.alloc (.cells #[.int .u8 34] 5)) s 0
    simpa [Hid] using this
  go_enter Tryd.func19, Tryd.ntmps19
  go_wp2
  go_loopw [3] (fun v wr => ∃ (pos : Nat) (A : Option Addr) (n c : Nat) (ys : List UInt8), pos ≤ s.size ∧ v = .slice A n c ∧ n ≤ 1 + 4 * pos ∧ Hid (wr.heap[w.heap.size + 1]? = some (.stringIter s pos)) ∧ Hid (quoteF s.data.toList = ys ++ ((pcs (s.data.toList.drop pos)).flatMap quoteP ++ [34])) ∧ Hid (ys.length = n) ∧ Hid (OwnB wr w.heap.size (.slice A n c) ys) ∧ w.heap.size ≤ wr.heap.size ∧ Hid (Chg No w wr)) (fun _ wr => s.size - wr.iterPos (w.heap.size + 1))
  case atStart => exact ⟨0, _, 1, 1, [34], Nat.zero_le _, rfl, by omega, hit0.out, by simp [Hid, quoteF], rfl, own0.out, (((Chg.refl No w).alloc (.cells #[.int .u8 34] 5)).alloc (.stringIter s 0)).size, ((Chg.refl No w).alloc _).alloc _⟩
  case round =>
    clear own0 hit0
    obtain ⟨pos, A, n, c, ys, hpos, rfl, hn4, HI, HQ, HL, HO, hsz, HC⟩ := hrel
    by_cases hp : pos < s.size
    · have hl := drop_ne hp
      obtain ⟨f1, f2, f3⟩ := decL_facts _ hl
      have HPC := Lib.hid (pcs_cons _ hl)
      have HEN := Lib.hid (enc_piece _ hl)
      have HONE := Lib.hid (brk_one (s.data.toList.drop pos))
      have hnx := fun ty => Lib.run_next_any_at (P := Tryd.prog) wr (w.heap.size + 1) s pos ty HI.out hp
      rw [decode_drop] at hnx
      have HCT : Hid (∀ w1, Calls Tryd.prog 42 #[.int .i32 (((decL (s.data.toList.drop pos)).1 : Nat) : Int)] w1 fun e w' => e = .returned (.bool (ctl (decL (s.data.toList.drop pos)).1)) ∧ w1 = w') := fun w1 => control_calls w1 _
      have HBR : Hid (∀ w1, Calls Tryd.prog 40 #[.string s, .int .i64 (pos : Int), .int .i32 (((decL (s.data.toList.drop pos)).1 : Nat) : Int)] w1 fun e w' => e = .returned (.bool (brk (s.data.toList.drop pos))) ∧ w1 = w') := fun w1 => broken_calls w1 s (by omega) pos hpos
      rw [List.length_drop, HS.out] at f2
      rw [List.drop_drop] at HPC
      have HTL : Hid (((s.data.toList.drop pos).take (decL (s.data.toList.drop pos)).2).length = (decL (s.data.toList.drop pos)).2) := by
        rw [Hid, List.length_take, List.length_drop, HS.out]; omega
      have HT1 : Hid (((s.extract pos (pos + 1)).data.toList) = (s.data.toList.drop pos).take 1) := by
        rw [Hid, ByteArray.data_extract, Array.toList_extract, List.extract_eq_take_drop]
        congr 1
        omega
      generalize decL (s.data.toList.drop pos) = D at *
      obtain ⟨r, k⟩ := D
      simp only at f1 f2 f3 hnx HCT HBR HPC HEN HTL HONE
      have HC1 : Hid (Chg No w (wr.iterAt (w.heap.size + 1) s (pos + k))) := Chg.iterAt HC.out (by omega) _ _
      have HI1 : Hid ((wr.iterAt (w.heap.size + 1) s (pos + k)).heap[w.heap.size + 1]? = some (.stringIter s (pos + k))) := Lib.iterAt_heap wr (w.heap.size + 1) s pos (pos + k) HI.out
      have HO1 : Hid (OwnB (wr.iterAt (w.heap.size + 1) s (pos + k)) w.heap.size (.slice A n c) ys) := HO.out.iterAt HI.out _
      have hsz1 : w.heap.size ≤ (wr.iterAt (w.heap.size + 1) s (pos + k)).heap.size := by rw [Lib.iterAt_size]; exact hsz
      have hip : wr.iterPos (w.heap.size + 1) = pos := iterPos_of HI.out
      generalize brk (s.data.toList.drop pos) = bk at *
      generalize hbs : (s.data.toList.drop pos).take k = bs at *
      have HBS := Lib.hid hbs
      clear hl hbs
      generalize wr.iterAt (w.heap.size + 1) s (pos + k) = wn at *
      have HCL : Hid (∀ (w' : World) (v' : Value) (news : List UInt8), quoteP (r, bk, bs) = news → OwnB w' w.heap.size v' (ys ++ news) → Chg No w w' → w'.heap[w.heap.size + 1]? = some (.stringIter s (pos + k)) → wn.heap.size ≤ w'.heap.size →
          (∃ (pos : Nat) (A : Option Addr) (n c : Nat) (ys : List UInt8), pos ≤ s.size ∧ v' = .slice A n c ∧ n ≤ 1 + 4 * pos ∧ Hid (w'.heap[w.heap.size + 1]? = some (.stringIter s pos)) ∧ Hid (quoteF s.data.toList = ys ++ ((pcs (s.data.toList.drop pos)).flatMap quoteP ++ [34])) ∧ Hid (ys.length = n) ∧ Hid (OwnB w' w.heap.size (.slice A n c) ys) ∧ w.heap.size ≤ w'.heap.size ∧ Hid (Chg No w w')) ∧ s.size - w'.iterPos (w.heap.size + 1) < s.size - wr.iterPos (w.heap.size + 1)) := by
        intro w' v' news hq ho hc hi hz
        obtain ⟨A', c', rfl, -, -⟩ := ho.bytes.form
        have hlen := quoteP_len (r, bk, bs) (by show 1 ≤ bs.length; rw [HTL.out]; exact f1)
        rw [hq] at hlen
        have hlen : news.length ≤ 4 * k := by rw [← HTL.out]; exact hlen
        refine ⟨⟨pos + k, A', _, c', ys ++ news, by omega, rfl, ?_, hi, ?_, rfl, ho, by omega, hc⟩, ?_⟩
        · have := HL.out; rw [List.length_append]; omega
        · rw [Hid, HQ.out, HPC.out, List.flatMap_cons, hq]; simp
        · rw [hip, iterPos_of hi]; omega
      by_cases h34 : r = 34
      · subst h34
        go_wp2_with (first | (go_at_call 42; refine (HCT.out _).mono ?_; rintro e w' ⟨rfl, rfl⟩) | (go_at_call 40; refine (HBR.out _).mono ?_; rintro e w' ⟨rfl, rfl⟩) | (at_builtin; (refine wpList_app _ rfl (.tmp 24) (.tmp 27) 57 57 rfl w.heap.size 5 (.int .u8 0) 1 1 infoU8 Tryd.underlying57 rfl (by decide) (.slice A n c) (.slice (some ⟨wn.heap.size, 0, none⟩) 2 2) n 2 (u8s ys) (u8s [92, 34]) rfl rfl ?own ?src ?b1 ?b2 ?b3 ?_; (case own => exact OwnB.n (HO1.out.alloc _) HL.out); (case src => exact Src.two Tryd.underlying57 _ _ _ (Chg.refl No _) rfl (u8s_one _)); (case b1 => omega); (case b2 => unfold maxLen; omega); (case b3 => simp; omega); intro v' w' hown hg; refine Hid.out ?_)))
        refine Lib.hid ?_
        obtain ⟨a1, a2, a3⟩ := app_left (Nat.le_refl _) HC1.out HI1.out HO1.out ((Chg.refl No wn).alloc _) hg
        have HX := Lib.hid (HCL.out w' v' [92, 34] (by simp [quoteP]) (.of hown (by rw [u8s_append])) a1 a2 a3)
        clear hown hg a1 a2 a3
        go_wp2
        go_roundw
        case rel => exact HX.out.1
        case measure => exact HX.out.2
      · have hb34 : ((r : Int) == 34) = false := by simp; omega
        by_cases h92 : r = 92
        · subst h92
          go_wp2_with (first | (go_at_call 42; refine (HCT.out _).mono ?_; rintro e w' ⟨rfl, rfl⟩) | (go_at_call 40; refine (HBR.out _).mono ?_; rintro e w' ⟨rfl, rfl⟩) | (at_builtin; (refine wpList_app _ rfl (.tmp 24) (.tmp 27) 57 57 rfl w.heap.size 5 (.int .u8 0) 1 1 infoU8 Tryd.underlying57 rfl (by decide) (.slice A n c) (.slice (some ⟨wn.heap.size, 0, none⟩) 2 2) n 2 (u8s ys) (u8s [92, 92]) rfl rfl ?own ?src ?b1 ?b2 ?b3 ?_; (case own => exact OwnB.n (HO1.out.alloc _) HL.out); (case src => exact Src.two Tryd.underlying57 _ _ _ (Chg.refl No _) rfl (u8s_one _)); (case b1 => omega); (case b2 => unfold maxLen; omega); (case b3 => simp; omega); intro v' w' hown hg; refine Hid.out ?_)))
          refine Lib.hid ?_
          obtain ⟨a1, a2, a3⟩ := app_left (Nat.le_refl _) HC1.out HI1.out HO1.out ((Chg.refl No wn).alloc _) hg
          have HX := Lib.hid (HCL.out w' v' [92, 92] (by simp [quoteP]) (.of hown (by rw [u8s_append])) a1 a2 a3)
          clear hown hg a1 a2 a3
          go_wp2
          go_roundw
          case rel => exact HX.out.1
          case measure => exact HX.out.2
        · have hb92 : ((r : Int) == 92) = false := by simp; omega
          by_cases h10 : r = 10
          · subst h10
            go_wp2_with (first | (go_at_call 42; refine (HCT.out _).mono ?_; rintro e w' ⟨rfl, rfl⟩) | (go_at_call 40; refine (HBR.out _).mono ?_; rintro e w' ⟨rfl, rfl⟩) | (at_builtin; (refine wpList_app _ rfl (.tmp 32) (.tmp 33) 57 57 rfl w.heap.size 5 (.int .u8 0) 1 1 infoU8 Tryd.underlying57 rfl (by decide) (.slice A n c) (.slice (some ⟨wn.heap.size, 0, none⟩) 2 2) n 2 (u8s ys) (u8s [92, 110]) rfl rfl ?own ?src ?b1 ?b2 ?b3 ?_; (case own => exact OwnB.n (HO1.out.alloc _) HL.out); (case src => exact Src.two Tryd.underlying57 _ _ _ (Chg.refl No _) rfl (u8s_one _)); (case b1 => omega); (case b2 => unfold maxLen; omega); (case b3 => simp; omega); intro v' w' hown hg; refine Hid.out ?_)))
            refine Lib.hid ?_
            obtain ⟨a1, a2, a3⟩ := app_left (Nat.le_refl _) HC1.out HI1.out HO1.out ((Chg.refl No wn).alloc _) hg
            have HX := Lib.hid (HCL.out w' v' [92, 110] (by simp [quoteP]) (.of hown (by rw [u8s_append])) a1 a2 a3)
            clear hown hg a1 a2 a3
            go_wp2
            go_roundw
            case rel => exact HX.out.1
            case measure => exact HX.out.2
          · have hb10 : ((r : Int) == 10) = false := by simp; omega
            cases bk with
            | true =>
              have h1 : k = 1 := by have := HONE.out rfl; simp only [Prod.mk.injEq] at this; exact this.2
              have HK := Lib.hid h1
              clear h1
              have hes : (s.extract pos (pos + 1)).size ≤ 1 := by rw [← size_list, HT1.out, List.length_take]; omega
              have hpi : (pos : Int) + 1 ≤ (s.size : Int) := by omega
              have HNW : Hid (quoteP (r, true, bs) = hexs (s.extract pos (pos + 1)).data.toList) := by
                rw [Hid, HT1.out, ← HK.out, HBS.out]
                simp [quoteP, h34, h92, h10]
              clear h34 h92 h10
              go_wp2_with (first | (go_at_call 42; refine (HCT.out _).mono ?_; rintro e w' ⟨rfl, rfl⟩) | (go_at_call 40; refine (HBR.out _).mono ?_; rintro e w' ⟨rfl, rfl⟩) | (go_at_call 41; refine Hid.out ?_))
              refine Lib.hid ?_
              refine (byhex_calls _ w.heap.size A n c ys HO1.out HL.out hsz1 (s.extract pos (pos + 1)) (by omega)).mono ?_
              rintro e w' ⟨v', rfl, ho, hc⟩
              have HX := Lib.hid (HCL.out w' v' _ HNW.out ho (Chg.rowsNew HC1.out hc (Nat.le_refl _)) (hc.iter HI1.out) hc.size)
              clear ho hc
              go_wp2
              go_roundw
              case rel => exact HX.out.1
              case measure => exact HX.out.2
            | false =>
              have hE : Utf8.encode (r : Int) = mkS bs := HEN.out rfl
              have hm1 : (mkS bs).size ≤ k := by rw [mkS_size, HTL.out]; exact Nat.le_refl _
              generalize hct : ctl r = ct at *
              have HCTR := Lib.hid hct
              clear hct
              cases ct with
              | true =>
                have HNW : Hid (quoteP (r, false, bs) = hexs (mkS bs).data.toList) := by
                  rw [Hid, mkS_list]
                  simp [quoteP, h34, h92, h10, HCTR.out]
                clear h34 h92 h10
                go_wp2_with (first | (go_at_call 42; refine (HCT.out _).mono ?_; rintro e w' ⟨rfl, rfl⟩) | (go_at_call 40; refine (HBR.out _).mono ?_; rintro e w' ⟨rfl, rfl⟩) | (go_at_call 41; refine Hid.out ?_))
                refine Lib.hid ?_
                refine (byhex_calls _ w.heap.size A n c ys HO1.out HL.out hsz1 (mkS bs) (by omega)).mono ?_
                rintro e w' ⟨v', rfl, ho, hc⟩
                have HX := Lib.hid (HCL.out w' v' _ HNW.out ho (Chg.rowsNew HC1.out hc (Nat.le_refl _)) (hc.iter HI1.out) hc.size)
                clear ho hc
                go_wp2
                go_roundw
                case rel => exact HX.out.1
                case measure => exact HX.out.2
              | false =>
                have HNW : Hid (quoteP (r, false, bs) = (mkS bs).data.toList) := by
                  rw [Hid, mkS_list]
                  simp [quoteP, h34, h92, h10, HCTR.out]
                clear h34 h92 h10
                go_wp2_with (first | (go_at_call 42; refine (HCT.out _).mono ?_; rintro e w' ⟨rfl, rfl⟩) | (go_at_call 40; refine (HBR.out _).mono ?_; rintro e w' ⟨rfl, rfl⟩) | (at_builtin; (refine wpList_app _ rfl (.tmp 13) (.tmp 15) 57 9 rfl w.heap.size 5 (.int .u8 0) 1 1 infoU8 Tryd.underlying57 rfl (by decide) (.slice A n c) (.string (mkS bs)) n (mkS bs).size (u8s ys) (u8s (mkS bs).data.toList) rfl rfl ?own ?src ?b1 ?b2 ?b3 ?_; (case own => exact OwnB.n HO1.out HL.out); (case src => exact Src.ofText Tryd.underlying9 (mkS bs)); (case b1 => omega); (case b2 => unfold maxLen; omega); (case b3 => omega); intro v' w' hown hg; refine Hid.out ?_)))
                refine Lib.hid ?_
                obtain ⟨a1, a2, a3⟩ := app_left (Nat.le_refl _) HC1.out HI1.out HO1.out (Chg.refl No wn) hg
                have HX := Lib.hid (HCL.out w' v' _ HNW.out (.of hown (by rw [u8s_append])) a1 a2 a3)
                clear hown hg a1 a2 a3
                go_wp2
                go_roundw
                case rel => exact HX.out.1
                case measure => exact HX.out.2
    · have hnx := fun ty => Lib.run_next_end_at (P := Tryd.prog) wr (w.heap.size + 1) s pos ty HI.out hp
      have HE : Hid (s.data.toList.drop pos = []) := by rw [Hid]; exact List.drop_of_length_le (by rw [HS.out]; omega)
      have hn : n ≤ 1 + 4 * s.size := by omega
      go_wp2_with (at_builtin; (refine wpList_app _ rfl (.tmp 54) (.tmp 55) 57 57 rfl w.heap.size 5 (.int .u8 0) 1 1 infoU8 Tryd.underlying57 rfl (by decide) (.slice A n c) (.slice (some ⟨wr.heap.size, 0, none⟩) 1 1) n 1 (u8s ys) [.int .u8 34] rfl rfl ?own ?src ?b1 ?b2 ?b3 ?_; (case own => exact OwnB.n (HO.out.alloc _) HL.out); (case src => exact Src.one Tryd.underlying57 _ rfl); (case b1 => omega); (case b2 => unfold maxLen; omega); (case b3 => simp; omega); intro v' w' hown hg; refine Hid.out ?_))
      refine Lib.hid ?_
      have hown' : OwnB w' w.heap.size v' (ys ++ [34]) := .of hown (by rw [u8s_append]; rfl)
      obtain ⟨A', n', c', rfl, HL', HO'⟩ := hown'.form
      have hcv := HO'.out.bytes.text (P := Tryd.prog) Tryd.underlying57 Tryd.underlying5 Tryd.underlying9
      have HCW : Hid (Chg No w w') := (HC.out.alloc _).grown hg (fun k hk => .inl (HO.out.block k hk).1)
      clear hown hown' hg
      go_wp2
      go_ret
      exact ⟨by rw [HQ.out, HE.out]; rfl, HCW.out⟩
end Go.Proofs.YtcomcoolmabmgaaDoor

namespace Go.Proofs.YtcomcoolmabmgaaDoor
set_option linter.unnecessarySimpa false
open Go.RowKit
set_option linter.unusedVariables false
set_option linter.unusedSimpArgs false

set_option maxHeartbeats 400000 in
theorem rcontrol_calls (w : World) (r : Nat) : Calls Tryd.prog 65 #[.int .i32 (r : Int)] w fun e w' => e = .returned (.bool (ctl r)) ∧ w = w' := by
  by_cases h1 : r < 32
  · have HU : Hid (ctl r = true) := by simp [Hid, ctl, h1]
    go_enter Tryd.func65, Tryd.ntmps65
    go_wp2
    go_ret
    exact ⟨by rw [HU.out]; first | rfl | (simp; done) | (simp; omega), rfl⟩
  · by_cases h2 : 127 ≤ r
    · by_cases h3 : r < 160
      · have HU : Hid (ctl r = true) := by simp [Hid, ctl, h2]; omega
        go_enter Tryd.func65, Tryd.ntmps65
        go_wp2
        go_ret
        exact ⟨by rw [HU.out]; first | rfl | (simp; done) | (simp; omega), rfl⟩
      · have HU : Hid (ctl r = false) := by simp [Hid, ctl]; omega
        go_enter Tryd.func65, Tryd.ntmps65
        go_wp2
        go_ret
        exact ⟨by rw [HU.out]; first | rfl | (simp; done) | (simp; omega), rfl⟩
    · have HU : Hid (ctl r = false) := by simp [Hid, ctl]; omega
      go_enter Tryd.func65, Tryd.ntmps65
      go_wp2
      go_ret
      exact ⟨by rw [HU.out]; first | rfl | (simp; done) | (simp; omega), rfl⟩

theorem hx_toNat (q : Nat) (h : q < 16) : ((hx q).toNat : Int) = if q < 10 then (48 + q : Int) else (87 + q : Int) := by
  unfold hx
  split <;> simp <;> omega
set_option maxHeartbeats 400000 in
theorem rhex_calls (w : World) (q : Nat) (h : q < 16) : Calls Tryd.prog 69 #[.int .u8 (q : Int)] w fun e w' => e = .returned (.int .u8 ((hx q).toNat : Int)) ∧ w = w' := by
  have HU := Lib.hid (hx_toNat q h)
  by_cases h1 : q < 10
  · go_enter Tryd.func69, Tryd.ntmps69
    go_wp2
    go_ret
    exact ⟨by rw [HU.out, if_pos h1]; first | rfl | (simp; done) | (simp; omega), rfl⟩
  · go_enter Tryd.func69, Tryd.ntmps69
    go_wp2
    go_ret
    exact ⟨by rw [HU.out, if_neg h1]; first | rfl | (simp; done) | (simp; omega), rfl⟩
end Go.Proofs.YtcomcoolmabmgaaDoor

namespace Go.Proofs.YtcomcoolmabmgaaDoor
set_option linter.unnecessarySimpa false
open Go.RowKit
set_option linter.unusedVariables false
set_option linter.unusedSimpArgs false

set_option maxRecDepth 100000 in
set_option maxHeartbeats 1600000 in
theorem piece_calls (w : World) (s : ByteArray) (hs : s.size ≤ 9223372036854775000) (pos : Nat) (hp : pos < s.size) :
    Calls Tryd.prog 64 #[.string s, .int .i64 (pos : Int)] w fun e w' => e = .returned (.tuple #[.int .i64 ((decL (s.data.toList.drop pos)).2 : Int), .bool (brk (s.data.toList.drop pos)), .int .i32 ((decL (s.data.toList.drop pos)).1 : Int)]) ∧ Chg No w w' := by
  have hl := drop_ne hp
  obtain ⟨f1, f2, f3⟩ := decL_facts _ hl
  have HEN := Lib.hid (enc_piece _ hl)
  have HONE := Lib.hid (brk_one (s.data.toList.drop pos))
  have hxl := extract_list s pos
  have hx0 : 0 < (s.extract pos s.size).size := by rw [← size_list, hxl, List.length_drop, size_list]; omega
  have hx3 := ext3_list s pos
  have hb3 : ((s.extract pos (pos + 3)).toList == [239, 191, 189]) = ([239, 191, 189] : List UInt8).isPrefixOf (s.data.toList.drop pos) := by rw [hx3, take3_pre]
  have HTL : Hid (((s.data.toList.drop pos).take (decL (s.data.toList.drop pos)).2).length = (decL (s.data.toList.drop pos)).2) := by
    rw [Hid, List.length_take]; omega
  have hpre : ([239, 191, 189] : List UInt8).isPrefixOf (s.data.toList.drop pos) = true → 3 ≤ s.size - pos ∧ decL (s.data.toList.drop pos) = (65533, 3) := by
    intro h
    refine ⟨?_, pre_fffd h⟩
    have := (List.isPrefixOf_iff_prefix.1 h).length_le
    rw [List.length_drop, size_list] at this
    simpa using this
  have hnx := fun ty => Lib.run_next_any_at (P := Tryd.prog) (w.iter (s.extract pos s.size) 0) w.heap.size (s.extract pos s.size) 0 ty (World.iter_heap _ _ _) hx0
  rw [decode_drop, hxl, List.drop_zero] at hnx
  have hpi : (pos : Int) ≤ (s.size : Int) := by omega
  have HCH : Hid (∀ p, Chg No w ((w.iter (s.extract pos s.size) 0).iterAt w.heap.size (s.extract pos s.size) p)) := fun p => Chg.iterAt ((Chg.refl No w).alloc _) (Nat.le_refl _) _ _
  have hbk : brk (s.data.toList.drop pos) = ((decL (s.data.toList.drop pos)).1 == 0xFFFD && !([239, 191, 189] : List UInt8).isPrefixOf (s.data.toList.drop pos)) := rfl
  generalize hpp : ([239, 191, 189] : List UInt8).isPrefixOf (s.data.toList.drop pos) = pp at *
  generalize brk (s.data.toList.drop pos) = bk at *
  generalize (s.data.toList.drop pos).take (decL (s.data.toList.drop pos)).2 = bs at *
  generalize decL (s.data.toList.drop pos) = D at *
  obtain ⟨r, k⟩ := D
  simp only at f1 f2 f3 hnx HEN HONE HTL hbk hpre
  clear hl hxl hx3 hpp
  by_cases hr : r = 65533
  · subst hr
    cases pp with
    | true =>
      obtain ⟨h3, h4⟩ := hpre rfl
      have h5 : k = 3 := by simpa using h4
      subst h5
      have hbk' : bk = false := by rw [hbk]; rfl
      subst hbk'
      have h3' : (3 : Int) ≤ (s.size : Int) - (pos : Int) := by omega
      have h3'' : (pos : Int) + 3 ≤ (s.size : Int) := by omega
      clear hpre h4 hbk
      go_enter Tryd.func64, Tryd.ntmps64
      go_wp2
      go_loopw [] (fun wr => wr = w.iter (s.extract pos s.size) 0) (fun wr => 0)
      case atStart => rfl
      case round =>
        subst hrel
        go_wp2
        go_ret3
        exact ⟨rfl, HCH.out _⟩
    | false =>
      have hbk' : bk = true := by rw [hbk]; rfl
      subst hbk'
      have h4 := HONE.out rfl
      have h5 : k = 1 := by simpa using h4
      subst h5
      clear hpre h4 hbk HONE HEN
      by_cases h3 : 3 ≤ s.size - pos
      · have h3' : (3 : Int) ≤ (s.size : Int) - (pos : Int) := by omega
        have h3'' : (pos : Int) + 3 ≤ (s.size : Int) := by omega
        go_enter Tryd.func64, Tryd.ntmps64
        go_wp2
        go_loopw [] (fun wr => wr = w.iter (s.extract pos s.size) 0) (fun wr => 0)
        case atStart => rfl
        case round =>
          subst hrel
          go_wp2
          go_ret3
          exact ⟨rfl, HCH.out _⟩
      · have h3' : (s.size : Int) - (pos : Int) < 3 := by omega
        go_enter Tryd.func64, Tryd.ntmps64
        go_wp2
        go_loopw [] (fun wr => wr = w.iter (s.extract pos s.size) 0) (fun wr => 0)
        case atStart => rfl
        case round =>
          subst hrel
          go_wp2
          go_ret3
          exact ⟨rfl, HCH.out _⟩
  · have hbk' : bk = false := by rw [hbk]; simp [hr]
    subst hbk'
    have hE : Utf8.encode (r : Int) = mkS bs := HEN.out rfl
    have hr' : ((r : Int) == 65533) = false := by simp; omega
    clear hpre hbk HONE HEN hr
    go_enter Tryd.func64, Tryd.ntmps64
    go_wp2
    go_loopw [] (fun wr => wr = w.iter (s.extract pos s.size) 0) (fun wr => 0)
    case atStart => rfl
    case round =>
      subst hrel
      go_wp2
      go_ret3
      exact ⟨by rw [← HTL.out, ← mkS_size]; rfl, HCH.out _⟩
end Go.Proofs.YtcomcoolmabmgaaDoor

namespace Go.Proofs.YtcomcoolmabmgaaDoor
set_option linter.unnecessarySimpa false
open Go.RowKit
set_option linter.unusedVariables false
set_option linter.unusedSimpArgs false

set_option maxRecDepth 100000 in
set_option maxHeartbeats 1600000 in
theorem rplain_calls (w : World) (s : ByteArray) (hs : s.size ≤ 9223372036854770000) :
    Calls Tryd.prog 48 #[.string s] w fun e w' => e = .returned (.bool (plainF s.data.toList)) ∧ Chg No w w' := by
  have hsl := size_list s
  by_cases h0 : s.size = 0
  · have : s = ⟨#[]⟩ := by
      obtain ⟨⟨l⟩⟩ := s
      cases l with
      | nil => rfl
      | cons a t => simp [ByteArray.size] at h0
    subst this
    clear h0 hsl hs
    go_enter Tryd.func48, Tryd.ntmps48
    go_wp2
    go_ret
    exact ⟨rfl, Chg.refl _ _⟩
  · have i0 : (0 : Int) < (s.size : Int) := by omega
    have hz0 : ((s.size : Int) == 0) = false := by rw [beq_eq_false_iff_ne]; omega
    have hlt : 0 < s.size := by omega
    have HS := Lib.hid hsl
    have HP : Hid (plainF s.data.toList = (s[0]'hlt != 35 && (pcs s.data.toList).all fun p => !badP p)) := by
      obtain ⟨⟨l⟩⟩ := s
      cases l with
      | nil => simp [ByteArray.size] at h0
      | cons a t => rfl
    by_cases h35 : s[0]'hlt = 35
    · have hb : (((s[0]'hlt).toNat : Int) == 35) = true := by rw [h35]; rfl
      have HU : Hid (plainF s.data.toList = false) := by rw [Hid, HP.out, h35]; rfl
      clear HP hsl h35
      go_enter Tryd.func48, Tryd.ntmps48
      go_wp2
      go_ret
      exact ⟨by rw [HU.out]; rfl, Chg.refl _ _⟩
    · have hb : (((s[0]'hlt).toNat : Int) == 35) = false := by
        rw [beq_eq_false_iff_ne]
        intro h
        exact h35 (UInt8.toNat_inj.1 (by show _ = 35; omega))
      have HU : Hid (plainF s.data.toList = (pcs s.data.toList).all fun p => !badP p) := by
        rw [Hid, HP.out]
        have : (s[0]'hlt != 35) = true := by simpa using h35
        rw [this, Bool.true_and]
      clear HP hsl h35
      go_enter Tryd.func48, Tryd.ntmps48
      go_wp2
      go_loopw [3] (fun a wr => ∃ pos : Nat, pos ≤ s.size ∧ a = .int .i64 (pos : Int) ∧ Hid (plainF s.data.toList = (pcs (s.data.toList.drop pos)).all fun p => !badP p) ∧ Hid (Chg No w wr)) (fun a _ => s.size - (intOf a).toNat)
      case atStart => exact ⟨0, Nat.zero_le _, rfl, HU.out, Chg.refl No w⟩
      case round =>
        obtain ⟨pos, hpos, rfl, HU2, HC⟩ := hrel
        by_cases hp : pos < s.size
        · have hl := drop_ne hp
          obtain ⟨f1, f2, f3⟩ := decL_facts _ hl
          have HPC := Lib.hid (pcs_cons _ hl)
          have HPI : Hid (∀ w1, Calls Tryd.prog 64 #[.string s, .int .i64 (pos : Int)] w1 fun e w' => e = .returned (.tuple #[.int .i64 ((decL (s.data.toList.drop pos)).2 : Int), .bool (brk (s.data.toList.drop pos)), .int .i32 ((decL (s.data.toList.drop pos)).1 : Int)]) ∧ Chg No w1 w') := fun w1 => piece_calls w1 s (by omega) pos hp
          have HCT : Hid (∀ w1, Calls Tryd.prog 65 #[.int .i32 (((decL (s.data.toList.drop pos)).1 : Nat) : Int)] w1 fun e w' => e = .returned (.bool (ctl (decL (s.data.toList.drop pos)).1)) ∧ w1 = w') := fun w1 => rcontrol_calls w1 _
          rw [List.length_drop, HS.out] at f2
          rw [List.drop_drop] at HPC
          generalize decL (s.data.toList.drop pos) = D at *
          obtain ⟨r, k⟩ := D
          simp only at f1 f2 f3 HPI HCT HPC
          generalize brk (s.data.toList.drop pos) = bk at *
          generalize (s.data.toList.drop pos).take k = bs at *
          clear hl
          generalize hct : ctl r = ct at *
          have HCTR := Lib.hid hct
          clear hct
          cases bk with
          | true =>
            go_wp2_with fail
            refine (HPI.out _).mono ?_
            rintro e w' ⟨rfl, hc⟩
            have HC1 : Hid (Chg No w w') := HC.out.no hc
            clear hc
            go_wp2_with (go_at_call 65; refine (HCT.out _).mono ?_; rintro e w' ⟨rfl, rfl⟩)
            go_ret
            exact ⟨by rw [HU2.out, HPC.out]; simp [badP, HCTR.out], HC1.out⟩
          | false =>
            cases ct with
            | true =>
              go_wp2_with fail
              refine (HPI.out _).mono ?_
              rintro e w' ⟨rfl, hc⟩
              have HC1 : Hid (Chg No w w') := HC.out.no hc
              clear hc
              go_wp2_with (go_at_call 65; refine (HCT.out _).mono ?_; rintro e w' ⟨rfl, rfl⟩)
              go_ret
              exact ⟨by rw [HU2.out, HPC.out]; simp [badP, HCTR.out], HC1.out⟩
            | false =>
              by_cases h32 : r = 32
              · have hb : ((r : Int) == 32) = true := by rw [h32]; rfl
                have H32 := Lib.hid h32
                clear h32
                go_wp2_with fail
                refine (HPI.out _).mono ?_
                rintro e w' ⟨rfl, hc⟩
                have HC1 : Hid (Chg No w w') := HC.out.no hc
                clear hc
                go_wp2_with (go_at_call 65; refine (HCT.out _).mono ?_; rintro e w' ⟨rfl, rfl⟩)
                go_ret
                exact ⟨by rw [HU2.out, HPC.out]; simp [badP, H32.out], HC1.out⟩
              · have hb32 : ((r : Int) == 32) = false := by simp; omega
                by_cases h34 : r = 34
                · have hb : ((r : Int) == 34) = true := by rw [h34]; rfl
                  have H34 := Lib.hid h34
                  clear h34
                  go_wp2_with fail
                  refine (HPI.out _).mono ?_
                  rintro e w' ⟨rfl, hc⟩
                  have HC1 : Hid (Chg No w w') := HC.out.no hc
                  clear hc
                  go_wp2_with (go_at_call 65; refine (HCT.out _).mono ?_; rintro e w' ⟨rfl, rfl⟩)
                  go_ret
                  exact ⟨by rw [HU2.out, HPC.out]; simp [badP, H34.out], HC1.out⟩
                · have hb34 : ((r : Int) == 34) = false := by simp; omega
                  by_cases h92 : r = 92
                  · have hb : ((r : Int) == 92) = true := by rw [h92]; rfl
                    have H92 := Lib.hid h92
                    clear h92
                    go_wp2_with fail
                    refine (HPI.out _).mono ?_
                    rintro e w' ⟨rfl, hc⟩
                    have HC1 : Hid (Chg No w w') := HC.out.no hc
                    clear hc
                    go_wp2_with (go_at_call 65; refine (HCT.out _).mono ?_; rintro e w' ⟨rfl, rfl⟩)
                    go_ret
                    exact ⟨by rw [HU2.out, HPC.out]; simp [badP, H92.out], HC1.out⟩
                  · have hb92 : ((r : Int) == 92) = false := by simp; omega
                    have HG : Hid (badP (r, false, bs) = false) := by simp [Hid, badP, HCTR.out, h32, h34, h92]
                    clear h32 h34 h92
                    go_wp2_with fail
                    refine (HPI.out _).mono ?_
                    rintro e w' ⟨rfl, hc⟩
                    have HC1 : Hid (Chg No w w') := HC.out.no hc
                    clear hc
                    go_wp2_with (go_at_call 65; refine (HCT.out _).mono ?_; rintro e w' ⟨rfl, rfl⟩)
                    go_roundw
                    case rel => exact ⟨pos + k, by omega, by go_num, by rw [Hid, HU2.out, HPC.out, List.all_cons, HG.out]; rfl, HC1.out⟩
                    case measure => simp [intOf]; omega
        · have HE : Hid (s.data.toList.drop pos = []) := by rw [Hid]; exact List.drop_of_length_le (by rw [HS.out]; omega)
          go_wp2
          go_ret
          exact ⟨by rw [HU2.out, HE.out]; rfl, HC.out⟩
end Go.Proofs.YtcomcoolmabmgaaDoor

