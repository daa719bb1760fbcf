/-
  Names: what is wrong with a path.
-/
import Derived.Test.YtcomcoolmabmgaaDoorNm1
import Derived.Test.YtcomcoolmabmgaaDoorTx
import Derived.WalkMore
namespace Go.Proofs.YtcomcoolmabmgaaDoor
open Go.RowKit
set_option linter.unusedVariables false
set_option linter.unusedSimpArgs false
set_option maxRecDepth 100000

def walkP : Nat → Int → List (List UInt8) → Int × Int
  | _, _, [] => (0, 0)
  | i, a, n :: r => if i = 16 then (3, a) else if (spotF n).1 ≠ 0 then ((spotF n).1, a + (spotF n).2) else walkP (i + 1) (a + ((n.length : Int) + 1)) r
def pathF (p : List UInt8) : Int × Int := if 200 < p.length then (3, 200) else walkP 0 0 (partsL p)
theorem spl_short : ∀ (s acc : List UInt8), ∀ x ∈ spl acc s, x.length ≤ acc.length + s.length := by
  intro s
  induction s with
  | nil => intro acc x hx; simp [spl] at hx; subst hx; simp
  | cons b r ih =>
    intro acc x hx
    rw [spl] at hx
    split at hx
    · rcases List.mem_cons.1 hx with rfl | hx
      · omega
      · have := ih [] x hx; simp only [List.length_nil, List.length_cons] at *; omega
    · have := ih (acc ++ [b]) x hx; simp only [List.length_append, List.length_cons, List.length_nil] at *; omega
theorem parts_short {p x : List UInt8} (h : x ∈ partsL p) : x.length ≤ p.length := by
  unfold partsL at h
  split at h
  · cases h
  · have := spl_short p [] x h; simpa using this
theorem wrong_at : ∀ (n : Nat) (l : List UInt8) (k j : Nat), l.length ≤ n → wrongAt k (pcs l) = some j → k ≤ j ∧ j < k + l.length := by
  intro n
  induction n with
  | zero =>
    intro l k j hl h
    have : l = [] := List.eq_nil_of_length_eq_zero (by omega)
    subst this
    rw [show pcs ([] : List UInt8) = [] from by rw [pcs.eq_def]; rfl] at h
    cases h
  | succ n ih =>
    intro l k j hl h
    by_cases h0 : l = []
    · subst h0
      rw [show pcs ([] : List UInt8) = [] from by rw [pcs.eq_def]; rfl] at h
      cases h
    · rw [wrong_cons k l h0] at h
      have hp : 0 < l.length := List.length_pos_iff.2 h0
      obtain ⟨q1, q2, q3⟩ := decL_facts _ h0
      split at h
      · cases h; omega
      · have := ih (l.drop (decL l).2) (k + (decL l).2) j (by rw [List.length_drop]; omega) h
        rw [List.length_drop] at this
        omega
theorem spot_at (l : List UInt8) : 0 ≤ (spotF l).2 ∧ (spotF l).2 ≤ l.length ∧ 0 ≤ (spotF l).1 ∧ (spotF l).1 ≤ 140 := by
  unfold spotF
  split
  · exact ⟨by decide, by simp, by decide, by decide⟩
  · split
    · refine ⟨by decide, ?_, by decide, by decide⟩; show (32 : Int) ≤ _; omega
    · split
      · exact ⟨by decide, by simp, by decide, by decide⟩
      · rename_i k hk
        have := wrong_at l.length l 0 k (Nat.le_refl _) hk
        refine ⟨by simp, ?_, by show (0:Int) ≤ 140; decide, by show (140:Int) ≤ 140; decide⟩
        show (k : Int) ≤ _
        omega
theorem heap2 {W : World} {g : Nat} {a b : Value} {t : TypeId} {fz : Nat × Nat} (h : W.heap[g]? = some (.cells #[a, b] t fz)) : W.cell? ⟨g, 0, none⟩ = some a ∧ W.cell? ⟨g, 1, none⟩ = some b := ⟨cellAt h 0 _ rfl, cellAt h 1 _ rfl⟩
theorem strv_text (s : List UInt8) : strv s = .string (mkS s) := rfl
set_option maxHeartbeats 6400000 in
theorem path_calls (w : World) (s : ByteArray) (hs : s.size ≤ 9223372036854775807) : Calls Tryd.prog 52 #[.string s] w fun e w' => e = .returned (spotV (pathF s.data.toList)) ∧ Chg No w w' := by
  have HS := Lib.hid (size_list s)
  have HR0 := Lib.hid (heap_alloc_new w (.cells #[.int .i64 0, .int .i64 0] 26))
  by_cases h200 : 200 < s.size
  · have HF : Hid (pathF s.data.toList = (3, 200)) := by rw [Hid, pathF, if_pos (by rw [HS.out]; exact h200)]
    have hb : (200 : Int) < (s.size : Int) := by omega
    go_enter Tryd.func52, Tryd.ntmps52
    go_wp2
    go_step3
    go_wp2
    try rw [Exit.noGoto_ret]
    exact bodyPost_ret (v := spotV (3, 200)) (by simp [results, Tryd.results52, go_sem, spotV]) rfl ⟨by rw [HF.out], (Chg.refl No w).alloc _⟩
  · have HF : Hid (pathF s.data.toList = walkP 0 0 (partsL s.data.toList)) := by rw [Hid, pathF, if_neg (by rw [HS.out]; exact h200)]
    have hb : ¬ (200 : Int) < (s.size : Int) := by omega
    have HXL : Hid (∀ x ∈ partsL s.data.toList, x.length ≤ 200) := fun x hx => by have := parts_short hx; rw [HS.out] at this; omega
    have hpl : (partsL s.data.toList).length ≤ 201 := by have := parts_len s.data.toList; rw [HS.out] at this; omega
    have HPC : Hid (∀ W, Calls Tryd.prog 67 #[.string s] W fun e w' => PartsR W w' e (partsL s.data.toList)) := fun W => parts_calls W s (by omega)
    generalize pathF s.data.toList = R at *
    generalize partsL s.data.toList = l at *
    have HC0 : Hid (Chg No w (w.alloc (.cells #[.int .i64 0, .int .i64 0] 26))) := (Chg.refl No w).alloc _
    go_enter Tryd.func52, Tryd.ntmps52
    go_wp2
    go_step3
    go_wp2
    go_step3
    go_wp2_with fail
    refine (HPC.out _).mono ?_
    rintro e w1 ⟨A, n, c, rfl, hl, ho, hc1⟩
    have HR1 := Lib.hid (hc1.heap HR0.out (fun x => x))
    have HC1 := Lib.hid (HC0.out.no hc1)
    have HSL := Lib.hid (ho.sl hl)
    have HLN := Lib.hid hl
    have HG : Hid (w.heap.size ≤ w.heap.size) := Nat.le_refl _
    rw [hl] at hpl
    clear hc1 ho hl HC0 HR0
    generalize hg : w.heap.size = g at *
    have hgw : w.heap.size ≤ g := by omega
    go_wp2
    go_loopw [3, 14] (fun a i wr => ∃ (k : Nat) (z : Int), k ≤ n ∧ k ≤ 16 ∧ i = .int .i64 (k : Int) ∧ a = .int .i64 z ∧ 0 ≤ z ∧ z ≤ 201 * k ∧ Hid (R = walkP k z (l.drop k)) ∧ Hid (wr.heap[g]? = some (.cells #[.int .i64 0, .int .i64 0] 26)) ∧ Hid (Sl strv wr (.slice A n c) l) ∧ Hid (Chg No w wr)) (fun _ i _ => n - (intOf i).toNat)
    case atStart => exact ⟨0, 0, Nat.zero_le _, by omega, rfl, rfl, by omega, by omega, HF.out, HR1.out, HSL.out, HC1.out⟩
    case round =>
      obtain ⟨k, z, hk, hk16, rfl, rfl, hz0, hz1, HI, HR, HS2, HC⟩ := hrel
      have y0 := (heap2 HR.out).1
      have y1 := (heap2 HR.out).2
      have yf0 := frzAt HR.out 0
      have yf1 := frzAt HR.out 1
      clear HR1 HC1 HSL
      by_cases hkn : k < n
      · have hki : (k : Int) < (n : Int) := by omega
        obtain ⟨b0, o0, rfl, hcell⟩ := HS2.out.addr (by rw [HLN.out]; omega)
        have hx0 := hcell k (by rw [HLN.out]; exact hkn)
        have hdr : l.drop k = (l[k]'(by rw [HLN.out]; exact hkn)) :: l.drop (k + 1) := List.drop_eq_getElem_cons (by rw [HLN.out]; exact hkn)
        have hmem := List.getElem_mem (l := l) (n := k) (by rw [HLN.out]; exact hkn)
        have hxl := HXL.out _ hmem
        generalize l[k]'(by rw [HLN.out]; exact hkn) = x at *
        have HDR := Lib.hid hdr
        clear hcell hdr hmem
        rw [strv_text] at hx0
        by_cases h16 : k = 16
        · have h16b : ((k : Int) == 16) = true := by simp; omega
          have HN : Hid (R = (3, z)) := by rw [Hid, HI.out, HDR.out, walkP, if_pos h16]
          clear h16
          go_wp2
          try rw [Exit.noGoto_ret]
          exact bodyPost_ret (v := spotV (3, z)) (by simp [results, Tryd.results52, go_sem, spotV, y0, y1]) rfl ⟨by rw [HN.out], (HC.out.setCell (.inl hgw) _).setCell (.inl hgw) _⟩
        · have h16b : ((k : Int) == 16) = false := by simp; omega
          have HCK := Lib.hid (check_calls wr (mkS x) (by rw [mkS_size]; omega))
          rw [mkS_list] at HCK
          have hat := spot_at x
          have HW : Hid (R = if (spotF x).1 ≠ 0 then ((spotF x).1, z + (spotF x).2) else walkP (k + 1) (z + ((x.length : Int) + 1)) (l.drop (k + 1))) := by rw [Hid, HI.out, HDR.out, walkP, if_neg h16]
          obtain ⟨⟨e1, e2⟩, he⟩ : ∃ q, spotF x = q := ⟨_, rfl⟩
          rw [he] at HCK hat
          rw [Hid, he] at HW
          simp only at hat HW
          have HW := Lib.hid HW
          have HSZ : Hid ((mkS x).size = x.length) := mkS_size x
          generalize mkS x = sx at *
          generalize x.length = xl at *
          clear he
          go_wp2_with fail
          refine HCK.out.mono ?_
          rintro e w2 ⟨rfl, hc2⟩
          have HR2 := Lib.hid (hc2.heap HR.out (fun x => x))
          have HS3 := Lib.hid (HS2.out.no hc2)
          have HC2 := Lib.hid (HC.out.no hc2)
          have HB := Lib.hid (heap_alloc_new w2 (.cells #[.int .i64 e1, .int .i64 e2] 26))
          have HR3 := Lib.hid (((Chg.refl No w2).alloc (.cells #[.int .i64 e1, .int .i64 e2] 26)).heap HR2.out (fun x => x))
          have HS4 := Lib.hid (HS3.out.no ((Chg.refl No w2).alloc (.cells #[.int .i64 e1, .int .i64 e2] 26)))
          have HC3 : Hid (Chg No w (w2.alloc (.cells #[.int .i64 e1, .int .i64 e2] 26))) := HC2.out.alloc _
          clear hc2 hx0 y0 y1 yf0 yf1 HR HR2 HS2 HS3 HC HC2 HCK
          obtain ⟨u0, u1⟩ := heap2 HB.out
          have y0 := (heap2 HR3.out).1
          have y1 := (heap2 HR3.out).2
          have yf0 := frzAt HR3.out 0
          have yf1 := frzAt HR3.out 1
          by_cases h0 : e1 = 0
          · have hb1 : (e1 != 0) = false := by rw [h0]; rfl
            have HN : Hid (R = walkP (k + 1) (z + ((xl : Int) + 1)) (l.drop (k + 1))) := by rw [Hid, HW.out, if_neg (by simpa using h0)]
            clear h0
            have hxs : sx.size = xl := HSZ.out
            unfold spotV
            go_wp2
            go_roundw
            case rel => exact ⟨k + 1, z + ((xl : Int) + 1), by omega, by omega, by simp, by first | rfl | (congr 1; omega) | (simp; omega) | simp, by omega, by omega, HN.out, HR3.out, HS4.out, HC3.out⟩
            case measure => simp [intOf]; omega
          · have hb1 : (e1 != 0) = true := by simpa using h0
            have HN : Hid (R = (e1, z + e2)) := by rw [Hid, HW.out, if_pos (by simpa using h0)]
            clear h0
            unfold spotV
            go_wp2
            try rw [Exit.noGoto_ret]
            exact bodyPost_ret (v := spotV (e1, z + e2)) (by simp [results, Tryd.results52, go_sem, spotV, y0, y1]) rfl ⟨by rw [HN.out], (HC3.out.setCell (.inl hgw) _).setCell (.inl hgw) _⟩
      · have hki : ¬ (k : Int) < (n : Int) := by omega
        have HN : Hid (R = (0, 0)) := by rw [Hid, HI.out, List.drop_eq_nil_of_le (by rw [HLN.out]; omega)]; rfl
        go_wp2
        try rw [Exit.noGoto_ret]
        exact bodyPost_ret (v := spotV (0, 0)) (by simp [results, Tryd.results52, go_sem, spotV, y0, y1]) rfl ⟨by rw [HN.out], (HC.out.setCell (.inl hgw) _).setCell (.inl hgw) _⟩
set_option maxHeartbeats 6400000 in
theorem refpath_calls (w : World) (s : ByteArray) (hs : s.size ≤ 9223372036854775807) : Calls Tryd.prog 66 #[.string s] w fun e w' => e = .returned (spotV (pathF s.data.toList)) ∧ Chg No w w' := by
  have HS := Lib.hid (size_list s)
  have HR0 := Lib.hid (heap_alloc_new w (.cells #[.int .i64 0, .int .i64 0] 26))
  by_cases h200 : 200 < s.size
  · have HF : Hid (pathF s.data.toList = (3, 200)) := by rw [Hid, pathF, if_pos (by rw [HS.out]; exact h200)]
    have hb : (200 : Int) < (s.size : Int) := by omega
    go_enter Tryd.func66, Tryd.ntmps66
    go_wp2
    exact bodyPost_ret (v := spotV (3, 200)) (by simp [results, Tryd.results66, go_sem, spotV]) rfl ⟨by rw [HF.out], (Chg.refl No w).alloc _⟩
  · have HF : Hid (pathF s.data.toList = walkP 0 0 (partsL s.data.toList)) := by rw [Hid, pathF, if_neg (by rw [HS.out]; exact h200)]
    have hb : ¬ (200 : Int) < (s.size : Int) := by omega
    have HXL : Hid (∀ x ∈ partsL s.data.toList, x.length ≤ 200) := fun x hx => by have := parts_short hx; rw [HS.out] at this; omega
    have hpl : (partsL s.data.toList).length ≤ 201 := by have := parts_len s.data.toList; rw [HS.out] at this; omega
    have HPC : Hid (∀ W, Calls Tryd.prog 81 #[.string s] W fun e w' => PartsR W w' e (partsL s.data.toList)) := fun W => refparts_calls W s (by omega)
    generalize pathF s.data.toList = R at *
    generalize partsL s.data.toList = l at *
    have HC0 : Hid (Chg No w (w.alloc (.cells #[.int .i64 0, .int .i64 0] 26))) := (Chg.refl No w).alloc _
    go_enter Tryd.func66, Tryd.ntmps66
    go_wp2_with fail
    refine (HPC.out _).mono ?_
    rintro e w1 ⟨A, n, c, rfl, hl, ho, hc1⟩
    have HR1 := Lib.hid (hc1.heap HR0.out (fun x => x))
    have HC1 := Lib.hid (HC0.out.no hc1)
    have HSL := Lib.hid (ho.sl hl)
    have HLN := Lib.hid hl
    have HG : Hid (w.heap.size ≤ w.heap.size) := Nat.le_refl _
    rw [hl] at hpl
    clear hc1 ho hl HC0 HR0
    generalize hg : w.heap.size = g at *
    have hgw : w.heap.size ≤ g := by omega
    go_wp2
    go_loopw [3, 14] (fun a i wr => ∃ (k : Nat) (z : Int), k ≤ n ∧ k ≤ 16 ∧ i = .int .i64 (k : Int) ∧ a = .int .i64 z ∧ 0 ≤ z ∧ z ≤ 201 * k ∧ Hid (R = walkP k z (l.drop k)) ∧ Hid (wr.heap[g]? = some (.cells #[.int .i64 0, .int .i64 0] 26)) ∧ Hid (Sl strv wr (.slice A n c) l) ∧ Hid (Chg No w wr)) (fun _ i _ => n - (intOf i).toNat)
    case atStart => exact ⟨0, 0, Nat.zero_le _, by omega, rfl, rfl, by omega, by omega, HF.out, HR1.out, HSL.out, HC1.out⟩
    case round =>
      obtain ⟨k, z, hk, hk16, rfl, rfl, hz0, hz1, HI, HR, HS2, HC⟩ := hrel
      have y0 := (heap2 HR.out).1
      have y1 := (heap2 HR.out).2
      have yf0 := frzAt HR.out 0
      have yf1 := frzAt HR.out 1
      clear HR1 HC1 HSL
      by_cases hkn : k < n
      · have hki : (k : Int) < (n : Int) := by omega
        obtain ⟨b0, o0, rfl, hcell⟩ := HS2.out.addr (by rw [HLN.out]; omega)
        have hx0 := hcell k (by rw [HLN.out]; exact hkn)
        have hdr : l.drop k = (l[k]'(by rw [HLN.out]; exact hkn)) :: l.drop (k + 1) := List.drop_eq_getElem_cons (by rw [HLN.out]; exact hkn)
        have hmem := List.getElem_mem (l := l) (n := k) (by rw [HLN.out]; exact hkn)
        have hxl := HXL.out _ hmem
        generalize l[k]'(by rw [HLN.out]; exact hkn) = x at *
        have HDR := Lib.hid hdr
        clear hcell hdr hmem
        rw [strv_text] at hx0
        by_cases h16 : k = 16
        · have h16b : ((k : Int) == 16) = true := by simp; omega
          have HN : Hid (R = (3, z)) := by rw [Hid, HI.out, HDR.out, walkP, if_pos h16]
          clear h16
          go_wp2
          exact bodyPost_ret (v := spotV (3, z)) (by simp [results, Tryd.results66, go_sem, spotV, y0, y1]) rfl ⟨by rw [HN.out], (HC.out.setCell (.inl hgw) _).setCell (.inl hgw) _⟩
        · have h16b : ((k : Int) == 16) = false := by simp; omega
          have HCK := Lib.hid (refspot_calls wr (mkS x) (by rw [mkS_size]; omega))
          rw [mkS_list] at HCK
          have hat := spot_at x
          have HW : Hid (R = if (spotF x).1 ≠ 0 then ((spotF x).1, z + (spotF x).2) else walkP (k + 1) (z + ((x.length : Int) + 1)) (l.drop (k + 1))) := by rw [Hid, HI.out, HDR.out, walkP, if_neg h16]
          obtain ⟨⟨e1, e2⟩, he⟩ : ∃ q, spotF x = q := ⟨_, rfl⟩
          rw [he] at HCK hat
          rw [Hid, he] at HW
          simp only at hat HW
          have HW := Lib.hid HW
          have HSZ : Hid ((mkS x).size = x.length) := mkS_size x
          generalize mkS x = sx at *
          generalize x.length = xl at *
          clear he
          go_wp2_with fail
          refine HCK.out.mono ?_
          rintro e w2 ⟨rfl, hc2⟩
          have HR2 := Lib.hid (hc2.heap HR.out (fun x => x))
          have HS3 := Lib.hid (HS2.out.no hc2)
          have HC2 := Lib.hid (HC.out.no hc2)
          have HB := Lib.hid (heap_alloc_new w2 (.cells #[.int .i64 e1, .int .i64 e2] 26))
          have HR3 := Lib.hid (((Chg.refl No w2).alloc (.cells #[.int .i64 e1, .int .i64 e2] 26)).heap HR2.out (fun x => x))
          have HS4 := Lib.hid (HS3.out.no ((Chg.refl No w2).alloc (.cells #[.int .i64 e1, .int .i64 e2] 26)))
          have HC3 : Hid (Chg No w (w2.alloc (.cells #[.int .i64 e1, .int .i64 e2] 26))) := HC2.out.alloc _
          clear hc2 hx0 y0 y1 yf0 yf1 HR HR2 HS2 HS3 HC HC2 HCK
          obtain ⟨u0, u1⟩ := heap2 HB.out
          have y0 := (heap2 HR3.out).1
          have y1 := (heap2 HR3.out).2
          have yf0 := frzAt HR3.out 0
          have yf1 := frzAt HR3.out 1
          by_cases h0 : e1 = 0
          · have hb1 : (e1 != 0) = false := by rw [h0]; rfl
            have HN : Hid (R = walkP (k + 1) (z + ((xl : Int) + 1)) (l.drop (k + 1))) := by rw [Hid, HW.out, if_neg (by simpa using h0)]
            clear h0
            have hxs : sx.size = xl := HSZ.out
            unfold spotV
            go_wp2
            go_roundw
            case rel => exact ⟨k + 1, z + ((xl : Int) + 1), by omega, by omega, by simp, by first | rfl | (congr 1; omega) | (simp; omega) | simp, by omega, by omega, HN.out, HR3.out, HS4.out, HC3.out⟩
            case measure => simp [intOf]; omega
          · have hb1 : (e1 != 0) = true := by simpa using h0
            have HN : Hid (R = (e1, z + e2)) := by rw [Hid, HW.out, if_pos (by simpa using h0)]
            clear h0
            unfold spotV
            go_wp2
            exact bodyPost_ret (v := spotV (e1, z + e2)) (by simp [results, Tryd.results66, go_sem, spotV, y0, y1]) rfl ⟨by rw [HN.out], (HC3.out.setCell (.inl hgw) _).setCell (.inl hgw) _⟩
      · have hki : ¬ (k : Int) < (n : Int) := by omega
        have HN : Hid (R = (0, 0)) := by rw [Hid, HI.out, List.drop_eq_nil_of_le (by rw [HLN.out]; omega)]; rfl
        go_wp2
        exact bodyPost_ret (v := spotV (0, 0)) (by simp [results, Tryd.results66, go_sem, spotV, y0, y1]) rfl ⟨by rw [HN.out], (HC.out.setCell (.inl hgw) _).setCell (.inl hgw) _⟩
/-- Is it a path? -/
def isP (p : List UInt8) : Bool := decide ((pathF p).1 = 0)
def isF : List (List UInt8) → Int
  | [] => 0
  | p :: r => if (pathF p).1 ≠ 0 then (pathF p).1 else isF r
theorem refis_calls (w : World) (s : ByteArray) (hs : s.size ≤ 9223372036854775807) : Calls Tryd.prog 51 #[.string s] w fun e w' => e = .returned (.bool (isP s.data.toList)) ∧ Chg No w w' := by
  have HP := Lib.hid (refpath_calls w s hs)
  unfold isP
  obtain ⟨⟨e1, e2⟩, he⟩ : ∃ q, pathF s.data.toList = q := ⟨_, rfl⟩
  rw [he] at HP ⊢
  clear he
  have hf0 : ∀ (w : World), Sem.run Tryd.prog (Instr.field 26 (.agg #[.int .i64 e1, .int .i64 e2]) 0) w = .ok (.int .i64 e1) w := fun _ => rfl
  have HB : Hid ((e1 == 0) = decide (e1 = 0)) := by rw [Hid, Bool.eq_iff_iff]; simp
  go_enter Tryd.func51, Tryd.ntmps51
  go_wp2_with fail
  refine HP.out.mono ?_
  rintro e w1 ⟨rfl, hc1⟩
  unfold spotV
  go_wp2
  go_ret
  exact ⟨rfl, hc1⟩
end Go.Proofs.YtcomcoolmabmgaaDoor
