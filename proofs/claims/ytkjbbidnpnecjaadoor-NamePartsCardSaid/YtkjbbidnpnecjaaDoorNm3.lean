/-
  Names: strings.Join at a stroke; Make.
-/
import Derived.Test.YtkjbbidnpnecjaaDoorNm2
import Derived.BigQuiet
import Derived.Deep.DeepCutAuto
namespace Go.Proofs.YtkjbbidnpnecjaaDoor
open Go.RowKit
set_option linter.unusedVariables false
set_option linter.unusedSimpArgs false
set_option maxRecDepth 100000

theorem join_calls (w : World) (A : Option Addr) (n c : Nat) (l : List (List UInt8)) (h : Sl strv w (.slice A n c) l) (hn : n ≤ 1000000) (hb : (joinL l).length ≤ 140737488355328) :
    Calls Tryd.prog 43 #[.slice A n c, .string ⟨#[47]⟩] w fun e w' => e = .returned (.string (mkS (joinL l))) ∧ Chg No w w' := by
  have hl := h.len
  by_cases h0 : n = 0
  · subst h0
    have : l = [] := List.eq_nil_of_length_eq_zero hl
    subst this
    exact (Tryd.strings_Join_none A c ⟨#[47]⟩ w).mono fun e w' ⟨h1, h2⟩ => ⟨h1, by rw [h2]; exact Chg.refl _ _⟩
  · have hnc : n ≤ c := by
      obtain ⟨A', c', he, h2, h3, -⟩ := h
      simp only [Value.slice.injEq] at he
      omega
    obtain ⟨b, o, rfl, hcell⟩ := h.addr (by rw [hl]; omega)
    have hbk : b < w.heap.size := World.block_lt_of_cell? _ _ (hcell 0 (by rw [hl]; omega))
    have hm : (l.map mkS).map (·.data.toList) = l := by rw [List.map_map]; exact (List.map_congr_left fun x _ => mkS_list x).trans (List.map_id' l)
    have hlm : (l.map mkS).length = n := by rw [List.length_map, hl]
    have := Tryd.strings_Join b o c (l.map mkS) ⟨#[47]⟩ w (fun j x hj => by
      rw [List.getElem?_map] at hj
      cases hx : l[j]? with
      | none => rw [hx] at hj; cases hj
      | some y =>
        rw [hx] at hj
        have hj : mkS y = x := by simpa using hj
        obtain ⟨hj2, hy⟩ := List.getElem?_eq_some_iff.1 hx
        have := hcell j hj2
        rw [hy] at this
        rw [this, ← hj]; rfl) hbk (by rw [hlm]; omega) (by rw [hlm]; exact hnc) (by rw [hm]; exact hb)
    rw [hm, hlm] at this
    exact this.mono fun e w' ⟨h1, h2⟩ => ⟨h1, Chg.ofBelow h2⟩
def firstBad : List (List UInt8) → Int
  | [] => 0
  | n :: r => if (spotF n).1 ≠ 0 then (spotF n).1 else firstBad r
def makeF (l : List (List UInt8)) : List UInt8 × Int :=
  if firstBad l ≠ 0 then ([], firstBad l) else if 16 < l.length ∨ 200 < (joinL l).length then ([], 3) else (joinL l, 0)
theorem spot_len {l : List UInt8} (h : (spotF l).1 = 0) : 1 ≤ l.length ∧ l.length ≤ 32 := by
  unfold spotF at h
  split at h
  · cases h
  · split at h
    · cases h
    · rename_i h1 h2
      refine ⟨?_, by omega⟩
      cases l with
      | nil => exact absurd (.inl rfl) h1
      | cons => simp
theorem firstBad_zero {l : List (List UInt8)} (h : firstBad l = 0) : ∀ x ∈ l, (spotF x).1 = 0 := by
  induction l with
  | nil => intro x hx; cases hx
  | cons n r ih =>
    rw [firstBad] at h
    split at h
    · rename_i h1; exact absurd h h1
    · rename_i h1
      intro x hx
      rcases List.mem_cons.1 hx with rfl | hx
      · exact Classical.byContradiction h1
      · exact ih h x hx
theorem join_len (l : List (List UInt8)) : (joinL l).length = (l.length - 1) + Lib.lens l := by
  cases l with
  | nil => rfl
  | cons x r => rw [joinL, Lib.join_length]; simp
theorem lens_le {l : List (List UInt8)} {m : Nat} (h : ∀ x ∈ l, x.length ≤ m) : Lib.lens l ≤ m * l.length := by
  induction l with
  | nil => simp [Lib.lens]
  | cons x r ih =>
    have h1 := ih (fun y hy => h y (by simp [hy]))
    have h2 := h x (by simp)
    have h3 : Lib.lens (x :: r) = x.length + Lib.lens r := by simp [Lib.lens]
    rw [h3, List.length_cons, Nat.mul_succ]
    omega
theorem join_small {l : List (List UInt8)} (h : firstBad l = 0) (hn : l.length ≤ 1000000) : (joinL l).length ≤ 140737488355328 := by
  rw [join_len]
  have := lens_le (m := 32) fun x hx => (spot_len (firstBad_zero h x hx)).2
  omega
set_option maxHeartbeats 6400000 in
theorem make_calls (w : World) (A : Option Addr) (n c : Nat) (l : List (List UInt8)) (h : Sl strv w (.slice A n c) l) (hn : n ≤ 1000000) (hx : ∀ x ∈ l, x.length ≤ 9223372036854775807) :
    Calls Tryd.prog 19 #[.slice A n c] w fun e w' => e = .returned (.tuple #[.string (mkS (makeF l).1), .int .i64 (makeF l).2]) ∧ Chg No w w' := by
  have HL := Lib.hid h.len
  have HS := Lib.hid h
  have HX := Lib.hid hx
  have HMF : Hid (makeF l = if firstBad l ≠ 0 then ([], firstBad l) else if 16 < l.length ∨ 200 < (joinL l).length then ([], 3) else (joinL l, 0)) := rfl
  generalize makeF l = M at *
  clear h hx
  go_enter Tryd.func19, Tryd.ntmps19
  go_wp2
  go_loopw [4, 13] (fun z i wr => ∃ (k q : Nat), k ≤ n ∧ q ≤ 32 * k ∧ i = .int .i64 (k : Int) ∧ z = .int .i64 ((n : Int) - 1 + q) ∧ Hid (q = Lib.lens (l.take k)) ∧ Hid (firstBad l = firstBad (l.drop k)) ∧ Hid (Chg No w wr)) (fun _ i _ => n - (intOf i).toNat)
  case atStart => exact ⟨0, 0, Nat.zero_le _, Nat.zero_le _, rfl, by simp, rfl, rfl, Chg.refl _ _⟩
  case round =>
    obtain ⟨k, q, hk, hq, rfl, rfl, HQ, HI, HC⟩ := hrel
    by_cases hkn : k < n
    · have hki : (k : Int) < (n : Int) := by omega
      obtain ⟨b0, o0, rfl, hcell⟩ := (HS.out.no HC.out).addr (by rw [HL.out]; omega)
      have hx0 := hcell k (by rw [HL.out]; exact hkn)
      have hdr : l.drop k = (l[k]'(by rw [HL.out]; exact hkn)) :: l.drop (k + 1) := List.drop_eq_getElem_cons (by rw [HL.out]; exact hkn)
      have hmem := List.getElem_mem (l := l) (n := k) (by rw [HL.out]; exact hkn)
      have hget : l[k]? = some (l[k]'(by rw [HL.out]; exact hkn)) := List.getElem?_eq_getElem _
      have HXX := Lib.hid (HX.out _ hmem)
      generalize l[k]'(by rw [HL.out]; exact hkn) = x at *
      have HDR := Lib.hid hdr
      have HLN := Lib.hid (Lib.lens_take_succ l k x hget)
      clear hcell hdr hmem hget
      rw [strv_text] at hx0
      have HP := Lib.hid (check_calls wr (mkS x) (by rw [mkS_size]; exact HXX.out))
      rw [mkS_list] at HP
      have HSZ : Hid ((mkS x).size = x.length) := mkS_size x
      have HZ : Hid ((spotF x).1 = 0 → x.length ≤ 32) := fun h => (spot_len h).2
      obtain ⟨⟨e1, e2⟩, he⟩ : ∃ q, spotF x = q := ⟨_, rfl⟩
      rw [he] at HP HZ
      have HE := Lib.hid he
      clear he
      generalize mkS x = sx at *
      go_wp2_with fail
      refine HP.out.mono ?_
      rintro e w1 ⟨rfl, hc1⟩
      have HC1 := Lib.hid (HC.out.no hc1)
      have HB := Lib.hid (heap_alloc_new w1 (.cells #[.int .i64 e1, .int .i64 e2] 26))
      have HC2 : Hid (Chg No w (w1.alloc (.cells #[.int .i64 e1, .int .i64 e2] 26))) := HC1.out.alloc _
      obtain ⟨u0, u1⟩ := heap2 HB.out
      clear hc1 hx0 HC HC1 HB HP
      by_cases h0 : e1 = 0
      · have hb : (e1 != 0) = false := by rw [h0]; rfl
        have HN : Hid (firstBad l = firstBad (l.drop (k + 1))) := by rw [Hid, HI.out, HDR.out, firstBad, HE.out, if_neg (by simpa using h0)]
        have hxl : x.length ≤ 32 := HZ.out h0
        have hxs : sx.size = x.length := HSZ.out
        clear h0
        unfold spotV
        go_wp2
        go_roundw
        case rel => exact ⟨k + 1, q + x.length, by omega, by omega, by simp, by first | rfl | (congr 1; omega) | (simp; omega) | simp, by rw [HLN.out, ← HQ.out]; rfl, HN.out, HC2.out⟩
        case measure => simp [intOf]; omega
      · have hb : (e1 != 0) = true := by simpa using h0
        have HF : Hid (firstBad l = e1) := by rw [Hid, HI.out, HDR.out, firstBad, HE.out, if_pos (by simpa using h0)]
        have HN : Hid (M = ([], e1)) := by rw [Hid, HMF.out, HF.out, if_pos (by simpa using h0)]
        clear h0
        unfold spotV
        go_wp2
        go_region
        all_goals
          go_wp2
          go_ret2
          exact ⟨by rw [HN.out]; rfl, HC2.out.drew⟩
    · have hki : ¬ (k : Int) < (n : Int) := by omega
      have HZ : Hid (firstBad l = 0) := by rw [Hid, HI.out, List.drop_eq_nil_of_le (by rw [HL.out]; omega)]; rfl
      have HMF2 : Hid (M = if 16 < n ∨ 200 < (joinL l).length then ([], 3) else (joinL l, 0)) := by rw [Hid, HMF.out, HZ.out, if_neg (by simp), HL.out]
      have HJ : Hid (Calls Tryd.prog 43 #[.slice A n c, .string ⟨#[47]⟩] wr fun e w' => e = .returned (.string (mkS (joinL l))) ∧ Chg No wr w') := join_calls wr A n c l (HS.out.no HC.out) hn (join_small HZ.out (by rw [HL.out]; exact hn))
      have HLQ : Hid (200 < (joinL l).length ↔ 200 < (n : Int) - 1 + q) := by
        have h1 := join_len l
        have h2 := HL.out
        have h3 := HQ.out
        rw [List.take_of_length_le (by omega)] at h3
        rw [Hid, h1]
        by_cases h00 : n = 0
        · have : l = [] := List.eq_nil_of_length_eq_zero (by omega)
          subst this
          simp [Lib.lens] at *
          omega
        · omega
      have HMF3 : Hid (M = if 16 < n ∨ 200 < (n : Int) - 1 + q then ([], 3) else (joinL l, 0)) := by
        rw [Hid, HMF2.out]
        by_cases h200 : 200 < (joinL l).length
        · rw [if_pos (.inr h200), if_pos (.inr (HLQ.out.1 h200))]
        · have := fun h => h200 (HLQ.out.2 h)
          by_cases h16 : 16 < n
          · rw [if_pos (.inl h16), if_pos (.inl h16)]
          · rw [if_neg (by rintro (h | h); exact h16 h; exact h200 h), if_neg (by rintro (h | h); exact h16 h; exact this h)]
      by_cases h16 : 16 < n
      · have hb : decide ((16 : Int) < (n : Int)) = true := by rw [decide_eq_true_eq]; omega
        have HN : Hid (M = ([], 3)) := by rw [Hid, HMF3.out, if_pos (.inl h16)]
        go_wp2
        go_ret2
        exact ⟨by rw [HN.out]; rfl, HC.out⟩
      · have hb : decide ((16 : Int) < (n : Int)) = false := by rw [decide_eq_false_iff_not]; omega
        have hb0 : ¬ (16 : Int) < (n : Int) := by omega
        by_cases h200 : 200 < (n : Int) - 1 + q
        · have hb2 : decide ((200 : Int) < (n : Int) - 1 + q) = true := by rw [decide_eq_true_eq]; omega
          have HN : Hid (M = ([], 3)) := by rw [Hid, HMF3.out, if_pos (.inr h200)]
          go_wp2
          go_ret2
          exact ⟨by rw [HN.out]; rfl, HC.out⟩
        · have hb2 : decide ((200 : Int) < (n : Int) - 1 + q) = false := by rw [decide_eq_false_iff_not]; omega
          have HN : Hid (M = (joinL l, 0)) := by rw [Hid, HMF3.out, if_neg (by rintro (h | h); exact h16 h; exact h200 h)]
          generalize joinL l = j at *
          go_wp2_with fail
          refine HJ.out.mono ?_
          rintro e w1 ⟨rfl, hc1⟩
          have HC1 := Lib.hid (HC.out.no hc1)
          go_wp2
          go_ret2
          exact ⟨by rw [HN.out]; rfl, HC1.out⟩
set_option maxHeartbeats 6400000 in
theorem refmake_calls (w : World) (A : Option Addr) (n c : Nat) (l : List (List UInt8)) (h : Sl strv w (.slice A n c) l) (hn : n ≤ 1000000) (hx : ∀ x ∈ l, x.length ≤ 9223372036854775807) :
    Calls Tryd.prog 20 #[.slice A n c] w fun e w' => e = .returned (.tuple #[.string (mkS (makeF l).1), .int .i64 (makeF l).2]) ∧ Chg No w w' := by
  have HL := Lib.hid h.len
  have HS := Lib.hid h
  have HX := Lib.hid hx
  have HMF : Hid (makeF l = if firstBad l ≠ 0 then ([], firstBad l) else if 16 < l.length ∨ 200 < (joinL l).length then ([], 3) else (joinL l, 0)) := rfl
  generalize makeF l = M at *
  clear h hx
  go_enter Tryd.func20, Tryd.ntmps20
  go_wp2
  go_loopw [10] (fun i wr => ∃ (k : Nat), k ≤ n ∧ i = .int .i64 (k : Int) ∧ Hid (firstBad l = firstBad (l.drop k)) ∧ Hid (Chg No w wr)) (fun i _ => n - (intOf i).toNat)
  case atStart => exact ⟨0, Nat.zero_le _, rfl, rfl, Chg.refl _ _⟩
  case round =>
    obtain ⟨k, hk, rfl, HI, HC⟩ := hrel
    by_cases hkn : k < n
    · have hki : (k : Int) < (n : Int) := by omega
      obtain ⟨b0, o0, rfl, hcell⟩ := (HS.out.no HC.out).addr (by rw [HL.out]; omega)
      have hx0 := hcell k (by rw [HL.out]; exact hkn)
      have hdr : l.drop k = (l[k]'(by rw [HL.out]; exact hkn)) :: l.drop (k + 1) := List.drop_eq_getElem_cons (by rw [HL.out]; exact hkn)
      have hmem := List.getElem_mem (l := l) (n := k) (by rw [HL.out]; exact hkn)
      have hget : l[k]? = some (l[k]'(by rw [HL.out]; exact hkn)) := List.getElem?_eq_getElem _
      have HXX := Lib.hid (HX.out _ hmem)
      generalize l[k]'(by rw [HL.out]; exact hkn) = x at *
      have HDR := Lib.hid hdr
      have HLN := Lib.hid (Lib.lens_take_succ l k x hget)
      clear hcell hdr hmem hget
      rw [strv_text] at hx0
      have HP := Lib.hid (refspot_calls wr (mkS x) (by rw [mkS_size]; exact HXX.out))
      rw [mkS_list] at HP
      have HSZ : Hid ((mkS x).size = x.length) := mkS_size x
      have HZ : Hid ((spotF x).1 = 0 → x.length ≤ 32) := fun h => (spot_len h).2
      obtain ⟨⟨e1, e2⟩, he⟩ : ∃ q, spotF x = q := ⟨_, rfl⟩
      rw [he] at HP HZ
      have HE := Lib.hid he
      clear he
      generalize mkS x = sx at *
      go_wp2_with fail
      refine HP.out.mono ?_
      rintro e w1 ⟨rfl, hc1⟩
      have HC1 := Lib.hid (HC.out.no hc1)
      have HB := Lib.hid (heap_alloc_new w1 (.cells #[.int .i64 e1, .int .i64 e2] 26))
      have HC2 : Hid (Chg No w (w1.alloc (.cells #[.int .i64 e1, .int .i64 e2] 26))) := HC1.out.alloc _
      obtain ⟨u0, u1⟩ := heap2 HB.out
      clear hc1 hx0 HC HC1 HB HP
      by_cases h0 : e1 = 0
      · have hb : (e1 != 0) = false := by rw [h0]; rfl
        have HN : Hid (firstBad l = firstBad (l.drop (k + 1))) := by rw [Hid, HI.out, HDR.out, firstBad, HE.out, if_neg (by simpa using h0)]
        have hxl : x.length ≤ 32 := HZ.out h0
        have hxs : sx.size = x.length := HSZ.out
        clear h0
        unfold spotV
        go_wp2
        go_roundw
        case rel => exact ⟨k + 1, by omega, by simp, HN.out, HC2.out⟩
        case measure => simp [intOf]; omega
      · have hb : (e1 != 0) = true := by simpa using h0
        have HF : Hid (firstBad l = e1) := by rw [Hid, HI.out, HDR.out, firstBad, HE.out, if_pos (by simpa using h0)]
        have HN : Hid (M = ([], e1)) := by rw [Hid, HMF.out, HF.out, if_pos (by simpa using h0)]
        clear h0
        unfold spotV
        go_wp2
        go_region
        all_goals
          go_wp2
          go_ret2
          exact ⟨by rw [HN.out]; rfl, HC2.out.drew⟩
    · have hki : ¬ (k : Int) < (n : Int) := by omega
      have HZ : Hid (firstBad l = 0) := by rw [Hid, HI.out, List.drop_eq_nil_of_le (by rw [HL.out]; omega)]; rfl
      have HMF2 : Hid (M = if 16 < n ∨ 200 < (joinL l).length then ([], 3) else (joinL l, 0)) := by rw [Hid, HMF.out, HZ.out, if_neg (by simp), HL.out]
      have HJ : Hid (Calls Tryd.prog 43 #[.slice A n c, .string ⟨#[47]⟩] wr fun e w' => e = .returned (.string (mkS (joinL l))) ∧ Chg No wr w') := join_calls wr A n c l (HS.out.no HC.out) hn (join_small HZ.out (by rw [HL.out]; exact hn))
      have HJZ : Hid ((mkS (joinL l)).size = (joinL l).length) := mkS_size _
      go_wp2_with fail
      refine HJ.out.mono ?_
      rintro e w1 ⟨rfl, hc1⟩
      have HC1 := Lib.hid (HC.out.no hc1)
      generalize joinL l = j at *
      have hjz : (mkS j).size = j.length := HJZ.out
      by_cases h16 : 16 < n
      · have hb : decide ((16 : Int) < (n : Int)) = true := by rw [decide_eq_true_eq]; omega
        have HN : Hid (M = ([], 3)) := by rw [Hid, HMF2.out, if_pos (.inl h16)]
        go_wp2
        go_ret2
        exact ⟨by rw [HN.out]; rfl, HC1.out⟩
      · have hb : decide ((16 : Int) < (n : Int)) = false := by rw [decide_eq_false_iff_not]; omega
        have hb0 : ¬ (16 : Int) < (n : Int) := by omega
        by_cases h200 : 200 < j.length
        · have hb2 : decide ((200 : Int) < (j.length : Int)) = true := by rw [decide_eq_true_eq]; omega
          have HN : Hid (M = ([], 3)) := by rw [Hid, HMF2.out, if_pos (.inr h200)]
          go_wp2
          go_ret2
          exact ⟨by rw [HN.out]; rfl, HC1.out⟩
        · have hb2 : decide ((200 : Int) < (j.length : Int)) = false := by rw [decide_eq_false_iff_not]; omega
          have HN : Hid (M = (j, 0)) := by rw [Hid, HMF2.out, if_neg (by omega)]
          go_wp2
          go_ret2
          exact ⟨by rw [HN.out]; rfl, HC1.out⟩
end Go.Proofs.YtkjbbidnpnecjaaDoor
