/-
  Names: orders: cmp.Compare, slices.Compare, the reference's Order, Compare.
-/
import Derived.Test.YtkjbbidnpnecjaaDoorNm12
namespace Go.Proofs.YtkjbbidnpnecjaaDoor
open Go.RowKit
set_option linter.unusedVariables false
set_option linter.unusedSimpArgs false
set_option maxRecDepth 100000

/-- Rows of texts held against each other. -/
def ordL : List (List UInt8) → List (List UInt8) → Int
  | [], [] => 0
  | [], _ :: _ => -1
  | _ :: _, [] => 1
  | x :: l, y :: m => if Lib.compareBytes x y = 0 then ordL l m else Lib.compareBytes x y
theorem cmp_range (a b : List UInt8) : Lib.compareBytes a b = -1 ∨ Lib.compareBytes a b = 0 ∨ Lib.compareBytes a b = 1 := by
  induction a generalizing b with
  | nil => cases b <;> simp [Lib.compareBytes]
  | cons x a ih =>
    cases b with
    | nil => simp [Lib.compareBytes]
    | cons y b =>
      rw [Lib.compareBytes]
      split
      · simp
      · split
        · simp
        · exact ih b
theorem cmp_less : ∀ a b : List UInt8, Op.bytesLess a b = decide (Lib.compareBytes a b = -1) := by
  intro a
  induction a with
  | nil => intro b; cases b <;> simp [Op.bytesLess, Lib.compareBytes]
  | cons x a ih =>
    intro b
    cases b with
    | nil => simp [Op.bytesLess, Lib.compareBytes]
    | cons y b =>
      rw [Op.bytesLess, Lib.compareBytes]
      by_cases h : x < y
      · simp [h]
      · by_cases h2 : y < x
        · have h3 : x ≠ y := by rintro rfl; exact h h2
          simp [h, h2, h3]
        · have h3 : x = y := by
            apply UInt8.toNat_inj.1
            rw [UInt8.lt_iff_toNat_lt] at h h2
            omega
          subst h3
          simp [h, ih b]
theorem cmp_neg : ∀ a b : List UInt8, Lib.compareBytes b a = -Lib.compareBytes a b := by
  intro a
  induction a with
  | nil => intro b; cases b <;> simp [Lib.compareBytes]
  | cons x a ih =>
    intro b
    cases b with
    | nil => simp [Lib.compareBytes]
    | cons y b =>
      rw [Lib.compareBytes, Lib.compareBytes]
      by_cases h : x < y
      · have h2 : ¬ y < x := by rw [UInt8.lt_iff_toNat_lt] at *; omega
        simp [h, h2]
      · by_cases h2 : y < x
        · simp [h, h2]
        · simp [h, h2, ih b]
theorem cmp_zero : ∀ a b : List UInt8, Lib.compareBytes a b = 0 ↔ a = b := by
  intro a
  induction a with
  | nil => intro b; cases b <;> simp [Lib.compareBytes]
  | cons x a ih =>
    intro b
    cases b with
    | nil => simp [Lib.compareBytes]
    | cons y b =>
      rw [Lib.compareBytes]
      by_cases h : x < y
      · have : x ≠ y := by rintro rfl; rw [UInt8.lt_iff_toNat_lt] at h; omega
        simp [h, this]
      · by_cases h2 : y < x
        · have : x ≠ y := by rintro rfl; rw [UInt8.lt_iff_toNat_lt] at h2; omega
          simp [h, h2, this]
        · have h3 : x = y := by
            apply UInt8.toNat_inj.1
            rw [UInt8.lt_iff_toNat_lt] at h h2
            omega
          subst h3
          simp [h, ih b]
theorem cmpc_calls (w : World) (a b : ByteArray) : Calls Tryd.prog 62 #[.string a, .string b] w fun e w' => e = .returned (.int .i64 (Lib.compareBytes a.data.toList b.data.toList)) ∧ w = w' := by
  have h1 := cmp_less a.data.toList b.data.toList
  have h2 : (a.data.toList == b.data.toList) = decide (Lib.compareBytes a.data.toList b.data.toList = 0) := by
    rw [Bool.eq_iff_iff, beq_iff_eq, decide_eq_true_eq, cmp_zero]
  have hr := cmp_range a.data.toList b.data.toList
  generalize Lib.compareBytes a.data.toList b.data.toList = c at *
  rw [← Lib.toList_data, ← Lib.toList_data] at h1 h2
  rcases hr with rfl | rfl | rfl
  · replace h1 : Op.bytesLess a.toList b.toList = true := by rw [h1]; rfl
    replace h2 : (a.toList == b.toList) = false := by rw [h2]; rfl
    go_enter Tryd.func62, Tryd.ntmps62
    go_wp2
    go_ret
    exact ⟨rfl, rfl⟩
  · replace h1 : Op.bytesLess a.toList b.toList = false := by rw [h1]; rfl
    replace h2 : (a.toList == b.toList) = true := by rw [h2]; rfl
    go_enter Tryd.func62, Tryd.ntmps62
    go_wp2
    go_ret
    exact ⟨rfl, rfl⟩
  · replace h1 : Op.bytesLess a.toList b.toList = false := by rw [h1]; rfl
    replace h2 : (a.toList == b.toList) = false := by rw [h2]; rfl
    go_enter Tryd.func62, Tryd.ntmps62
    go_wp2
    go_ret
    exact ⟨rfl, rfl⟩
theorem dropE {l : List (List UInt8)} {k : Nat} (h : l.length ≤ k) : l.drop k = [] := List.drop_eq_nil_of_le h
theorem ord_drop (l m : List (List UInt8)) (k : Nat) (x y : List UInt8) (hl : l.drop k = x :: l.drop (k + 1)) (hm : m.drop k = y :: m.drop (k + 1)) : ordL (l.drop k) (m.drop k) = if Lib.compareBytes x y = 0 then ordL (l.drop (k + 1)) (m.drop (k + 1)) else Lib.compareBytes x y := by rw [hl, hm, ordL]
set_option maxHeartbeats 6400000 in
theorem slcompare_calls (w : World) (A : Option Addr) (n c : Nat) (l : List (List UInt8)) (A' : Option Addr) (n' c' : Nat) (m : List (List UInt8)) (h : Sl strv w (.slice A n c) l) (h' : Sl strv w (.slice A' n' c') m) (hn : n ≤ 1000) (hn' : n' ≤ 1000) :
    Calls Tryd.prog 51 #[.slice A n c, .slice A' n' c'] w fun e w' => e = .returned (.int .i64 (ordL l m)) ∧ Chg No w w' := by
  have HL := Lib.hid h.len
  have HL' := Lib.hid h'.len
  have H := Lib.hid h
  have H' := Lib.hid h'
  have HR : Hid (ordL l m = ordL (l.drop 0) (m.drop 0)) := rfl
  generalize ordL l m = R at *
  clear h h'
  go_enter Tryd.func51, Tryd.ntmps51
  go_wp2
  go_loopw [11] (fun i wr => ∃ k : Nat, k ≤ n ∧ k ≤ n' ∧ i = .int .i64 (k : Int) ∧ Hid (R = ordL (l.drop k) (m.drop k)) ∧ Hid (Chg No w wr)) (fun i _ => n - (intOf i).toNat)
  case atStart => exact ⟨0, Nat.zero_le _, Nat.zero_le _, rfl, HR.out, Chg.refl _ _⟩
  case round =>
    obtain ⟨k, hk, hk2, rfl, HN, HC⟩ := hrel
    by_cases hlt : k < n
    · have hki : (k : Int) < (n : Int) := by omega
      obtain ⟨b, o, rfl, hcell⟩ := (H.out.no HC.out).addr (by rw [HL.out]; omega)
      have c0 := hcell k (by rw [HL.out]; exact hlt)
      have hdr : l.drop k = (l[k]'(by rw [HL.out]; exact hlt)) :: l.drop (k + 1) := List.drop_eq_getElem_cons (by rw [HL.out]; exact hlt)
      generalize l[k]'(by rw [HL.out]; exact hlt) = x at *
      have HDR := Lib.hid hdr
      clear hcell hdr
      rw [strv_text] at c0
      by_cases hlt2 : k < n'
      · have hki2 : (k : Int) < (n' : Int) := by omega
        have hki3 : ¬ (n' : Int) ≤ (k : Int) := by omega
        obtain ⟨b', o', rfl, hcell'⟩ := (H'.out.no HC.out).addr (by rw [HL'.out]; omega)
        have d0 := hcell' k (by rw [HL'.out]; exact hlt2)
        have hdr' : m.drop k = (m[k]'(by rw [HL'.out]; exact hlt2)) :: m.drop (k + 1) := List.drop_eq_getElem_cons (by rw [HL'.out]; exact hlt2)
        generalize m[k]'(by rw [HL'.out]; exact hlt2) = y at *
        have HDR' := Lib.hid hdr'
        clear hcell' hdr'
        rw [strv_text] at d0
        have HS : Hid (R = if Lib.compareBytes x y = 0 then ordL (l.drop (k + 1)) (m.drop (k + 1)) else Lib.compareBytes x y) := by rw [Hid, HN.out, ord_drop l m k x y HDR.out HDR'.out]
        have HCC := Lib.hid (cmpc_calls wr (mkS x) (mkS y))
        rw [mkS_list, mkS_list] at HCC
        generalize Lib.compareBytes x y = cc at *
        by_cases h0 : cc = 0
        · have hb : (cc != 0) = false := by rw [h0]; rfl
          have HS2 : Hid (R = ordL (l.drop (k + 1)) (m.drop (k + 1))) := by rw [Hid, HS.out, if_pos h0]
          clear h0
          go_wp2_with fail
          refine HCC.out.mono ?_
          rintro e w1 ⟨rfl, hw⟩
          obtain rfl := hw
          go_wp2
          go_roundw
          case rel => exact ⟨k + 1, by omega, by omega, by simp, HS2.out, HC.out⟩
          case measure => simp [intOf]; omega
        · have hb : (cc != 0) = true := by simpa using h0
          have HS2 : Hid (R = cc) := by rw [Hid, HS.out, if_neg h0]
          clear h0
          go_wp2_with fail
          refine HCC.out.mono ?_
          rintro e w1 ⟨rfl, hw⟩
          obtain rfl := hw
          go_wp2
          go_ret
          exact ⟨by rw [HS2.out]; rfl, HC.out⟩
      · have hki3 : (n' : Int) ≤ (k : Int) := by omega
        have HS2 : Hid (R = 1) := by rw [Hid, HN.out, HDR.out, dropE (l := m) (by rw [HL'.out]; omega)]; rfl
        go_wp2
        go_ret
        exact ⟨by rw [HS2.out]; rfl, HC.out⟩
    · have hki : ¬ (k : Int) < (n : Int) := by omega
      have hkn : k = n := by omega
      by_cases hlt2 : n < n'
      · have hb : (n : Int) < (n' : Int) := by omega
        have HS2 : Hid (R = -1) := by
          rw [Hid, HN.out, dropE (l := l) (by rw [HL.out]; omega), List.drop_eq_getElem_cons (l := m) (by rw [HL'.out]; omega)]; rfl
        go_wp2
        go_ret
        exact ⟨by rw [HS2.out]; rfl, HC.out⟩
      · have hb : ¬ (n : Int) < (n' : Int) := by omega
        have HS2 : Hid (R = 0) := by
          rw [Hid, HN.out, dropE (l := l) (by rw [HL.out]; omega), dropE (l := m) (by rw [HL'.out]; omega)]; rfl
        go_wp2
        go_ret
        exact ⟨by rw [HS2.out]; rfl, HC.out⟩
end Go.Proofs.YtkjbbidnpnecjaaDoor
