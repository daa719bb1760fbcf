/-
  Names: orders: cmp.Compare, slices.Compare, the reference's Order, Compare.
-/
import Derived.Test.YtkjbbidnpnecjaaDoorNm13
namespace Go.Proofs.YtkjbbidnpnecjaaDoor
open Go.RowKit
set_option linter.unusedVariables false
set_option linter.unusedSimpArgs false
set_option maxRecDepth 100000

set_option maxHeartbeats 6400000 in
theorem order_calls (w : World) (A : Option Addr) (n c : Nat) (l : List (List UInt8)) (A' : Option Addr) (n' c' : Nat) (m : List (List UInt8)) (h : Sl strv w (.slice A n c) l) (h' : Sl strv w (.slice A' n' c') m) (hn : n ≤ 1000) (hn' : n' ≤ 1000) :
    Calls Tryd.prog 52 #[.slice A n c, .slice A' n' c'] w fun e w' => e = .returned (.int .i64 (ordL l m)) ∧ Chg No w w' := by
  have HL := Lib.hid h.len
  have HL' := Lib.hid h'.len
  have H := Lib.hid h
  have H' := Lib.hid h'
  have HR : Hid (ordL l m = ordL (l.drop 0) (m.drop 0)) := rfl
  generalize ordL l m = R at *
  clear h h'
  go_enter Tryd.func52, Tryd.ntmps52
  go_wp2
  go_loopw [5] (fun i wr => ∃ k : Nat, k ≤ n ∧ k ≤ n' ∧ i = .int .i64 (k : Int) ∧ Hid (R = ordL (l.drop k) (m.drop k)) ∧ Hid (Chg No w wr)) (fun i _ => n - (intOf i).toNat)
  case atStart => exact ⟨0, Nat.zero_le _, Nat.zero_le _, rfl, HR.out, Chg.refl _ _⟩
  case round =>
    obtain ⟨k, hk, hk2, rfl, HN, HC⟩ := hrel
    by_cases hlt : k < n
    · have hki : (k : Int) < (n : Int) := by omega
      by_cases hlt2 : k < n'
      · obtain ⟨b, o, rfl, hcell⟩ := (H.out.no HC.out).addr (by rw [HL.out]; omega)
        have c0 := hcell k (by rw [HL.out]; exact hlt)
        have hdr : l.drop k = (l[k]'(by rw [HL.out]; exact hlt)) :: l.drop (k + 1) := List.drop_eq_getElem_cons (by rw [HL.out]; exact hlt)
        generalize l[k]'(by rw [HL.out]; exact hlt) = x at *
        have HDR := Lib.hid hdr
        clear hcell hdr
        rw [strv_text] at c0
        have hki2 : (k : Int) < (n' : Int) := by omega
        obtain ⟨b', o', rfl, hcell'⟩ := (H'.out.no HC.out).addr (by rw [HL'.out]; omega)
        have d0 := hcell' k (by rw [HL'.out]; exact hlt2)
        have hdr' : m.drop k = (m[k]'(by rw [HL'.out]; exact hlt2)) :: m.drop (k + 1) := List.drop_eq_getElem_cons (by rw [HL'.out]; exact hlt2)
        generalize m[k]'(by rw [HL'.out]; exact hlt2) = y at *
        have HDR' := Lib.hid hdr'
        clear hcell' hdr'
        rw [strv_text] at d0
        have HS : Hid (R = if Lib.compareBytes x y = 0 then ordL (l.drop (k + 1)) (m.drop (k + 1)) else Lib.compareBytes x y) := by rw [Hid, HN.out, ord_drop l m k x y HDR.out HDR'.out]
        have HCC := Lib.hid fun W => Tryd.strings_Compare (mkS x) (mkS y) W
        rw [mkS_list, mkS_list] at HCC
        generalize Lib.compareBytes x y = cc at *
        by_cases h0 : cc = 0
        · have hb : (cc != 0) = false := by rw [h0]; rfl
          have HS2 : Hid (R = ordL (l.drop (k + 1)) (m.drop (k + 1))) := by rw [Hid, HS.out, if_pos h0]
          clear h0
          go_wp2
          go_quiet ((go_at_call 39; exact Calls.quiet_of_same (HCC.out _)))
          go_wp2
          go_roundw
          case rel => exact ⟨k + 1, by omega, by omega, by simp, HS2.out, by first | exact HC.out | exact HC.out.drewN _⟩
          case measure => simp [intOf]; omega
        · have hb : (cc != 0) = true := by simpa using h0
          have HS2 : Hid (R = cc) := by rw [Hid, HS.out, if_neg h0]
          clear h0
          go_wp2
          go_quiet ((go_at_call 39; exact Calls.quiet_of_same (HCC.out _)))
          go_wp2
          go_ret
          exact ⟨by rw [HS2.out]; rfl, by first | exact HC.out | exact HC.out.drewN _⟩
      · have hki2 : ¬ (k : Int) < (n' : Int) := by omega
        have hd : decide ((k : Int) < (n' : Int)) = false := decide_eq_false hki2
        have hb : ¬ (n : Int) < (n' : Int) := by omega
        have hb2 : (n' : Int) < (n : Int) := by omega
        have HS2 : Hid (R = 1) := by
          rw [Hid, HN.out, dropE (l := m) (by rw [HL'.out]; omega), List.drop_eq_getElem_cons (l := l) (by rw [HL.out]; omega)]; rfl
        go_wp2
        go_ret
        exact ⟨by rw [HS2.out]; rfl, HC.out⟩
    · have hki : ¬ (k : Int) < (n : Int) := by omega
      have hd : decide ((k : Int) < (n : Int)) = false := decide_eq_false hki
      have hkn : k = n := by omega
      by_cases hlt2 : n < n'
      · have hb : (n : Int) < (n' : Int) := by omega
        have HS2 : Hid (R = -1) := by
          rw [Hid, HN.out, dropE (l := l) (by rw [HL.out]; omega), List.drop_eq_getElem_cons (l := m) (by rw [HL'.out]; omega)]; rfl
        go_wp2
        go_ret
        exact ⟨by rw [HS2.out]; rfl, HC.out⟩
      · have hb : ¬ (n : Int) < (n' : Int) := by omega
        have hb2 : ¬ (n' : Int) < (n : Int) := by omega
        have HS2 : Hid (R = 0) := by
          rw [Hid, HN.out, dropE (l := l) (by rw [HL.out]; omega), dropE (l := m) (by rw [HL'.out]; omega)]; rfl
        go_wp2
        go_ret
        exact ⟨by rw [HS2.out]; rfl, HC.out⟩
end Go.Proofs.YtkjbbidnpnecjaaDoor
