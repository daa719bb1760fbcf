/-
  The walk of QuoteBack.
-/
import Derived.Test.YtpeedclcnfbppaaQ19
import Derived.Test.YtpeedclcnfbppaaBulk
namespace Go.Proofs.Ytpeedclcnfbppaa
open Go.RowKit
set_option linter.unusedVariables false
set_option linter.unusedSimpArgs false
set_option maxRecDepth 100000

set_option maxHeartbeats 3200000 in
theorem quoteBack_core (w : World) (A : Option Addr) (n c : Nat) (ws : List (List UInt8)) (hw : Holds w (.slice A n c) n (strs ws)) (hl : ws.length = n) (hn : n ≤ 1048576) (ht : Lib.lens ws ≤ 1048576) :
    Calls Try.prog 6 #[.slice A n c] w fun e w' => e = .returned (.bool true) ∧ Chg No w w' := by
  have HW := Lib.hid hw
  have HL := Lib.hid hl
  have HT := Lib.hid ht
  clear hw hl
  go_enter Try.func6, Try.ntmps6
  go_wp2_with fail
  refine (wakes_calls _).mono ?_
  rintro e w1 ⟨rfl, hc1⟩
  have HC1 := Lib.hid hc1
  clear hc1
  go_wp2
  go_loopw [13] (fun i wr => ∃ (k : Nat), k ≤ n ∧ i = .int .i64 (k : Int) ∧ Hid (Chg No w wr)) (fun i _ => n - (intOf i).toNat)
  case atStart => exact ⟨0, Nat.zero_le _, rfl, HC1.out⟩
  case round =>
    clear HC1
    obtain ⟨k, hk, rfl, HC⟩ := hrel
    by_cases hlt : k < n
    · have i1 : (k : Int) < (n : Int) := by omega
      obtain ⟨b, o, rfl, hc⟩ := hold_addr (Holds.no HW.out HC.out) HL.out (by omega)
      have hkx : k < ws.length := by rw [HL.out]; exact hlt
      have hck := hc k hkx
      clear hc
      have hxl : ws[k].length ≤ 1048576 := Nat.le_trans (mem_lens (List.getElem_mem hkx)) HT.out
      generalize ws[k] = x at *
      have CQ := Lib.hid (fun w => quote_calls w (mkS x) (by rw [mkS_size]; omega))
      have CU := Lib.hid (fun w => unquote_calls w (mkS (quoteF x)) (by rw [mkS_size]; have := quoteF_le x; omega))
      simp only [mkS_list, unq_quote, plainlyR] at CQ CU
      have hb : ((mkS x).toList == (mkS x).toList) = true := by simp
      go_wp2_with (first | (go_at_call 13; refine (CQ.out _).mono ?_; rintro e w' ⟨rfl, hc⟩; replace HC := Lib.hid (HC.out.no hc); clear hc) | (go_at_call 14; refine (CU.out _).mono ?_; rintro e w' ⟨rfl, hc⟩; replace HC := Lib.hid (HC.out.no hc); clear hc))
      go_roundw
      case rel => exact ⟨k + 1, by omega, by go_num, HC.out⟩
      case measure => simp only [intOf]; omega
    · have i1 : ¬ ((k : Int) < (n : Int)) := by omega
      have HH := Lib.hid (Holds.no HW.out HC.out)
      have hll : (mkS (lineF ws)).size ≤ 8796093022000 := by
        rw [mkS_size]
        have := lineF_le ws
        have h1 := HT.out
        have h2 := HL.out
        omega
      have CW := Lib.hid (fun w => words_calls w (mkS (lineF ws)) hll)
      simp only [mkS_list, words_line] at CW
      clear hll
      go_wp2_with fail
      refine (line_calls _ A n c ws HH.out HL.out hn HT.out).mono ?_
      rintro e w2 ⟨rfl, hc2⟩
      have HC2 : Hid (Chg No w w2) := HC.out.no hc2
      clear hc2 HC HH
      go_wp2_with fail
      refine (CW.out _).mono ?_
      rintro e w3 ⟨⟨B, m, d, rfl, hl3, ho3⟩, hc3⟩
      have HC3 : Hid (Chg No w w3) := HC2.out.no hc3
      have HO3 := Lib.hid ho3
      have hmn : m = n := by rw [← hl3, HL.out]
      subst hmn
      clear hc3 ho3 hl3 HC2
      have HSM : Hid (∀ w1, Chg No w3 w1 → Calls Try.prog 12 #[.slice B m d, .slice A m c] w1 fun e w' => e = .returned (.bool true) ∧ Chg No w1 w') := by
        intro w1 hc
        have h := same_calls w1 B A m d m c ws ws (Holds.no (Holds.ofOwn HO3.out) hc) HL.out (Holds.no HW.out (HC3.out.no hc)) HL.out (by omega) (by omega)
        rw [decide_eq_true rfl] at h
        exact h
      go_wp2_with fail
      refine (HSM.out _ ((Chg.refl No _).alloc _)).mono ?_
      rintro e w4 ⟨rfl, hc4⟩
      have HC4 : Hid (Chg No w w4) := (HC3.out.alloc _).no hc4
      clear hc4
      go_wp2_with fail
      refine (wakes_calls _).mono ?_
      rintro e w5 ⟨rfl, hc5⟩
      have HC5 : Hid (Chg No w w5) := HC4.out.no hc5
      clear hc5
      go_wp2
      go_ret
      exact ⟨rfl, HC5.out⟩

theorem lens_bulk {H : Type} (ts : List (List UInt8)) : Lib.lens ts ≤ Rows.uptoBulkAll (ts.map fun s => (DataW.lit (.string s) : DataW H)) := by
  induction ts with
  | nil => simp [Lib.lens]
  | cons s t ih =>
    simp only [List.map_cons, Rows.uptoBulkAll, bulks.string_eq, Lib.lens, List.sum_cons] at ih ⊢
    omega
theorem texts_bound {H : Type} {d : DataW H} {ts : List (List UInt8)} {n : Nat} (hl : ts.length = n) (hd : ts = [] ∨ ∃ spare, d = .slice (ts.map fun s => .lit (.string s)) spare) (hb : Rows.uptoBulk d ≤ 1048576) : n ≤ 1048576 ∧ Lib.lens ts ≤ 1048576 := by
  rcases hd with rfl | ⟨spare, rfl⟩
  · subst hl; exact ⟨by simp, by simp [Lib.lens]⟩
  · rw [bulks.slice_eq] at hb
    have h1 := lens_bulk (H := H) ts
    have h2 := bulks.all_ge (H := H) (ts.map fun s => .lit (.string s))
    rw [List.length_map] at h2
    exact ⟨by omega, by omega⟩
theorem quoteBack_walk (w : World) (A : Option Addr) (n c : Nat) (ws : List (List UInt8)) (hw : Sl strv w (.slice A n c) ws) (hb : n ≤ 1048576 ∧ Lib.lens ws ≤ 1048576) :
    Calls Try.prog 6 #[.slice A n c] w fun e w' => e = .returned (.bool true) ∧ Below w.heap.size w w' := by
  have hl := hw.len
  subst hl
  exact (quoteBack_core w A ws.length c ws hw rfl hb.1 hb.2).mono fun e w' h => ⟨h.1, h.2.below⟩
end Go.Proofs.Ytpeedclcnfbppaa
