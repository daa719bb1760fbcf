/-
  The walk of QuoteWords.
-/
import Derived.Test.YtpeedclcnfbppaaQ17
import Derived.Test.YtpeedclcnfbppaaQ16
import Derived.Test.YtpeedclcnfbppaaBulk
namespace Go.Proofs.Ytpeedclcnfbppaa
open Go.RowKit
set_option linter.unusedVariables false
set_option linter.unusedSimpArgs false
set_option maxRecDepth 100000

set_option maxHeartbeats 1600000 in
theorem quoteWords_walk (w : World) (s : ByteArray) (hs : s.size ≤ 1048576) :
    Calls Try.prog 3 #[.string s] w fun e w' => e = .returned (.bool true) ∧ Below w.heap.size w w' := by
  refine Calls.mono (R := fun e w' => e = .returned (.bool true) ∧ Chg No w w') ?_ (fun e w' h => ⟨h.1, h.2.below⟩)
  have CW := Lib.hid (fun w => words_calls w s (by omega))
  have CRW := Lib.hid (fun w => rwords_calls w s (by omega))
  generalize wordsF 0 [] s.data.toList = r at CW CRW
  go_enter Try.func3, Try.ntmps3
  go_wp2_with fail
  refine (wakes_calls _).mono ?_
  rintro e w1 ⟨rfl, hc1⟩
  have HC := Lib.hid hc1
  clear hc1
  go_wp2_with fail
  refine (CW.out _).mono ?_
  rintro e w2 ⟨hr2, hc2⟩
  have HC2 : Hid (Chg No w w2) := HC.out.no hc2
  clear HC hc2
  cases r with
  | inl p =>
    obtain rfl : e = _ := hr2
    have hp0 : 0 ≤ (p : Int) := by omega
    go_wp2_with fail
    refine (CRW.out _).mono ?_
    rintro e w3 ⟨hr3, hc3⟩
    obtain rfl : e = _ := hr3
    have HC3 : Hid (Chg No w w3) := (HC2.out.alloc _).no hc3
    obtain ⟨r0, r1, r2, r3⟩ := cells2 (hc3.heap (heap_alloc_new w2 _) (fun x => x))
    clear hc3
    go_wp2_with fail
    refine (wakes_calls _).mono ?_
    rintro e w4 ⟨rfl, hc4⟩
    have HC4 : Hid (Chg No w w4) := HC3.out.no hc4
    clear hc4
    go_wp2
    go_ret
    exact ⟨rfl, HC4.out⟩
  | inr ws =>
    obtain ⟨A, n, c, rfl, hl, ho⟩ := hr2
    have HO := Lib.hid ho
    have HL := Lib.hid hl
    clear ho hl
    go_wp2_with fail
    refine (CRW.out _).mono ?_
    rintro e w3 ⟨⟨B, m, d, rfl, hl3, ho3⟩, hc3⟩
    have HC3 : Hid (Chg No w w3) := (HC2.out.alloc _).no hc3
    have HO3 := Lib.hid ho3
    have HL3 := Lib.hid hl3
    have HO2 : Hid (w3.ownsRow _ 9 1 (.slice A n c) n (strs ws)) := own_chg (own_chg HO.out ((Chg.refl No _).alloc _) (fun _ _ x => x)) hc3 (fun _ _ x => x)
    obtain ⟨r0, r1, r2, r3⟩ := cells2 (hc3.heap (heap_alloc_new w2 _) (fun x => x))
    have hnb : n ≤ 9223372036854775807 := by
      obtain ⟨A', c', he, h1, h2, _⟩ := Holds.ofOwn HO.out
      simp only [Value.slice.injEq, true_and] at he
      obtain ⟨rfl, rfl⟩ := he
      have : maxLen ≤ 9223372036854775807 := by decide
      omega
    clear hc3 ho3 hl3
    have HSM : Hid (∀ w1, Chg No w3 w1 → Calls Try.prog 12 #[.slice A n c, .slice B m d] w1 fun e w' => e = .returned (.bool true) ∧ Chg No w1 w') := by
      intro w1 hc
      have h := same_calls w1 A B n c m d ws ws (Holds.no (Holds.ofOwn HO2.out) hc) HL.out (Holds.no (Holds.ofOwn HO3.out) hc) HL3.out hnb (by rw [← HL3.out, HL.out]; exact hnb)
      rw [decide_eq_true rfl] at h
      exact h
    go_wp2_with fail
    refine (HSM.out _ (Chg.refl _ _)).mono ?_
    rintro e w4 ⟨rfl, hc4⟩
    have HC4 : Hid (Chg No w w4) := HC3.out.no hc4
    clear hc4
    go_wp2_with fail
    refine (wakes_calls _).mono ?_
    rintro e w5 ⟨rfl, hc5⟩
    have HC5 : Hid (Chg No w w5) := HC4.out.no hc5
    clear hc5
    go_wp2
    go_ret
    exact ⟨rfl, HC5.out⟩
end Go.Proofs.Ytpeedclcnfbppaa
