/-
  The walk of QuoteTexts.
-/
import Derived.Test.YtpeedclcnfbppaaQ16
import Derived.Test.YtpeedclcnfbppaaBulk
namespace Go.Proofs.Ytpeedclcnfbppaa
open Go.RowKit
set_option linter.unusedVariables false
set_option linter.unusedSimpArgs false
set_option maxRecDepth 100000

set_option maxHeartbeats 1600000 in
theorem quoteTexts_walk (w : World) (s : ByteArray) (hs : s.size ≤ 1048576) :
    Calls Try.prog 5 #[.string s] w fun e w' => e = .returned (.bool true) ∧ Below w.heap.size w w' := by
  refine Calls.mono (R := fun e w' => e = .returned (.bool true) ∧ Chg No w w') ?_ (fun e w' h => ⟨h.1, h.2.below⟩)
  have CW := Lib.hid wakes_calls
  have CU := Lib.hid (fun w => unquote_calls w s (by omega))
  have CRU := Lib.hid (fun w => runquote_calls w s (by omega))
  have CQ := Lib.hid (fun w => quote_calls w s (by omega))
  have CRQ := Lib.hid (fun w => rquote_calls w s (by omega))
  have CP := Lib.hid (fun w => plain_calls w s (by omega))
  have CRP := Lib.hid (fun w => rplain_calls w s (by omega))
  have CWO := Lib.hid (fun w => word_calls w s (by omega))
  have HWD : Hid (wordF s.data.toList = if plainF s.data.toList then s.data.toList else quoteF s.data.toList) := rfl
  have HS : Hid (mkS s.data.toList = s) := mkS_self s
  generalize unqF s.data.toList = o at CU CRU
  generalize quoteF s.data.toList = Q at *
  generalize hP : plainF s.data.toList = P at *
  clear hP
  have HC : Hid (Chg No w w) := Chg.refl No w
  cases o with
  | none =>
    simp only [plainlyR] at CU CRU
    cases P with
    | true =>
      rw [HWD.out, if_pos rfl, HS.out] at CWO
      go_enter Try.func5, Try.ntmps5
      go_wp2_with (first | (go_at_call 9; refine (CW.out _).mono ?_; rintro e w' ⟨rfl, hc⟩; replace HC := Lib.hid (HC.out.no hc); clear hc) | (go_at_call 14; refine (CU.out _).mono ?_; rintro e w' ⟨rfl, hc⟩; replace HC := Lib.hid (HC.out.no hc); clear hc) | (go_at_call 15; refine (CRU.out _).mono ?_; rintro e w' ⟨rfl, hc⟩; replace HC := Lib.hid (HC.out.no hc); clear hc) | (go_at_call 13; refine (CQ.out _).mono ?_; rintro e w' ⟨rfl, hc⟩; replace HC := Lib.hid (HC.out.no hc); clear hc) | (go_at_call 16; refine (CRQ.out _).mono ?_; rintro e w' ⟨rfl, hc⟩; replace HC := Lib.hid (HC.out.no hc); clear hc) | (go_at_call 18; refine (CP.out _).mono ?_; rintro e w' ⟨rfl, hc⟩; replace HC := Lib.hid (HC.out.no hc); clear hc) | (go_at_call 17; refine (CRP.out _).mono ?_; rintro e w' ⟨rfl, hc⟩; replace HC := Lib.hid (HC.out.no hc); clear hc) | (go_at_call 19; refine (CWO.out _).mono ?_; rintro e w' ⟨rfl, hc⟩; replace HC := Lib.hid (HC.out.no hc); clear hc))
      go_ret
      exact ⟨rfl, HC.out⟩
    | false =>
      rw [HWD.out, if_neg (by decide)] at CWO
      go_enter Try.func5, Try.ntmps5
      go_wp2_with (first | (go_at_call 9; refine (CW.out _).mono ?_; rintro e w' ⟨rfl, hc⟩; replace HC := Lib.hid (HC.out.no hc); clear hc) | (go_at_call 14; refine (CU.out _).mono ?_; rintro e w' ⟨rfl, hc⟩; replace HC := Lib.hid (HC.out.no hc); clear hc) | (go_at_call 15; refine (CRU.out _).mono ?_; rintro e w' ⟨rfl, hc⟩; replace HC := Lib.hid (HC.out.no hc); clear hc) | (go_at_call 13; refine (CQ.out _).mono ?_; rintro e w' ⟨rfl, hc⟩; replace HC := Lib.hid (HC.out.no hc); clear hc) | (go_at_call 16; refine (CRQ.out _).mono ?_; rintro e w' ⟨rfl, hc⟩; replace HC := Lib.hid (HC.out.no hc); clear hc) | (go_at_call 18; refine (CP.out _).mono ?_; rintro e w' ⟨rfl, hc⟩; replace HC := Lib.hid (HC.out.no hc); clear hc) | (go_at_call 17; refine (CRP.out _).mono ?_; rintro e w' ⟨rfl, hc⟩; replace HC := Lib.hid (HC.out.no hc); clear hc) | (go_at_call 19; refine (CWO.out _).mono ?_; rintro e w' ⟨rfl, hc⟩; replace HC := Lib.hid (HC.out.no hc); clear hc))
      go_ret
      exact ⟨rfl, HC.out⟩
  | some t =>
    simp only [plainlyR] at CU CRU
    cases P with
    | true =>
      rw [HWD.out, if_pos rfl, HS.out] at CWO
      go_enter Try.func5, Try.ntmps5
      go_wp2_with (first | (go_at_call 9; refine (CW.out _).mono ?_; rintro e w' ⟨rfl, hc⟩; replace HC := Lib.hid (HC.out.no hc); clear hc) | (go_at_call 14; refine (CU.out _).mono ?_; rintro e w' ⟨rfl, hc⟩; replace HC := Lib.hid (HC.out.no hc); clear hc) | (go_at_call 15; refine (CRU.out _).mono ?_; rintro e w' ⟨rfl, hc⟩; replace HC := Lib.hid (HC.out.no hc); clear hc) | (go_at_call 13; refine (CQ.out _).mono ?_; rintro e w' ⟨rfl, hc⟩; replace HC := Lib.hid (HC.out.no hc); clear hc) | (go_at_call 16; refine (CRQ.out _).mono ?_; rintro e w' ⟨rfl, hc⟩; replace HC := Lib.hid (HC.out.no hc); clear hc) | (go_at_call 18; refine (CP.out _).mono ?_; rintro e w' ⟨rfl, hc⟩; replace HC := Lib.hid (HC.out.no hc); clear hc) | (go_at_call 17; refine (CRP.out _).mono ?_; rintro e w' ⟨rfl, hc⟩; replace HC := Lib.hid (HC.out.no hc); clear hc) | (go_at_call 19; refine (CWO.out _).mono ?_; rintro e w' ⟨rfl, hc⟩; replace HC := Lib.hid (HC.out.no hc); clear hc))
      go_ret
      exact ⟨rfl, HC.out⟩
    | false =>
      rw [HWD.out, if_neg (by decide)] at CWO
      go_enter Try.func5, Try.ntmps5
      go_wp2_with (first | (go_at_call 9; refine (CW.out _).mono ?_; rintro e w' ⟨rfl, hc⟩; replace HC := Lib.hid (HC.out.no hc); clear hc) | (go_at_call 14; refine (CU.out _).mono ?_; rintro e w' ⟨rfl, hc⟩; replace HC := Lib.hid (HC.out.no hc); clear hc) | (go_at_call 15; refine (CRU.out _).mono ?_; rintro e w' ⟨rfl, hc⟩; replace HC := Lib.hid (HC.out.no hc); clear hc) | (go_at_call 13; refine (CQ.out _).mono ?_; rintro e w' ⟨rfl, hc⟩; replace HC := Lib.hid (HC.out.no hc); clear hc) | (go_at_call 16; refine (CRQ.out _).mono ?_; rintro e w' ⟨rfl, hc⟩; replace HC := Lib.hid (HC.out.no hc); clear hc) | (go_at_call 18; refine (CP.out _).mono ?_; rintro e w' ⟨rfl, hc⟩; replace HC := Lib.hid (HC.out.no hc); clear hc) | (go_at_call 17; refine (CRP.out _).mono ?_; rintro e w' ⟨rfl, hc⟩; replace HC := Lib.hid (HC.out.no hc); clear hc) | (go_at_call 19; refine (CWO.out _).mono ?_; rintro e w' ⟨rfl, hc⟩; replace HC := Lib.hid (HC.out.no hc); clear hc))
      go_ret
      exact ⟨rfl, HC.out⟩
end Go.Proofs.Ytpeedclcnfbppaa
