/-
  The walk of OctetNone: of a Reader that is not there.
-/
import Derived.Test.YtikfplfhndhjbaaLaw01w
namespace Go.Proofs.Ytikfplfhndhjbaa
open Go.RowKit
set_option linter.unusedVariables false
set_option linter.unusedSimpArgs false

set_option maxRecDepth 100000 in
set_option maxHeartbeats 800000 in
theorem octetNone_walk (a0 : Int) (w0 : (Lit.int .i64 a0).wf = true) (w : World) :
    Calls Try.prog 8 #[.int .i64 a0] w fun e w' => e = .returned (.bool true) ∧ Below w.heap.size w w' := by
  refine Calls.mono (R := fun e w' => e = .returned (.bool true) ∧ Chg No w w') ?_ (fun e w' h => ⟨h.1, h.2.below⟩)
  go_enter Try.func8, Try.ntmps8
  go_wp2_with fail
  refine (wakes_calls _).mono ?_
  rintro e w1 ⟨rfl, hc1⟩
  have HC1 := Lib.hid hc1
  clear hc1
  go_wp2_with (first | (go_at_call 33; refine (byte_none _).mono ?_; rintro e w' ⟨rfl, rfl⟩) | (go_at_call 20; refine (uint_none _).mono ?_; rintro e w' ⟨rfl, rfl⟩) | (go_at_call 34; refine (word_none _).mono ?_; rintro e w' ⟨rfl, rfl⟩) | (go_at_call 35; refine (text_none _ _).mono ?_; rintro e w' ⟨rfl, rfl⟩) | (go_at_call 36; refine (raw_none _ _).mono ?_; rintro e w' ⟨rfl, rfl⟩) | (go_at_call 22; refine (left_none _).mono ?_; rintro e w' ⟨rfl, rfl⟩) | (go_at_call 21; refine (err_none _).mono ?_; rintro e w' ⟨rfl, rfl⟩) | (go_at_call 31; refine (end_none _).mono ?_; rintro e w' ⟨rfl, rfl⟩) | (go_at_call 10; refine (wakes_calls _).mono ?_; rintro e w2 ⟨rfl, hc2⟩))
  go_ret
  exact ⟨rfl, HC1.out.no hc2⟩
end Go.Proofs.Ytikfplfhndhjbaa
