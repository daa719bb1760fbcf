/-
  name.Check.
-/
import Derived.Test.YtcomcoolmabmgaaDoorN1
import Derived.Test.YtcomcoolmabmgaaDoorBox
import Derived.Laws.RangeAny
namespace Go.Proofs.YtcomcoolmabmgaaDoor
open Go.RowKit
set_option linter.unusedVariables false
set_option linter.unusedSimpArgs false
set_option maxRecDepth 100000

theorem look_no (w : World) (gw ga gl : Nat) (e wr : Int) (ah la : Nat) (h1 : Box 3 w gw (.int .i64 wr)) (h2 : Box 21 w ga (.int .i32 (ah : Int))) (h3 : Box 3 w gl (.int .i64 (la : Int)))
    (he : 0 ≤ e ∧ e < 1000) (hl : la < 1000) (h : 0 ≤ wr ∨ ah ≠ 65533 ∨ 3 ≤ e - la) :
    Calls Tryd.prog 84 #[.int .i64 e, .pointer (some ⟨gw, 0, none⟩), .pointer (some ⟨ga, 0, none⟩), .pointer (some ⟨gl, 0, none⟩)] w fun r w' => r = .returned (.tuple #[]) ∧ w' = w := by
  have c1 := h1.c
  have c2 := h2.c
  have c3 := h3.c
  clear h1 h2 h3
  by_cases q1 : wr < 0
  · by_cases q2 : ah = 65533
    · have b2 : ((ah : Int) == 65533) = true := by rw [q2]; rfl
      have q3 : ¬ e - (la : Int) < 3 := by omega
      clear h q2
      go_enter Tryd.func84, Tryd.ntmps84
      go_wp2
      go_end0
      exact ⟨rfl, rfl⟩
    · have b2 : ((ah : Int) == 65533) = false := by simp; omega
      clear h q2
      go_enter Tryd.func84, Tryd.ntmps84
      go_wp2
      go_end0
      exact ⟨rfl, rfl⟩
  · clear h
    go_enter Tryd.func84, Tryd.ntmps84
    go_wp2
    go_end0
    exact ⟨rfl, rfl⟩
theorem look_yes (w : World) (gw ga gl : Nat) (e wr : Int) (ah la : Nat) (h1 : Box 3 w gw (.int .i64 wr)) (h2 : Box 21 w ga (.int .i32 (ah : Int))) (h3 : Box 3 w gl (.int .i64 (la : Int)))
    (he : 0 ≤ e ∧ e < 1000) (hl : la < 1000) (q1 : wr < 0) (q2 : ah = 65533) (q3 : e - la < 3) :
    Calls Tryd.prog 84 #[.int .i64 e, .pointer (some ⟨gw, 0, none⟩), .pointer (some ⟨ga, 0, none⟩), .pointer (some ⟨gl, 0, none⟩)] w fun r w' => r = .returned (.tuple #[]) ∧ w' = w.setCell ⟨gw, 0, none⟩ (.int .i64 (la : Int)) := by
  have c1 := h1.c
  have c2 := h2.c
  have c3 := h3.c
  have f1 := h1.fr
  have b2 : ((ah : Int) == 65533) = true := by rw [q2]; rfl
  clear h1 h2 h3 q2
  go_enter Tryd.func84, Tryd.ntmps84
  go_wp2
  go_end0
  exact ⟨rfl, rfl⟩
end Go.Proofs.YtcomcoolmabmgaaDoor
