/-
  Rows of bytes of the call's own, with no function of this program: for every seat (out of XQ4).
-/
import Derived.Test.YtcomcoolmabmgaaDoorRep3
namespace Go.Proofs.YtcomcoolmabmgaaDoor
open Go.RowKit
set_option linter.unusedVariables false
set_option linter.unusedSimpArgs false

theorem OwnB.n {w : World} {base n : Nat} {v : Value} {xs : List UInt8} (h : OwnB w base v xs) (hl : xs.length = n) : w.ownsRow base 5 1 v n (u8s xs) := by subst hl; exact h
theorem OwnB.lit (w : World) (bs : List UInt8) (hb : bs.length ≤ maxLen) : OwnB (w.alloc (.cells (u8s bs).toArray 5)) w.heap.size (.slice (some ⟨w.heap.size, 0, none⟩) bs.length bs.length) bs :=
  ⟨by simp, .inr ⟨w.heap.size, bs.length, (u8s bs).toArray, rfl, Nat.le_refl _, heap_alloc_new w _, Nat.le_refl _, hb, by simp, by simp; exact List.take_of_length_le (by simp)⟩⟩
theorem OwnB.form {w : World} {base : Nat} {v : Value} {xs : List UInt8} (h : OwnB w base v xs) : ∃ A n c, v = .slice A n c ∧ Hid (xs.length = n) ∧ Hid (OwnB w base (.slice A n c) xs) := by
  obtain ⟨A, c, rfl, -, -⟩ := h.bytes.form
  exact ⟨A, _, c, rfl, rfl, h⟩
end Go.Proofs.YtcomcoolmabmgaaDoor
