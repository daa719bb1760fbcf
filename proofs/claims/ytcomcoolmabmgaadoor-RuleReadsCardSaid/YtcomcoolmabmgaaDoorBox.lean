/-
  A box: a block of one cell.
-/
import Derived.Test.YtcomcoolmabmgaaDoorOwn
namespace Go.Proofs.YtcomcoolmabmgaaDoor
open Go.RowKit
set_option linter.unusedVariables false
set_option linter.unusedSimpArgs false

/-- Block g holds v, of type t. -/
def Box (t : TypeId) (w : World) (g : Nat) (v : Value) : Prop := w.heap[g]? = some (.cells #[v] t (0, 0))
section
variable {t : TypeId} {w w' : World} {g : Nat} {v : Value}
theorem Box.lt (h : Box t w g v) : g < w.heap.size := (Array.getElem?_eq_some_iff.1 h).1
theorem Box.c (h : Box t w g v) : w.cell? ⟨g, 0, none⟩ = some v := by simp [World.cell?, show w.heap[g]? = _ from h]
theorem Box.fr (h : Box t w g v) : w.frozen? ⟨g, 0, none⟩ = false := by simp [World.frozen?, show w.heap[g]? = _ from h]
theorem Box.set (h : Box t w g v) (u : Value) : Box t (w.setCell ⟨g, 0, none⟩ u) g u := by
  unfold Box World.setCell
  simp [Array.getElem?_modify, show w.heap[g]? = _ from h]
theorem Box.chg {S : Nat → Prop} (h : Box t w g v) (hc : Chg S w w') (hs : ¬ S g) : Box t w' g v := hc.heap h hs
theorem Box.no (h : Box t w g v) (hc : Chg No w w') : Box t w' g v := h.chg hc (fun x => x)
theorem Box.put (h : Box t w g v) {k : Nat} (hk : g ≠ k) (o : Nat) (u : Value) : Box t (w.setCell ⟨k, o, none⟩ u) g v := h.chg (Chg.put w k o u) hk
theorem Box.new (w : World) (v : Value) (t : TypeId) : Box t (w.alloc (.cells #[v] t)) w.heap.size v := heap_alloc_new w _
/-- A row of bytes does not lie in a box of another type. -/
theorem OwnB.apart {base : Nat} {xs : List UInt8} {u : Value} (ho : OwnB w base v xs) (h : Box t w g u) (ht : t ≠ 5) : ∀ b, v.ownBlock = some b → ¬ One g b := by
  intro b hb hx
  have hx : b = g := hx
  subst hx
  obtain ⟨c, fz, hc⟩ := ho.cells b hb
  have := hc.symm.trans h
  simp only [Option.some.injEq, Obj.cells.injEq] at this
  exact ht this.2.1.symm
end
end Go.Proofs.YtcomcoolmabmgaaDoor
