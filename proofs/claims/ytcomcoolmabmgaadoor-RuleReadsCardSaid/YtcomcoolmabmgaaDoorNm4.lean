/-
  Names: slices.Grow, slices.Concat of two rows; Join.
-/
import Derived.Test.YtcomcoolmabmgaaDoorNm3
import Derived.Shelf.Spec.SlicesGrow
namespace Go.Proofs.YtcomcoolmabmgaaDoor
open Go.RowKit
set_option linter.unusedVariables false
set_option linter.unusedSimpArgs false
set_option maxRecDepth 100000

theorem infoStr1 : (Tryd.prog.info? 9).map (fun i => (i.zero, i.size, i.bytes)) = some (some (.string ⟨#[]⟩), 1, 16) := by kernel_rfl
theorem Src.ofStrs {w : World} {A : Option Addr} {n c : Nat} {l : List (List UInt8)} (h : Sl strv w (.slice A n c) l) : Src Tryd.prog 1 43 (.slice A n c) n (l.map strv) w := by
  have hl := h.len
  refine Src.ofHolds w Tryd.underlying43 (m := n) (by have := h; rw [Sl, hl] at this; exact this) (by rw [List.length_map, hl]; simp) (by omega) ?_
  intro u hu
  obtain ⟨x, -, rfl⟩ := List.mem_map.1 hu
  rfl
end Go.Proofs.YtcomcoolmabmgaaDoor
