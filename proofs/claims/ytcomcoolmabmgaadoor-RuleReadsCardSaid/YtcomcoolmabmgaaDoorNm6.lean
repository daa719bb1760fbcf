/-
  Names: wakes, cut.
-/
import Derived.Test.YtcomcoolmabmgaaDoorNm5
namespace Go.Proofs.YtcomcoolmabmgaaDoor
open Go.RowKit
set_option linter.unusedVariables false
set_option linter.unusedSimpArgs false
set_option maxRecDepth 100000

theorem move_ex : moveF [97, 47, 98] [97] [120, 47, 121] = ([120, 47, 121, 47, 98], 0) := by decide +kernel
theorem in_ex1 : (restF [97, 47, 98] [97]).2 = true := by decide +kernel
theorem in_ex2 : (restF [97, 98] [97]).2 = false := by decide +kernel
theorem spot_ex : spotF [47] = (140, 0) := by decide +kernel
/-- A text of at most 4096 bytes. -/
def cutL (p : List UInt8) : List UInt8 := p.take 4096
theorem cutL_len (p : List UInt8) : (cutL p).length ≤ 4096 := by rw [cutL, List.length_take]; omega
end Go.Proofs.YtcomcoolmabmgaaDoor
