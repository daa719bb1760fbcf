/-
  Names: Join, Rest, In, Move; wakes.
-/
import Derived.Test.YtcomcoolmabmgaaDoorNm4
namespace Go.Proofs.YtcomcoolmabmgaaDoor
open Go.RowKit
set_option linter.unusedVariables false
set_option linter.unusedSimpArgs false
set_option maxRecDepth 100000

theorem sl2 (w : World) (p q : List UInt8) : Sl strv (w.alloc (.cells #[.string (mkS p), .string (mkS q)] 9)) (.slice (some ⟨w.heap.size, 0, none⟩) 2 2) [p, q] := (OwnS.lit w [p, q] (by unfold maxLen; simp)).sl rfl
theorem sl3 (w : World) (p q r : List UInt8) : Sl strv (w.alloc (.cells #[.string (mkS p), .string (mkS q), .string (mkS r)] 9)) (.slice (some ⟨w.heap.size, 0, none⟩) 3 3) [p, q, r] := (OwnS.lit w [p, q, r] (by unfold maxLen; simp)).sl rfl
theorem sl1 (w : World) (p : List UInt8) : Sl strv (w.alloc (.cells #[.string (mkS p)] 9)) (.slice (some ⟨w.heap.size, 0, none⟩) 1 1) [p] := (OwnS.lit w [p] (by unfold maxLen; simp)).sl rfl
theorem path_len {p : List UInt8} (h : (pathF p).1 = 0) : p.length ≤ 200 := by
  unfold pathF at h
  split at h
  · cases h
  · omega
theorem isF_zero {l : List (List UInt8)} : isF l = 0 ↔ ∀ p ∈ l, (pathF p).1 = 0 := by
  induction l with
  | nil => simp [isF]
  | cons p r ih =>
    rw [isF]
    by_cases h : (pathF p).1 = 0
    · rw [if_neg (by simpa using h), ih]; simp [h]
    · rw [if_pos h]; simp [h]
def joinF (p q : List UInt8) : List UInt8 × Int := if isF [p, q] ≠ 0 then ([], isF [p, q]) else makeF (partsL p ++ partsL q)
def restF (p q : List UInt8) : List UInt8 × Bool :=
  if isF [p, q] ≠ 0 then ([], false) else if Lib.hasPrefix p q = false then ([], false) else if q = [] ∨ p.drop q.length = [] then (p.drop q.length, true)
  else if (p.drop q.length).getD 0 0 = 47 then (p.drop (q.length + 1), true) else ([], false)
def moveF (p f t : List UInt8) : List UInt8 × Int := if isF [p, f, t] ≠ 0 then ([], isF [p, f, t]) else if (restF p f).2 = false then ([], 141) else joinF t (restF p f).1
theorem two_mem {p q : List UInt8} {m : Nat} (hp : p.length ≤ m) (hq : q.length ≤ m) : ∀ x ∈ [p, q], x.length ≤ m := by simp; exact ⟨hp, hq⟩
theorem text_tail (u : UInt8) (r : List UInt8) : (mkS (u :: r)).extract 1 (mkS (u :: r)).size = mkS r := by
  rw [Lib.extract_eq, mkS_list, mkS_size]
  simp [mkS]
end Go.Proofs.YtcomcoolmabmgaaDoor
