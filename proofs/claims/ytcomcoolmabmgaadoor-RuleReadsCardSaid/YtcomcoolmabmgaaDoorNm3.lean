/-
  Names: strings.Join at a stroke; Make.
-/
import Derived.Test.YtcomcoolmabmgaaDoorNm2
import Derived.BigQuiet
import Derived.Deep.DeepCutAuto
namespace Go.Proofs.YtcomcoolmabmgaaDoor
open Go.RowKit
set_option linter.unusedVariables false
set_option linter.unusedSimpArgs false
set_option maxRecDepth 100000

def firstBad : List (List UInt8) → Int
  | [] => 0
  | n :: r => if (spotF n).1 ≠ 0 then (spotF n).1 else firstBad r
def makeF (l : List (List UInt8)) : List UInt8 × Int :=
  if firstBad l ≠ 0 then ([], firstBad l) else if 16 < l.length ∨ 200 < (joinL l).length then ([], 3) else (joinL l, 0)
theorem spot_len {l : List UInt8} (h : (spotF l).1 = 0) : 1 ≤ l.length ∧ l.length ≤ 32 := by
  unfold spotF at h
  split at h
  · cases h
  · split at h
    · cases h
    · rename_i h1 h2
      refine ⟨?_, by omega⟩
      cases l with
      | nil => exact absurd (.inl rfl) h1
      | cons => simp
theorem firstBad_zero {l : List (List UInt8)} (h : firstBad l = 0) : ∀ x ∈ l, (spotF x).1 = 0 := by
  induction l with
  | nil => intro x hx; cases hx
  | cons n r ih =>
    rw [firstBad] at h
    split at h
    · rename_i h1; exact absurd h h1
    · rename_i h1
      intro x hx
      rcases List.mem_cons.1 hx with rfl | hx
      · exact Classical.byContradiction h1
      · exact ih h x hx
theorem join_len (l : List (List UInt8)) : (joinL l).length = (l.length - 1) + Lib.lens l := by
  cases l with
  | nil => rfl
  | cons x r => rw [joinL, Lib.join_length]; simp
theorem lens_le {l : List (List UInt8)} {m : Nat} (h : ∀ x ∈ l, x.length ≤ m) : Lib.lens l ≤ m * l.length := by
  induction l with
  | nil => simp [Lib.lens]
  | cons x r ih =>
    have h1 := ih (fun y hy => h y (by simp [hy]))
    have h2 := h x (by simp)
    have h3 : Lib.lens (x :: r) = x.length + Lib.lens r := by simp [Lib.lens]
    rw [h3, List.length_cons, Nat.mul_succ]
    omega
theorem join_small {l : List (List UInt8)} (h : firstBad l = 0) (hn : l.length ≤ 1000000) : (joinL l).length ≤ 140737488355328 := by
  rw [join_len]
  have := lens_le (m := 32) fun x hx => (spot_len (firstBad_zero h x hx)).2
  omega
end Go.Proofs.YtcomcoolmabmgaaDoor
