/-
  What is wrong with a name: plain.
-/
import Derived.Test.YtcomcoolmabmgaaDoorPcs
namespace Go.Proofs.YtcomcoolmabmgaaDoor
set_option linter.unusedVariables false
set_option linter.unusedSimpArgs false

/-- A rune that may not stand in a name. -/
def ctlN (r : Nat) : Bool := decide (r < 32) || r == 127 || r == 47
def badN (p : Nat × Bool × List UInt8) : Bool := ctlN p.1 || p.2.1
/-- The place of the first piece that may not stand there. -/
def wrongAt (k : Nat) : List (Nat × Bool × List UInt8) → Option Nat
  | [] => none
  | p :: r => if badN p then some k else wrongAt (k + p.2.2.length) r
def spotF (l : List UInt8) : Int × Int :=
  if l = [] ∨ l = [46] ∨ l = [46, 46] then (140, 0)
  else if 32 < l.length then (3, 32)
  else match wrongAt 0 (pcs l) with
    | none => (0, 0)
    | some k => (140, (k : Int))
theorem wrong_cons (k : Nat) (l : List UInt8) (h : l ≠ []) : wrongAt k (pcs l) = if badN ((decL l).1, brk l, l.take (decL l).2) then some k else wrongAt (k + (decL l).2) (pcs (l.drop (decL l).2)) := by
  obtain ⟨f1, f2, f3⟩ := decL_facts l h
  have hk : (l.take (decL l).2).length = (decL l).2 := by rw [List.length_take]; omega
  rw [pcs_cons l h, wrongAt, hk]
theorem wrong_le : ∀ (n : Nat) (l : List UInt8) (k w : Nat), l.length ≤ n → wrongAt k (pcs l) = some w → k ≤ w ∧ w < k + l.length := by
  intro n
  induction n with
  | zero =>
    intro l k w hl h
    have : l = [] := List.eq_nil_of_length_eq_zero (by omega)
    subst this
    simp [pcs_nil, wrongAt] at h
  | succ n ih =>
    intro l k w hl h
    by_cases hn : l = []
    · subst hn; simp [pcs_nil, wrongAt] at h
    · obtain ⟨f1, f2, f3⟩ := decL_facts l hn
      rw [wrong_cons k l hn] at h
      split at h
      · cases h; have := List.length_pos_iff.2 hn; omega
      · have := ih (l.drop (decL l).2) (k + (decL l).2) w (by rw [List.length_drop]; omega) h
        rw [List.length_drop] at this
        omega
/-- A piece is broken just where its rune is U+FFFD and it is shorter than three bytes. -/
theorem brk_short (l : List UInt8) (h : l ≠ []) : brk l = ((decL l).1 == 65533 && decide ((decL l).2 < 3)) := by
  cases hb : brk l with
  | true =>
    have := brk_one l hb
    rw [this]; rfl
  | false =>
    unfold brk at hb
    by_cases hr : (decL l).1 = 65533
    · rw [hr] at hb
      have hp : ([239, 191, 189] : List UInt8).isPrefixOf l = true := by simpa using hb
      rw [pre_fffd hp]; rfl
    · have : ((decL l).1 == 65533) = false := by rw [beq_eq_false_iff_ne]; exact hr
      rw [this]; rfl
end Go.Proofs.YtcomcoolmabmgaaDoor
