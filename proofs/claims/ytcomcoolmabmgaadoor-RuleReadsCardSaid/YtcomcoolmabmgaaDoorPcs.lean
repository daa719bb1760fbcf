/-
  Pieces of a text, with no function of this program: for every seat (out of XQ1, XQ2, XQ6, XQ9).
-/
import Derived.Test.YtcomcoolmabmgaaDoorQd
import Derived.Lib.Strings
import Derived.Lib.Slices
import Derived.Lib.Walk
import Derived.Lib.Bytealg
import Derived.Laws.RangeAny
namespace Go.Proofs.YtcomcoolmabmgaaDoor
open Go.RowKit
set_option linter.unusedVariables false
set_option linter.unusedSimpArgs false

def pcsN : Nat → List UInt8 → List (Nat × Bool × List UInt8)
  | 0, _ => []
  | n + 1, l => match l with
    | [] => []
    | a :: t => ((decL (a :: t)).1, brk (a :: t), (a :: t).take (decL (a :: t)).2) :: pcsN n ((a :: t).drop (decL (a :: t)).2)
/-- The pieces: rune, broken or not, bytes. -/
def pcs (l : List UInt8) : List (Nat × Bool × List UInt8) := pcsN l.length l

theorem pcsN_fuel : ∀ (n : Nat) (l : List UInt8), l.length ≤ n → pcsN n l = pcs l := by
  intro n
  induction n using Nat.strongRecOn with
  | _ n ih =>
    intro l hl
    cases l with
    | nil => cases n <;> rfl
    | cons a t =>
      obtain ⟨f1, f2, f3⟩ := decL_facts (a :: t) (by simp)
      have hd : ((a :: t).drop (decL (a :: t)).2).length ≤ t.length := by rw [List.length_drop]; simp only [List.length_cons] at *; omega
      cases n with
      | zero => simp at hl
      | succ n =>
        have ht : t.length ≤ n := by simpa using hl
        have e1 : pcsN (n + 1) (a :: t) = ((decL (a :: t)).1, brk (a :: t), (a :: t).take (decL (a :: t)).2) :: pcsN n ((a :: t).drop (decL (a :: t)).2) := rfl
        have e2 : pcs (a :: t) = ((decL (a :: t)).1, brk (a :: t), (a :: t).take (decL (a :: t)).2) :: pcsN t.length ((a :: t).drop (decL (a :: t)).2) := rfl
        rw [e1, e2, ih n (by omega) _ (by omega)]
        rcases Nat.lt_or_ge t.length (n + 1) with h | h
        · rw [ih t.length (by omega) _ hd]
        · omega
theorem pcs_nil : pcs [] = [] := rfl
theorem pcs_cons (l : List UInt8) (h : l ≠ []) : pcs l = ((decL l).1, brk l, l.take (decL l).2) :: pcs (l.drop (decL l).2) := by
  cases l with
  | nil => exact absurd rfl h
  | cons a t =>
    obtain ⟨f1, f2, f3⟩ := decL_facts (a :: t) (by simp)
    have hd : ((a :: t).drop (decL (a :: t)).2).length ≤ t.length := by rw [List.length_drop]; simp only [List.length_cons] at *; omega
    have e2 : pcs (a :: t) = ((decL (a :: t)).1, brk (a :: t), (a :: t).take (decL (a :: t)).2) :: pcsN t.length ((a :: t).drop (decL (a :: t)).2) := rfl
    rw [e2, pcsN_fuel _ _ hd]

theorem Chg.iterAt {S : Nat → Prop} {a b : World} (h : Chg S a b) {k : Nat} (hk : a.heap.size ≤ k) (s : ByteArray) (pos : Nat) : Chg S a (b.iterAt k s pos) :=
  ⟨h.os, h.tape, h.output, by rw [Lib.iterAt_size]; exact h.size, fun i hi hs => by rw [Lib.iterAt_other b k i s pos (by omega)]; exact h.block i hi hs⟩

/-- May a piece not stand in a plain word? -/
theorem drop_ne {s : ByteArray} {pos : Nat} (h : pos < s.size) : s.data.toList.drop pos ≠ [] := by
  intro h0
  have := congrArg List.length h0
  rw [List.length_drop, size_list] at this
  simp at this
  omega
theorem extract_list (s : ByteArray) (i : Nat) : (s.extract i s.size).data.toList = s.data.toList.drop i := by
  rw [ByteArray.data_extract, Array.toList_extract, List.extract_eq_take_drop]
  rw [List.take_of_length_le]
  rw [List.length_drop, size_list]
  exact Nat.le_refl _
theorem ext3_list (s : ByteArray) (pos : Nat) : (s.extract pos (pos + 3)).toList = (s.data.toList.drop pos).take 3 := by
  rw [Lib.toList_data, ByteArray.data_extract, Array.toList_extract, List.extract_eq_take_drop]
  congr 1
  omega
theorem take3_pre (l : List UInt8) : (l.take 3 == [239, 191, 189]) = ([239, 191, 189] : List UInt8).isPrefixOf l := by
  rw [Bool.eq_iff_iff, beq_iff_eq, List.isPrefixOf_iff_prefix]
  constructor
  · intro h
    exact ⟨l.drop 3, by rw [← h, List.take_append_drop]⟩
  · rintro ⟨t, rfl⟩
    rfl


end Go.Proofs.YtcomcoolmabmgaaDoor
