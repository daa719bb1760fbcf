/-
  Contracts of the program's package octet: the reader's own small methods.
-/
import Derived.Test.YtkmnkbmmgopldaaRep
namespace Go.Proofs.Ytkmnkbmmgopldaa
open Go.RowKit
set_option linter.unusedVariables false
set_option linter.unusedSimpArgs false

/-- A Reader's three cells in block g. -/
def RCells (w : World) (g : Nat) (v : Value) (err : Int) : Prop :=
  w.heap[g]? = some (.cells #[.bool true, v, .int .i64 err] 118 (0, 0))

section
variable {w : World} {g : Nat} {v : Value} {err : Int}
theorem RCells.c0 (h : RCells w g v err) : w.cell? ⟨g, 0, none⟩ = some (.bool true) := by simp [World.cell?, show w.heap[g]? = _ from h]
theorem RCells.c1 (h : RCells w g v err) : w.cell? ⟨g, 1, none⟩ = some v := by simp [World.cell?, show w.heap[g]? = _ from h]
theorem RCells.c2 (h : RCells w g v err) : w.cell? ⟨g, 2, none⟩ = some (.int .i64 err) := by simp [World.cell?, show w.heap[g]? = _ from h]
theorem RCells.fr (h : RCells w g v err) (j : Nat) : w.frozen? ⟨g, j, none⟩ = false := by simp [World.frozen?, show w.heap[g]? = _ from h]
theorem RCells.lt (h : RCells w g v err) : g < w.heap.size := by
  rcases Nat.lt_or_ge g w.heap.size with h' | h'
  · exact h'
  · have : w.heap[g]? = _ := h
    simp [Array.getElem?_eq_none h'] at this
theorem RCells.set1 (h : RCells w g v err) (u : Value) : RCells (w.setCell ⟨g, 1, none⟩ u) g u err := by
  have h' : w.heap[g]? = _ := h
  unfold RCells World.setCell
  simp [Array.getElem?_modify, h']
theorem RCells.set2 (h : RCells w g v err) (e : Int) : RCells (w.setCell ⟨g, 2, none⟩ (.int .i64 e)) g v e := by
  have h' : w.heap[g]? = _ := h
  unfold RCells World.setCell
  simp [Array.getElem?_modify, h']
end

set_option maxHeartbeats 400000 in
theorem ready_calls (w : World) (g : Nat) (v : Value) (err : Int) (h : RCells w g v err) :
    Calls Try.prog 75 #[.pointer (some ⟨g, 0, none⟩)] w fun e w' => e = .returned (.bool (err == 0)) ∧ w = w' := by
  have h0 := h.c0
  have h2 := h.c2
  go_enter Try.func75, Try.ntmps75
  go_wp2
  go_ret
  exact ⟨rfl, rfl⟩

set_option maxHeartbeats 400000 in
theorem refuse_calls (w : World) (g : Nat) (v : Value) (err : Int) (n : Int) (h : RCells w g v err) :
    Calls Try.prog 76 #[.pointer (some ⟨g, 0, none⟩), .int .i64 n] w fun e w' => e = .returned (.tuple #[]) ∧ w' = w.setCell ⟨g, 2, none⟩ (.int .i64 n) := by
  have h0 := h.c0
  have h2 := h.c2
  have hf := h.fr 2
  go_enter Try.func76, Try.ntmps76
  go_wp2
  go_end0
  exact ⟨rfl, rfl⟩

set_option maxHeartbeats 400000 in
theorem take_calls (w : World) (g : Nat) (A : Option Addr) (n c : Nat) (err : Int) (k : Int) (m : Nat) (hk : k = (m : Int)) (hm : m ≤ n) (hn : n ≤ c) (hc : c ≤ maxLen) (h : RCells w g (.slice A n c) err) :
    Calls Try.prog 77 #[.pointer (some ⟨g, 0, none⟩), .int .i64 k] w fun e w' => e = .returned (.slice A m m) ∧
      w' = w.setCell ⟨g, 1, none⟩ (.slice (if c = m then A else A.map (·.add m)) (n - m) (c - m)) := by
  subst hk
  unfold maxLen at hc
  have h1 := h.c1
  have hf := h.fr 1
  go_enter Try.func77, Try.ntmps77
  go_wp2
  all_goals go_ret
  all_goals exact ⟨rfl, rfl⟩
end Go.Proofs.Ytkmnkbmmgopldaa
