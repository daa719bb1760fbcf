/-
  Contracts of slices.Clone at bytes, octet.Read.
-/
import Derived.Test.YtkmnkbmmgopldaaOct1
namespace Go.Proofs.Ytkmnkbmmgopldaa
open Go.RowKit
set_option linter.unusedVariables false
set_option linter.unusedSimpArgs false
set_option maxHeartbeats 400000 in
theorem clone_some (w : World) (A : Addr) (n c : Nat) (xs : List UInt8) (h : Bytes w (.slice (some A) n c) xs) (hl : xs.length = n) (hx : n ≤ 140737488355328) :
    Calls Try.prog 66 #[.slice (some A) n c] w fun e w' => ∃ v, e = .returned v ∧ OwnB w' w.heap.size v xs ∧ Chg No w w' := by
  have hnil := Lib.run_eql_slice_nil (P := Try.prog)
  have H := Lib.hid h
  have HL := Lib.hid hl
  clear h hl
  go_enter Try.func66, Try.ntmps66
  go_wp2_with (at_builtin; (refine wpList_app _ rfl (.tmp 5) (.tmp 6) 38 38 rfl w.heap.size 5 (.int .u8 0) 1 1 infoU8 Try.underlying38 rfl (by decide) (.slice (some ⟨w.heap.size, 0, none⟩) 0 0) (.slice (some A) n c) 0 n [] (u8s xs) rfl rfl ?own ?src ?b1 ?b2 ?b3 ?_; (case own => exact World.ownsRow_made w #[] 0 (Nat.le_refl _) (Nat.zero_le _) rfl); (case src => exact Src.ofBytes Try.underlying38 (H.out.no ((Chg.refl _ _).alloc _)) HL.out); (case b1 => omega); (case b2 => unfold maxLen; omega); (case b3 => simp); intro v' w' hown hg))
  go_ret
  exact ⟨_, rfl, .of hown (by simp), ((Chg.refl _ _).alloc _).grown hg (by intro k hk; simp [Value.ownBlock] at hk; omega)⟩

set_option maxHeartbeats 400000 in
theorem clone_none (w : World) (n c : Nat) :
    Calls Try.prog 66 #[.slice none n c] w fun e w' => e = .returned (.slice none 0 0) ∧ w = w' := by
  have hnil := Lib.run_eql_slice_nil (P := Try.prog)
  go_enter Try.func66, Try.ntmps66
  go_wp2
  go_ret
  exact ⟨rfl, rfl⟩

theorem clone_any (w : World) (A : Option Addr) (n c : Nat) (xs : List UInt8) (h : Bytes w (.slice A n c) xs) (hx : n ≤ 140737488355328) :
    Calls Try.prog 66 #[.slice A n c] w fun e w' => ∃ v, e = .returned v ∧ OwnB w' w.heap.size v xs ∧ Chg No w w' := by
  have hl : xs.length = n := by
    obtain ⟨A', c', he, _⟩ := h
    simp only [Value.slice.injEq] at he
    exact he.2.1.symm
  cases A with
  | some A => exact clone_some w A n c xs h hl hx
  | none =>
    have hn : xs = [] := by
      rcases Nat.eq_zero_or_pos xs.length with h0 | h0
      · exact List.eq_nil_of_length_eq_zero h0
      · obtain ⟨b, o, he, _⟩ := h.addr h0
        cases he
    subst hn
    refine (clone_none w n c).mono ?_
    rintro e w' ⟨rfl, rfl⟩
    exact ⟨_, rfl, World.ownsRow_nil _ _ _ _, Chg.refl _ _⟩

set_option maxHeartbeats 400000 in
theorem read_calls (w : World) (A : Option Addr) (n c : Nat) (xs : List UInt8) (h : Bytes w (.slice A n c) xs) (hx : n ≤ 140737488355328) :
    Calls Try.prog 44 #[.slice A n c] w fun e w' => ∃ w1 v, e = .returned (.pointer (some ⟨w1.heap.size, 0, none⟩)) ∧ w' = w1.alloc (.cells #[.bool true, v, .int .i64 0] 118) ∧ OwnB w1 w.heap.size v xs ∧ Chg No w w1 := by
  have H := Lib.hid h
  clear h
  go_enter Try.func44, Try.ntmps44
  go_wp2_with fail
  refine (clone_any _ _ _ _ xs H.out hx).mono ?_
  rintro e w1 ⟨v, rfl, hown, hc⟩
  obtain ⟨A', c', rfl, -, -⟩ := hown.bytes.form
  go_wp2
  go_ret
  exact ⟨_, _, rfl, rfl, hown, hc⟩
end Go.Proofs.Ytkmnkbmmgopldaa
