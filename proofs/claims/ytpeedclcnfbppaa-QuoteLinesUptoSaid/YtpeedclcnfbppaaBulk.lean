/-
  What the bound of an Upto statement gives: on strings and slices.
-/
import Derived.Test.YtpeedclcnfbppaaRows
namespace Go.Proofs.Ytpeedclcnfbppaa.bulks

theorem bound {H : Type} {l : List (DataW H)} (hk : Rows.uptoSmall H l = true) : Rows.uptoBulkAll l ≤ 1048576 := by
  unfold Rows.uptoSmall at hk
  exact of_decide_eq_true hk
theorem string_eq {H : Type} (l : List UInt8) : Rows.uptoBulk (DataW.lit (H := H) (.string l)) = l.length + 1 := by unfold Rows.uptoBulk; rfl
theorem pos {H : Type} : ∀ d : DataW H, 0 < Rows.uptoBulk d
  | .lit l => by cases l <;> simp [Rows.uptoBulk]
  | .nil => by simp [Rows.uptoBulk]
  | .ptr _ => by simp [Rows.uptoBulk]
  | .slice _ _ => by simp [Rows.uptoBulk]
  | .agg _ => by simp [Rows.uptoBulk]
  | .iface _ _ => by simp [Rows.uptoBulk]
  | .map _ => by simp [Rows.uptoBulk]
  | .held _ => by simp [Rows.uptoBulk]
theorem all_ge {H : Type} : ∀ l : List (DataW H), l.length ≤ Rows.uptoBulkAll l
  | [] => by simp [Rows.uptoBulkAll]
  | d :: r => by
    have h1 := pos d
    have h2 := all_ge r
    simp only [Rows.uptoBulkAll, List.length_cons]
    omega
theorem all_mem {H : Type} {d : DataW H} : ∀ {l : List (DataW H)}, d ∈ l → Rows.uptoBulk d ≤ Rows.uptoBulkAll l
  | x :: r, h => by
    simp only [Rows.uptoBulkAll]
    rcases List.mem_cons.1 h with rfl | h
    · omega
    · have := all_mem h
      omega
theorem slice_eq {H : Type} (a b : List (DataW H)) : Rows.uptoBulk (.slice a b) = Rows.uptoBulkAll a + Rows.uptoBulkAll b + 1 := by simp [Rows.uptoBulk]
theorem slice_le {H : Type} (a b : List (DataW H)) : a.length + b.length + 1 ≤ Rows.uptoBulk (.slice a b) := by
  have h1 := all_ge a
  have h2 := all_ge b
  rw [slice_eq]
  omega
end Go.Proofs.Ytpeedclcnfbppaa.bulks
