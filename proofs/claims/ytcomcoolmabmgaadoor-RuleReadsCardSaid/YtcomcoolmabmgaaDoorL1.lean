/-
  strings.Cut at a line's end; the lines.
-/
import Derived.Test.YtcomcoolmabmgaaDoorQ16
import Derived.Test.YtcomcoolmabmgaaDoorShelf
namespace Go.Proofs.YtcomcoolmabmgaaDoor
open Go.RowKit
set_option linter.unusedVariables false
set_option linter.unusedSimpArgs false
set_option maxRecDepth 100000

theorem indexByte_ten (l : List UInt8) : Lib.indexByte l 10 = if (l.takeWhile (· ≠ 10)).length = l.length then -1 else ((l.takeWhile (· ≠ 10)).length : Int) := by
  induction l with
  | nil => rfl
  | cons b t ih =>
    unfold Lib.indexByte
    by_cases h : b = 10
    · subst h; simp
    · rw [if_neg (by simpa using h), List.takeWhile_cons_of_pos (by simpa using h), ih]
      simp only [List.length_cons]
      split <;> split <;> split <;> first | rfl | omega | (rename_i h1 h2 h3; simp at h2; omega) | (rename_i h1 h2; simp at h2; omega) | (simp_all; try omega)
def firstL (l : List UInt8) : List UInt8 := l.takeWhile (· ≠ 10)
def restL (l : List UInt8) : List UInt8 := l.drop ((firstL l).length + 1)
theorem firstL_take (l : List UInt8) : l.take (firstL l).length = firstL l := (List.prefix_iff_eq_take.1 (List.takeWhile_prefix _)).symm
theorem firstL_len (l : List UInt8) : (firstL l).length ≤ l.length := (List.takeWhile_prefix _).length_le
theorem firstL_mem (l : List UInt8) : ∀ x ∈ firstL l, x ≠ 10 := by
  induction l with
  | nil => intro x h; cases h
  | cons b t ih =>
    intro x h
    unfold firstL at h
    by_cases hb : b = 10
    · subst hb; simp at h
    · rw [List.takeWhile_cons_of_pos (by simpa using hb)] at h
      rcases List.mem_cons.1 h with rfl | h
      · exact hb
      · exact ih x h
theorem firstL_end (l : List UInt8) (h : (firstL l).length < l.length) : l = firstL l ++ 10 :: restL l := by
  induction l with
  | nil => simp [firstL] at h
  | cons b t ih =>
    by_cases hb : b = 10
    · subst hb; simp [firstL, restL]
    · have e : firstL (b :: t) = b :: firstL t := List.takeWhile_cons_of_pos (by simpa using hb)
      rw [e] at h ⊢
      have e2 : restL (b :: t) = restL t := by simp [restL, e]
      rw [e2, List.cons_append]
      simp only [List.length_cons] at h
      conv => lhs; rw [ih (by omega)]
/-- A text's lines. -/
def linesF (l : List UInt8) : List (List UInt8) := match l with
  | [] => []
  | c :: t => firstL (c :: t) :: linesF (restL (c :: t))
termination_by l.length
decreasing_by simp [restL]; omega
theorem linesF_nil : linesF [] = [] := by rw [linesF]
theorem linesF_cons (l : List UInt8) (h : l ≠ []) : linesF l = firstL l :: linesF (restL l) := by
  cases l with
  | nil => exact absurd rfl h
  | cons c t => rw [linesF]
theorem restL_len (l : List UInt8) (h : l ≠ []) : (restL l).length < l.length := by
  have := List.length_pos_iff.2 h
  rw [restL, List.length_drop]; omega

set_option maxHeartbeats 1600000 in
theorem cut1_calls (w : World) (s : ByteArray) (hs : s.size ≤ 9223372036854775000) :
    Calls Tryd.prog 55 #[.string s, .string ⟨#[10]⟩] w fun e w' => e = .returned (.tuple #[.string (mkS (firstL s.data.toList)), .string (mkS (restL s.data.toList)), .bool (decide ((firstL s.data.toList).length < s.size))]) ∧ (w' = w ∨ w' = w.drew) := by
  have HS := Lib.hid (size_list s)
  have hle := firstL_len s.data.toList
  rw [HS.out] at hle
  have CI : Hid (∀ w1, Calls Tryd.prog 71 #[.string s, .string ⟨#[10]⟩] w1 fun e w' => e = .returned (.int .i64 (if (firstL s.data.toList).length = s.size then -1 else ((firstL s.data.toList).length : Int))) ∧ w' = w1) := by
    intro w1
    have h := Tryd.stringslite_Index_one s 10 w1
    rw [indexByte_ten, HS.out] at h
    exact h
  have HF : Hid (s.data.toList.take (firstL s.data.toList).length = firstL s.data.toList) := firstL_take _
  have HR : Hid (restL s.data.toList = s.data.toList.drop ((firstL s.data.toList).length + 1)) := rfl
  obtain ⟨k, hk⟩ : ∃ k, (firstL s.data.toList).length = k := ⟨_, rfl⟩
  rw [hk] at hle CI HF HR
  have HK := Lib.hid hk
  clear hk
  by_cases he : k = s.size
  · subst he
    rw [if_pos rfl] at CI
    have HX : Hid (mkS (firstL s.data.toList) = s) := by rw [Hid, ← HF.out, List.take_of_length_le (by rw [HS.out]; exact Nat.le_refl _), mkS_self]
    have HY : Hid (mkS (restL s.data.toList) = ⟨#[]⟩) := by rw [Hid, HR.out, List.drop_of_length_le (by rw [HS.out]; omega)]; rfl
    go_enter Tryd.func55, Tryd.ntmps55
    go_wp2_with (go_at_call 71; refine (CI.out _).mono ?_; rintro e w' ⟨rfl, rfl⟩)
    refine bodyPost_ret (v := .tuple #[.string s, .string ⟨#[]⟩, .bool false]) (by simp [results, Tryd.results55, go_sem]) rfl ?_
    exact ⟨by rw [HX.out, HY.out, HK.out, decide_eq_false (Nat.lt_irrefl _)], .inl rfl⟩
  · rw [if_neg he] at CI
    have hlt : k < s.size := by omega
    have h1 : (k : Int) ≤ (s.size : Int) := by omega
    have h2 : (k : Int) + 1 ≤ (s.size : Int) := by omega
    have hk0 : 0 ≤ (k : Int) := by omega
    have HX : Hid (s.extract 0 k = mkS (firstL s.data.toList)) := by
      rw [Hid, ← HF.out, ← mkS_self (s.extract 0 k), ByteArray.data_extract, Array.toList_extract, List.extract_eq_take_drop]
      simp
    have HY : Hid (s.extract (k + 1) s.size = mkS (restL s.data.toList)) := by
      rw [Hid, HR.out, ← mkS_self (s.extract (k + 1) s.size), ByteArray.data_extract, Array.toList_extract, List.extract_eq_take_drop, List.take_of_length_le (by rw [List.length_drop, HS.out]; omega)]
    clear he
    go_enter Tryd.func55, Tryd.ntmps55
    go_wp2_with (go_at_call 71; refine (CI.out _).mono ?_; rintro e w' ⟨rfl, rfl⟩)
    go_region
    go_wp2
    refine bodyPost_ret (v := .tuple #[.string (s.extract 0 k), .string (s.extract (k + 1) s.size), .bool true]) (by simp [results, Tryd.results55, go_sem]) rfl ?_
    exact ⟨by rw [HX.out, HY.out, HK.out, decide_eq_true hlt], .inr rfl⟩

set_option maxHeartbeats 800000 in
theorem cut_calls (w : World) (s : ByteArray) (hs : s.size ≤ 9223372036854775000) :
    Calls Tryd.prog 35 #[.string s, .string ⟨#[10]⟩] w fun e w' => e = .returned (.tuple #[.string (mkS (firstL s.data.toList)), .string (mkS (restL s.data.toList)), .bool (decide ((firstL s.data.toList).length < s.size))]) ∧ (w' = w ∨ w' = w.drew) := by
  go_enter Tryd.func35, Tryd.ntmps35
  go_wp2_with fail
  refine (cut1_calls w s hs).mono ?_
  rintro e w2 ⟨rfl, hc2⟩
  go_wp2
  refine bodyPost_ret (v := .tuple #[.string (mkS (firstL s.data.toList)), .string (mkS (restL s.data.toList)), .bool (decide ((firstL s.data.toList).length < s.size))]) (by simp [results, Tryd.results35, go_sem]) rfl ?_
  exact ⟨rfl, hc2⟩
end Go.Proofs.YtcomcoolmabmgaaDoor
