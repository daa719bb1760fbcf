/-
  Unquote, Word.
-/
import Derived.Test.YtcomcoolmabmgaaDoorQ10
namespace Go.Proofs.YtcomcoolmabmgaaDoor
open Go.RowKit
set_option linter.unusedVariables false
set_option linter.unusedSimpArgs false

theorem quoteF_parts (t : List UInt8) : quoteF t = 34 :: ((pcs t).flatMap quoteP ++ [34]) := by unfold quoteF; simp
theorem plainly_quote (t : List UInt8) : plainlyF (quoteF t) = some t := by
  have hi := innerF_quote t.length t (Nat.le_refl _)
  rw [quoteF_parts, plainlyF]
  generalize (pcs t).flatMap quoteP = m at hi
  have hl : (34 :: (m ++ [34])).length = m.length + 2 := by simp
  rw [hl, if_neg (by omega), if_neg, ← hi]
  · congr 1
    simp
  · simp
theorem innerF_len : ∀ (n : Nat) (l : List UInt8), l.length ≤ n → ∀ t, innerF l = some t → t.length ≤ l.length := by
  intro n
  induction n with
  | zero =>
    intro l hl t h
    have : l = [] := List.eq_nil_of_length_eq_zero (by omega)
    subst this
    simp [innerF] at h
    subst h
    simp
  | succ n ih =>
    intro l hl t h
    match l, hl, h with
    | [], _, h => simp [innerF] at h; subst h; simp
    | c :: r, hl, h =>
      rw [innerF.eq_def] at h
      simp only at h
      simp only [List.length_cons] at hl
      split at h
      · cases h
      split at h
      · obtain ⟨a, ha, rfl⟩ := Option.map_eq_some_iff.1 h
        have := ih r (by omega) a ha
        simp only [List.length_cons]; omega
      split at h
      · cases h
      rename_i e u
      simp only [List.length_cons] at hl
      split at h
      · obtain ⟨a, ha, rfl⟩ := Option.map_eq_some_iff.1 h
        have := ih u (by omega) a ha
        simp only [List.length_cons]; omega
      split at h
      · obtain ⟨a, ha, rfl⟩ := Option.map_eq_some_iff.1 h
        have := ih u (by omega) a ha
        simp only [List.length_cons]; omega
      split at h
      · split at h
        · rename_i p q v
          simp only [List.length_cons] at hl
          split at h
          · obtain ⟨a, ha, rfl⟩ := Option.map_eq_some_iff.1 h
            have := ih v (by omega) a ha
            simp only [List.length_cons]; omega
          · cases h
        · cases h
      · cases h
theorem plainlyF_len {l t : List UInt8} (h : plainlyF l = some t) : t.length ≤ l.length := by
  unfold plainlyF at h
  split at h
  · cases h
  split at h
  · cases h
  have := innerF_len _ _ (Nat.le_refl _) t h
  rw [List.length_take] at this
  omega
/-- The text that, quoted, is so. -/
def unqF (l : List UInt8) : Option (List UInt8) := match plainlyF l with
  | none => none
  | some t => if quoteF t = l then some t else none
theorem unq_quote (t : List UInt8) : unqF (quoteF t) = some t := by simp [unqF, plainly_quote]
theorem unq_some {l t : List UInt8} (h : unqF l = some t) : quoteF t = l := by
  unfold unqF at h
  split at h
  · cases h
  · split at h
    · cases h; assumption
    · cases h
def wordF (l : List UInt8) : List UInt8 := if plainF l then l else quoteF l

set_option maxRecDepth 100000 in
set_option maxHeartbeats 1600000 in
theorem unquote_calls (w : World) (s : ByteArray) (hs : s.size ≤ 35184372088000) :
    Calls Tryd.prog 37 #[.string s] w fun e w' => e = plainlyR (unqF s.data.toList) ∧ Chg No w w' := by
  go_enter Tryd.func37, Tryd.ntmps37
  go_wp2_with fail
  refine (plainly_calls w s (by omega)).mono ?_
  rintro e w1 ⟨rfl, hc1⟩
  have HC1 := Lib.hid hc1
  clear hc1
  cases hp : plainlyF s.data.toList with
  | none =>
    have HU : Hid (unqF s.data.toList = none) := by rw [Hid, unqF, hp]
    clear hp
    simp only [plainlyR]
    go_wp2
    go_ret2
    exact ⟨by rw [HU.out]; rfl, HC1.out⟩
  | some t =>
    have HP := Lib.hid hp
    clear hp
    simp only [plainlyR]
    go_wp2_with fail
    refine (quote_calls _ (mkS t) (by rw [mkS_size]; have := plainlyF_len HP.out; rw [size_list] at this; omega)).mono ?_
    rintro e w2 ⟨rfl, hc2⟩
    have HC2 : Hid (Chg No w w2) := HC1.out.no hc2
    clear hc2
    simp only [mkS_list]
    by_cases hq : quoteF t = s.data.toList
    · have hb : ((mkS (quoteF t)).toList == s.toList) = true := by rw [beq_iff_eq, Lib.toList_data, Lib.toList_data, mkS_list, hq]
      have HU : Hid (unqF s.data.toList = some t) := by simp only [Hid, unqF, HP.out]; rw [if_pos hq]
      clear hq
      go_wp2
      go_ret2
      exact ⟨by rw [HU.out]; rfl, HC2.out⟩
    · have hb : ((mkS (quoteF t)).toList == s.toList) = false := by rw [beq_eq_false_iff_ne, Lib.toList_data, Lib.toList_data, mkS_list]; exact hq
      have HU : Hid (unqF s.data.toList = none) := by simp only [Hid, unqF, HP.out]; rw [if_neg hq]
      clear hq
      go_wp2
      go_ret2
      exact ⟨by rw [HU.out]; rfl, HC2.out⟩

set_option maxRecDepth 100000 in
set_option maxHeartbeats 1600000 in
theorem word_calls (w : World) (s : ByteArray) (hs : s.size ≤ 35184372088000) :
    Calls Tryd.prog 50 #[.string s] w fun e w' => e = .returned (.string (mkS (wordF s.data.toList))) ∧ Chg No w w' := by
  go_enter Tryd.func50, Tryd.ntmps50
  go_wp2_with fail
  refine (plain_calls w s (by omega)).mono ?_
  rintro e w1 ⟨rfl, hc1⟩
  have HC1 := Lib.hid hc1
  clear hc1
  cases hp : plainF s.data.toList with
  | true =>
    have HU : Hid (mkS (wordF s.data.toList) = s) := by rw [Hid, wordF, hp, if_pos rfl, mkS_self]
    clear hp
    go_wp2
    go_ret
    exact ⟨by rw [HU.out]; rfl, HC1.out⟩
  | false =>
    have HU : Hid (wordF s.data.toList = quoteF s.data.toList) := by rw [Hid, wordF, hp]; rfl
    clear hp
    go_wp2_with fail
    refine (quote_calls _ s hs).mono ?_
    rintro e w2 ⟨rfl, hc2⟩
    have HC2 : Hid (Chg No w w2) := HC1.out.no hc2
    clear hc2
    go_wp2
    go_ret
    exact ⟨by rw [HU.out]; rfl, HC2.out⟩
end Go.Proofs.YtcomcoolmabmgaaDoor
