/-
  What a file's bytes say: records, and what is behind them. Plain lists.
-/
import Derived.Test.YtbbfjnfmfigcfaaPl
import Derived.Test.YtbbfjnfmfigcfaaJ8
namespace Go.Proofs.Ytbbfjnfmfigcfaa
set_option linter.unusedVariables false
set_option linter.unusedSimpArgs false

theorem recF_len0 (p : List UInt8) : 9 ≤ (recF p).length := by
  have h1 := leb_pos p.length
  have h2 := wide_len (hashF p)
  simp only [recF, List.length_append]
  omega

/-- The next record's payload, or: wrong bytes, or: none more. -/
def stepF (xs : List UInt8) : Option (Option (List UInt8)) :=
  if xs = [] ∨ (numF 0 0 xs).2.2 = 110 then none
  else if (numF 0 0 xs).2.2 ≠ 0 ∨ 262144 < (numF 0 0 xs).1 then some none
  else if xs.length - (numF 0 0 xs).2.1 < (numF 0 0 xs).1 + 8 then none
  else if beF 0 (((xs.drop (numF 0 0 xs).2.1).drop (numF 0 0 xs).1).take 8) = hashF ((xs.drop (numF 0 0 xs).2.1).take (numF 0 0 xs).1) then some (some ((xs.drop (numF 0 0 xs).2.1).take (numF 0 0 xs).1))
  else some none
theorem step_rec {xs p : List UInt8} (h : stepF xs = some (some p)) : xs ≠ [] ∧ (numF 0 0 xs).2.2 = 0 ∧ p.length = (numF 0 0 xs).1 ∧ p.length ≤ 262144 ∧ p = (xs.drop (numF 0 0 xs).2.1).take p.length ∧ (numF 0 0 xs).2.1 + p.length + 8 ≤ xs.length ∧ beF 0 (((xs.drop (numF 0 0 xs).2.1).drop p.length).take 8) = hashF p ∧ recF p = xs.take ((numF 0 0 xs).2.1 + p.length + 8) ∧ (recF p).length = (numF 0 0 xs).2.1 + p.length + 8 := by
  unfold stepF at h
  split at h
  · cases h
  rename_i h1
  split at h
  · cases h
  rename_i h2
  split at h
  · cases h
  rename_i h3
  split at h
  case isFalse => cases h
  rename_i h4
  simp only [not_or, Decidable.not_not, Nat.not_lt] at h1 h2 h3
  obtain ⟨f1, -, -, -, -⟩ := numF_at xs
  obtain ⟨v, n, e⟩ : ∃ v n, numF 0 0 xs = (v, n, 0) := ⟨(numF 0 0 xs).1, (numF 0 0 xs).2.1, by rw [← h2.1]⟩
  have hleb := numF_leb0 xs v n e
  rw [e] at h h2 h3 h4 f1 ⊢
  simp only at h h2 h3 h4 f1 ⊢
  have hp : p = (xs.drop n).take v := by simpa using h.symm
  have hpl : p.length = v := by rw [hp, List.length_take, List.length_drop]; omega
  rw [← hp] at h4
  rw [hpl]
  have h8 : (((xs.drop n).drop v).take 8).length = 8 := by simp only [List.length_take, List.length_drop]; omega
  have hw : wide (hashF p) = ((xs.drop n).drop v).take 8 := by rw [← h4]; exact wide_beF _ h8
  have hr : recF p = xs.take (n + v + 8) := by
    unfold recF
    rw [hpl, hleb, hw]
    conv => lhs; rw [hp]
    rw [List.drop_drop, List.take_add, List.take_add]
  refine ⟨h1.1, trivial, rfl, by omega, hp, by omega, h4, hr, ?_⟩
  rw [hr, List.length_take]; omega
theorem step_split {xs p : List UInt8} (h : stepF xs = some (some p)) : xs = recF p ++ xs.drop (recF p).length := by
  obtain ⟨_, _, _, _, _, h6, _, h8, h9⟩ := step_rec h
  rw [h9]
  conv => lhs; rw [← List.take_append_drop ((numF 0 0 xs).2.1 + p.length + 8) xs]
  rw [h8]

/-- The records of bytes, and whether what is behind them is wrong. -/
def Rds : List UInt8 → List (List UInt8) → Bool → Prop
  | xs, [], w => (stepF xs = none ∧ w = false) ∨ (stepF xs = some none ∧ w = true)
  | xs, p :: ps, w => stepF xs = some (some p) ∧ Rds (xs.drop (recF p).length) ps w
theorem Rds.stop {xs : List UInt8} (h : stepF xs = none) : Rds xs [] false := .inl ⟨h, rfl⟩
theorem Rds.wrong {xs : List UInt8} (h : stepF xs = some none) : Rds xs [] true := .inr ⟨h, rfl⟩
theorem Rds.more {xs p : List UInt8} {ps : List (List UInt8)} {w : Bool} (h : stepF xs = some (some p)) (r : Rds (xs.drop (recF p).length) ps w) : Rds xs (p :: ps) w := ⟨h, r⟩
theorem Rds.unique : ∀ {ps qs : List (List UInt8)} {xs : List UInt8} {w v : Bool}, Rds xs ps w → Rds xs qs v → ps = qs ∧ w = v
  | [], [], xs, w, v, h, k => by
    rcases h with ⟨h1, rfl⟩ | ⟨h1, rfl⟩ <;> rcases k with ⟨k1, rfl⟩ | ⟨k1, rfl⟩ <;> first | exact ⟨rfl, rfl⟩ | (rw [h1] at k1; cases k1)
  | [], q :: qs, xs, w, v, h, k => by
    have := k.1
    rcases h with ⟨h1, _⟩ | ⟨h1, _⟩ <;> (rw [h1] at this; cases this)
  | p :: ps, [], xs, w, v, h, k => by
    have := h.1
    rcases k with ⟨h1, _⟩ | ⟨h1, _⟩ <;> (rw [h1] at this; cases this)
  | p :: ps, q :: qs, xs, w, v, h, k => by
    have h1 := h.1
    have k1 := k.1
    rw [h1] at k1
    cases k1
    obtain ⟨e, e2⟩ := Rds.unique h.2 k.2
    exact ⟨by rw [e], e2⟩
theorem Rds.split : ∀ {ps : List (List UInt8)} {xs : List UInt8} {w : Bool}, Rds xs ps w → xs = encF ps ++ xs.drop (encF ps).length
  | [], xs, w, _ => by simp [encF]
  | p :: ps, xs, w, h => by
    have h1 := step_split h.1
    have h2 := Rds.split h.2
    have e : encF (p :: ps) = recF p ++ encF ps := by simp [encF]
    rw [e, List.length_append, ← List.drop_drop, List.append_assoc, ← h2]
    exact h1
theorem Rds.enc : ∀ {ps : List (List UInt8)} {xs : List UInt8} {w : Bool}, Rds xs ps w → xs.take (encF ps).length = encF ps ∧ (encF ps).length ≤ xs.length := by
  intro ps xs w h
  have e := h.split
  have hl := congrArg List.length e
  rw [List.length_append, List.length_drop] at hl
  refine ⟨?_, by omega⟩
  conv => lhs; rw [e]
  rw [List.take_left]
theorem Rds.ex (n : Nat) : ∀ (xs : List UInt8), xs.length ≤ n → ∃ ps w, Rds xs ps w := by
  induction n with
  | zero =>
    intro xs h
    have : xs = [] := List.eq_nil_of_length_eq_zero (by omega)
    subst this
    exact ⟨[], false, .stop (by simp [stepF])⟩
  | succ n ih =>
    intro xs h
    cases e : stepF xs with
    | none => exact ⟨[], false, .stop e⟩
    | some o =>
      cases o with
      | none => exact ⟨[], true, .wrong e⟩
      | some p =>
        obtain ⟨ps, w, r⟩ := ih (xs.drop (recF p).length) (by
          have := (recF_len0 p)
          have hne := (step_rec e).1
          have := List.length_pos_iff.2 hne
          rw [List.length_drop]; omega)
        exact ⟨p :: ps, w, .more e r⟩

/-- The reader's steps. -/
theorem reader_step (xs : List UInt8) (hne : xs ≠ []) :
    match stepF xs with
    | none => (rWord (rText 262144 ⟨xs, 0⟩).2).2.err = 110
    | some none => (rWord (rText 262144 ⟨xs, 0⟩).2).2.err ≠ 110 ∧ ((rWord (rText 262144 ⟨xs, 0⟩).2).2.err ≠ 0 ∨ (rWord (rText 262144 ⟨xs, 0⟩).2).1 ≠ hashF (rText 262144 ⟨xs, 0⟩).1)
    | some (some p) => (rWord (rText 262144 ⟨xs, 0⟩).2).2 = ⟨xs.drop (recF p).length, 0⟩ ∧ (rWord (rText 262144 ⟨xs, 0⟩).2).1 = hashF p ∧ (rText 262144 ⟨xs, 0⟩).1 = p := by
  cases e : stepF xs with
  | some o =>
    cases o with
    | some p =>
      obtain ⟨h1, h2, h3, h4, h5, h6, h7, h8, h9⟩ := step_rec e
      have hT : rText 262144 ⟨xs, 0⟩ = (p, ⟨(xs.drop (numF 0 0 xs).2.1).drop p.length, 0⟩) := by
        unfold rText
        rw [if_neg (by simp), if_neg (by omega), if_neg (by simp [h2]), if_neg (by simp only; omega), if_neg (by simp only; omega)]
        simp only [← h3, ← h5]
      have hl : ((xs.drop (numF 0 0 xs).2.1).drop p.length).length = xs.length - (numF 0 0 xs).2.1 - p.length := by simp only [List.length_drop]
      simp only [hT]
      unfold rWord
      rw [if_neg (by simp), if_neg (by simp only [hl]; omega)]
      refine ⟨?_, h7, trivial⟩
      simp only [h9, List.drop_drop]
    | none =>
      simp only
      unfold stepF at e
      split at e
      · cases e
      rename_i g1
      split at e
      · rename_i g2
        by_cases hz : (numF 0 0 xs).2.2 = 0
        · have hb : 262144 < (numF 0 0 xs).1 := by rcases g2 with h | h; exact absurd hz h; exact h
          have hT : rText 262144 ⟨xs, 0⟩ = ([], ⟨xs, 3⟩) := by
            unfold rText
            rw [if_neg (by simp), if_neg (by omega), if_neg (by simp [hz]), if_pos (by simp only; omega)]
          rw [hT]
          unfold rWord
          rw [if_pos (by simp)]
          exact ⟨by simp, .inl (by simp)⟩
        · have hT : rText 262144 ⟨xs, 0⟩ = ([], ⟨xs, (numF 0 0 xs).2.2⟩) := by
            unfold rText
            rw [if_neg (by simp), if_neg (by omega), if_pos (by simp only; exact hz)]
          rw [hT]
          unfold rWord
          rw [if_pos (by simp only; exact hz)]
          exact ⟨fun h => g1 (.inr h), .inl hz⟩
      · rename_i g2
        split at e
        · cases e
        rename_i g3
        split at e
        · cases e
        rename_i g4
        simp only [not_or, Decidable.not_not, Nat.not_lt] at g1 g2 g3
        have hT : rText 262144 ⟨xs, 0⟩ = ((xs.drop (numF 0 0 xs).2.1).take (numF 0 0 xs).1, ⟨(xs.drop (numF 0 0 xs).2.1).drop (numF 0 0 xs).1, 0⟩) := by
          unfold rText
          rw [if_neg (by simp), if_neg (by omega), if_neg (by simp [g2.1]), if_neg (by simp only; omega), if_neg (by simp only; omega)]
        rw [hT]
        have hl : ((xs.drop (numF 0 0 xs).2.1).drop (numF 0 0 xs).1).length = xs.length - (numF 0 0 xs).2.1 - (numF 0 0 xs).1 := by simp only [List.length_drop]
        unfold rWord
        rw [if_neg (by simp), if_neg (by simp only [hl]; omega)]
        exact ⟨by simp, .inr g4⟩
  | none =>
    simp only
    unfold stepF at e
    split at e
    · rename_i g1
      have g1 : (numF 0 0 xs).2.2 = 110 := by rcases g1 with h | h; exact absurd h hne; exact h
      have hT : rText 262144 ⟨xs, 0⟩ = ([], ⟨xs, 110⟩) := by
        unfold rText
        rw [if_neg (by simp), if_neg (by omega), if_pos (by simp [g1])]
        simp only [g1]
      rw [hT]
      unfold rWord
      rw [if_pos (by simp)]
    · rename_i g1
      split at e
      · cases e
      rename_i g2
      split at e
      · rename_i g3
        simp only [not_or, Decidable.not_not, Nat.not_lt] at g1 g2
        by_cases hs : xs.length - (numF 0 0 xs).2.1 < (numF 0 0 xs).1
        · have hT : rText 262144 ⟨xs, 0⟩ = ([], ⟨xs, 110⟩) := by
            unfold rText
            rw [if_neg (by simp), if_neg (by omega), if_neg (by simp [g2.1]), if_neg (by simp only; omega), if_pos (by simp only; omega)]
          rw [hT]
          unfold rWord
          rw [if_pos (by simp)]
        · have hT : rText 262144 ⟨xs, 0⟩ = ((xs.drop (numF 0 0 xs).2.1).take (numF 0 0 xs).1, ⟨(xs.drop (numF 0 0 xs).2.1).drop (numF 0 0 xs).1, 0⟩) := by
            unfold rText
            rw [if_neg (by simp), if_neg (by omega), if_neg (by simp [g2.1]), if_neg (by simp only; omega), if_neg (by simp only; omega)]
          rw [hT]
          have hl : ((xs.drop (numF 0 0 xs).2.1).drop (numF 0 0 xs).1).length = xs.length - (numF 0 0 xs).2.1 - (numF 0 0 xs).1 := by simp only [List.length_drop]
          unfold rWord
          rw [if_neg (by simp), if_pos (by simp only [hl]; omega)]
      · split at e <;> cases e
end Go.Proofs.Ytbbfjnfmfigcfaa
