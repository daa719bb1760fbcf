/-
  Contracts of the Reader's methods Uint, Raw, Left, Err, End, at a Reader and at none.
-/
import Derived.Test.YtkmnkbmmgopldaaOct4
namespace Go.Proofs.Ytkmnkbmmgopldaa
open Go.RowKit
set_option linter.unusedVariables false
set_option linter.unusedSimpArgs false

theorem numF_facts (xs : List UInt8) : ∀ (i x : Nat), i ≤ 9 → x < 128 ^ i → (numF i x xs).2.1 ≤ i + xs.length ∧ (numF i x xs).1 < 18446744073709551616 ∧ ((numF i x xs).2.2 = 0 ∨ (numF i x xs).2.2 = 8 ∨ (numF i x xs).2.2 = 110) ∧ ((numF i x xs).2.2 ≠ 0 → (numF i x xs).1 = 0) ∧ ((numF i x xs).2.2 = 0 → i < (numF i x xs).2.1 ∧ (numF i x xs).2.1 ≤ 10) := by
  induction xs with
  | nil => intro i x hi hx; simp [numF]
  | cons c t ih =>
    intro i x hi hx
    by_cases hb : i = 9 ∧ 1 < c.toNat ∨ 0 < i ∧ c.toNat = 0
    · rw [numF_bad i x c t hb]; simp
    · by_cases hc : c.toNat < 128
      · rw [numF_last i x c t hb hc]
        have h1 := acc_lt i x c.toNat hx
        refine ⟨by simp only [List.length_cons]; omega, ?_, by simp, by simp, fun _ => ⟨by simp only; omega, by simp only; omega⟩⟩
        by_cases h9 : i = 9
        · subst h9
          have : c.toNat % 128 ≤ 1 := by omega
          have h2 := Nat.mul_le_mul_right (128 ^ 9) this
          have h3 : (128 : Nat) ^ 9 = 9223372036854775808 := by decide
          simp only
          omega
        · have h2 := pow128_le (i + 1) (by omega)
          simp only
          omega
      · rw [numF_more i x c t hb hc]
        have hi9 : i < 9 := by
          rcases Nat.lt_or_ge i 9 with h | h
          · exact h
          · exact absurd (Or.inl ⟨by omega, by omega⟩) hb
        obtain ⟨h1, h2, h3, h4, h5⟩ := ih (i + 1) (x + c.toNat % 128 * 128 ^ i) (by omega) (acc_lt i x c.toNat hx)
        exact ⟨by simp; omega, h2, h3, h4, fun h => ⟨by have := (h5 h).1; omega, (h5 h).2⟩⟩
theorem numF_at (xs : List UInt8) : (numF 0 0 xs).2.1 ≤ xs.length ∧ (numF 0 0 xs).1 < 18446744073709551616 ∧ ((numF 0 0 xs).2.2 = 0 ∨ (numF 0 0 xs).2.2 = 8 ∨ (numF 0 0 xs).2.2 = 110) ∧ ((numF 0 0 xs).2.2 ≠ 0 → (numF 0 0 xs).1 = 0) ∧ ((numF 0 0 xs).2.2 = 0 → 0 < (numF 0 0 xs).2.1 ∧ (numF 0 0 xs).2.1 ≤ 10) := by
  have := numF_facts xs 0 0 (by omega) (by simp)
  simpa using this

def rUint (r : Rd) : Nat × Rd :=
  if r.err ≠ 0 then (0, r) else if (numF 0 0 r.rest).2.2 ≠ 0 then (0, ⟨r.rest, (numF 0 0 r.rest).2.2⟩) else ((numF 0 0 r.rest).1, ⟨r.rest.drop (numF 0 0 r.rest).2.1, 0⟩)

theorem ret1 {k : IntKind} {a b : Int} (h : a = b) : Ending.returned (.int k a) = .returned (.int k b) := by rw [h]

set_option maxHeartbeats 400000 in
theorem uint_calls (w : World) (g d : Nat) (r : Rd) (h : RdrAt w g d r) (hx : r.rest.length ≤ 140737488355328) :
    Calls Try.prog 48 #[.pointer (some ⟨g, 0, none⟩)] w fun e w' => e = .returned (.int .u64 ((rUint r).1 : Int)) ∧ RdrAt w' g d (rUint r).2 ∧ Chg (One g) w w' := by
  obtain ⟨xs, err⟩ := r
  have H := Lib.hid h
  obtain ⟨A, c, c0, c1, c2, hn, hm, H2, H3⟩ := h.open
  simp only at hx
  by_cases he : err = 0
  · subst he
    obtain ⟨f1, f2, f3, f4, f5⟩ := numF_at xs
    have HU : Hid (rUint ⟨xs, 0⟩ = if (numF 0 0 xs).2.2 ≠ 0 then (0, ⟨xs, (numF 0 0 xs).2.2⟩) else ((numF 0 0 xs).1, ⟨xs.drop (numF 0 0 xs).2.1, 0⟩)) := by simp [Hid, rUint]
    have HC := Lib.hid (number_calls w A xs.length c xs H2.out rfl hx)
    generalize hN : numF 0 0 xs = N at *
    obtain ⟨v, n, ee⟩ := N
    have HN := Lib.hid hN
    simp only at f1 f2
    clear f3 f4 f5 hN
    by_cases hee : ee = 0
    · subst hee
      go_enter Try.func48, Try.ntmps48
      go_wp2_with (first | (go_at_call 75; refine (ready_at _ _ _ _ h).mono ?_; rintro e w' ⟨rfl, rfl⟩) | (go_at_call 78; refine HC.out.mono ?_; rintro e w' ⟨rfl, rfl⟩))
      refine (take_at _ _ _ _ _ n H.out (by omega) (by omega)).mono ?_
      rintro e w' ⟨A', rfl, hb, hr, hc, hp⟩
      have HP := Lib.hid hp
      clear hp
      go_wp2
      go_ret
      exact ⟨by rw [HU.out]; rfl, by rw [HU.out]; simpa using hr, hc⟩
    · have hb : (ee == 0) = false := by simpa using hee
      have hb' : (ee != 0) = true := by simpa using hee
      have HE := Lib.hid hee
      clear hee
      go_enter Try.func48, Try.ntmps48
      go_wp2_with (first | (go_at_call 75; refine (ready_at _ _ _ _ h).mono ?_; rintro e w' ⟨rfl, rfl⟩) | (go_at_call 78; refine HC.out.mono ?_; rintro e w' ⟨rfl, rfl⟩) | (go_at_call 76; refine (refuse_at _ _ _ _ _ _ h).mono ?_; rintro e w' ⟨rfl, hr, hc⟩))
      go_ret
      exact ⟨by rw [HU.out, if_pos HE.out]; rfl, by rw [HU.out, if_pos HE.out]; exact hr, hc⟩
  · have hb : (err == 0) = false := by simpa using he
    go_enter Try.func48, Try.ntmps48
    go_wp2_with (go_at_call 75; refine (ready_at _ _ _ _ h).mono ?_; rintro e w' ⟨rfl, rfl⟩)
    go_ret
    simp only [rUint, ne_eq, he, not_false_eq_true, if_true]
    exact ⟨rfl, H.out, Chg.refl _ _⟩

set_option maxHeartbeats 400000 in
theorem uint_none (w : World) : Calls Try.prog 48 #[.pointer none] w fun e w' => e = .returned (.int .u64 0) ∧ w = w' := by
  go_enter Try.func48, Try.ntmps48
  go_wp2
  go_ret
  exact ⟨rfl, rfl⟩

theorem left_calls (w : World) (g d : Nat) (r : Rd) (h : RdrAt w g d r) :
    Calls Try.prog 47 #[.pointer (some ⟨g, 0, none⟩)] w fun e w' => e = .returned (.int .i64 (r.rest.length : Int)) ∧ w = w' := by
  obtain ⟨xs, err⟩ := r
  obtain ⟨A, c, c0, c1, c2, hn, hm, H2, H3⟩ := h.open
  go_enter Try.func47, Try.ntmps47
  go_wp2
  go_ret
  exact ⟨rfl, rfl⟩
theorem left_none (w : World) : Calls Try.prog 47 #[.pointer none] w fun e w' => e = .returned (.int .i64 0) ∧ w = w' := by
  go_enter Try.func47, Try.ntmps47
  go_wp2
  go_ret
  exact ⟨rfl, rfl⟩
theorem err_calls (w : World) (g d : Nat) (r : Rd) (h : RdrAt w g d r) :
    Calls Try.prog 49 #[.pointer (some ⟨g, 0, none⟩)] w fun e w' => e = .returned (.int .i64 r.err) ∧ w = w' := by
  obtain ⟨xs, err⟩ := r
  obtain ⟨A, c, c0, c1, c2, hn, hm, H2, H3⟩ := h.open
  go_enter Try.func49, Try.ntmps49
  go_wp2
  go_ret
  exact ⟨rfl, rfl⟩
theorem err_none (w : World) : Calls Try.prog 49 #[.pointer none] w fun e w' => e = .returned (.int .i64 1) ∧ w = w' := by
  go_enter Try.func49, Try.ntmps49
  go_wp2
  go_ret
  exact ⟨rfl, rfl⟩
def rEnd (r : Rd) : Int := if r.err ≠ 0 then r.err else if 0 < r.rest.length then 111 else 0
theorem end_calls (w : World) (g d : Nat) (r : Rd) (h : RdrAt w g d r) :
    Calls Try.prog 52 #[.pointer (some ⟨g, 0, none⟩)] w fun e w' => e = .returned (.int .i64 (rEnd r)) ∧ w = w' := by
  obtain ⟨xs, err⟩ := r
  obtain ⟨A, c, c0, c1, c2, hn, hm, H2, H3⟩ := h.open
  by_cases he : err = 0
  · subst he
    by_cases hl : 0 < xs.length
    · go_enter Try.func52, Try.ntmps52
      go_wp2
      go_ret
      exact ⟨by simp [rEnd, hl], rfl⟩
    · go_enter Try.func52, Try.ntmps52
      go_wp2
      go_ret
      exact ⟨by simp [rEnd, hl], rfl⟩
  · have hb : (err != 0) = true := by simpa using he
    go_enter Try.func52, Try.ntmps52
    go_wp2
    go_ret
    exact ⟨by simp [rEnd, he], rfl⟩
theorem end_none (w : World) : Calls Try.prog 52 #[.pointer none] w fun e w' => e = .returned (.int .i64 1) ∧ w = w' := by
  go_enter Try.func52, Try.ntmps52
  go_wp2
  go_ret
  exact ⟨rfl, rfl⟩
end Go.Proofs.Ytkmnkbmmgopldaa
