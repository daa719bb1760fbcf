/-
  Contracts of the Reader's methods Uint, Raw, Left, Err, End, at a Reader and at none.
-/
import Derived.Test.YtbbfjnfmfigcfaaOct4
namespace Go.Proofs.Ytbbfjnfmfigcfaa
open Go.RowKit
set_option linter.unusedVariables false
set_option linter.unusedSimpArgs false

theorem numF_facts (xs : List UInt8) : ∀ (i x : Nat), i ≤ 9 → x < 128 ^ i → (numF i x xs).2.1 ≤ i + xs.length ∧ (numF i x xs).1 < 18446744073709551616 ∧ ((numF i x xs).2.2 = 0 ∨ (numF i x xs).2.2 = 8 ∨ (numF i x xs).2.2 = 110) ∧ ((numF i x xs).2.2 ≠ 0 → (numF i x xs).1 = 0) ∧ ((numF i x xs).2.2 = 0 → i < (numF i x xs).2.1 ∧ (numF i x xs).2.1 ≤ 10) := by
  induction xs with
  | nil => intro i x hi hx; simp [numF]
  | cons c t ih =>
    intro i x hi hx
    by_cases hb : i = 9 ∧ 1 < c.toNat ∨ 0 < i ∧ c.toNat = 0
    · rw [numF_bad i x c t hb]; simp
    · by_cases hc : c.toNat < 128
      · rw [numF_last i x c t hb hc]
        have h1 := acc_lt i x c.toNat hx
        refine ⟨by simp only [List.length_cons]; omega, ?_, by simp, by simp, fun _ => ⟨by simp only; omega, by simp only; omega⟩⟩
        by_cases h9 : i = 9
        · subst h9
          have : c.toNat % 128 ≤ 1 := by omega
          have h2 := Nat.mul_le_mul_right (128 ^ 9) this
          have h3 : (128 : Nat) ^ 9 = 9223372036854775808 := by decide
          simp only
          omega
        · have h2 := pow128_le (i + 1) (by omega)
          simp only
          omega
      · rw [numF_more i x c t hb hc]
        have hi9 : i < 9 := by
          rcases Nat.lt_or_ge i 9 with h | h
          · exact h
          · exact absurd (Or.inl ⟨by omega, by omega⟩) hb
        obtain ⟨h1, h2, h3, h4, h5⟩ := ih (i + 1) (x + c.toNat % 128 * 128 ^ i) (by omega) (acc_lt i x c.toNat hx)
        exact ⟨by simp; omega, h2, h3, h4, fun h => ⟨by have := (h5 h).1; omega, (h5 h).2⟩⟩
theorem numF_at (xs : List UInt8) : (numF 0 0 xs).2.1 ≤ xs.length ∧ (numF 0 0 xs).1 < 18446744073709551616 ∧ ((numF 0 0 xs).2.2 = 0 ∨ (numF 0 0 xs).2.2 = 8 ∨ (numF 0 0 xs).2.2 = 110) ∧ ((numF 0 0 xs).2.2 ≠ 0 → (numF 0 0 xs).1 = 0) ∧ ((numF 0 0 xs).2.2 = 0 → 0 < (numF 0 0 xs).2.1 ∧ (numF 0 0 xs).2.1 ≤ 10) := by
  have := numF_facts xs 0 0 (by omega) (by simp)
  simpa using this

def rUint (r : Rd) : Nat × Rd :=
  if r.err ≠ 0 then (0, r) else if (numF 0 0 r.rest).2.2 ≠ 0 then (0, ⟨r.rest, (numF 0 0 r.rest).2.2⟩) else ((numF 0 0 r.rest).1, ⟨r.rest.drop (numF 0 0 r.rest).2.1, 0⟩)

theorem ret1 {k : IntKind} {a b : Int} (h : a = b) : Ending.returned (.int k a) = .returned (.int k b) := by rw [h]

theorem left_calls (w : World) (g d : Nat) (r : Rd) (h : RdrAt w g d r) :
    Calls Try.prog 25 #[.pointer (some ⟨g, 0, none⟩)] w fun e w' => e = .returned (.int .i64 (r.rest.length : Int)) ∧ w = w' := by
  obtain ⟨xs, err⟩ := r
  obtain ⟨A, c, c0, c1, c2, hn, hm, H2, H3⟩ := h.open
  go_enter Try.func25, Try.ntmps25
  go_wp2
  go_ret
  exact ⟨rfl, rfl⟩
theorem left_none (w : World) : Calls Try.prog 25 #[.pointer none] w fun e w' => e = .returned (.int .i64 0) ∧ w = w' := by
  go_enter Try.func25, Try.ntmps25
  go_wp2
  go_ret
  exact ⟨rfl, rfl⟩
theorem err_calls (w : World) (g d : Nat) (r : Rd) (h : RdrAt w g d r) :
    Calls Try.prog 28 #[.pointer (some ⟨g, 0, none⟩)] w fun e w' => e = .returned (.int .i64 r.err) ∧ w = w' := by
  obtain ⟨xs, err⟩ := r
  obtain ⟨A, c, c0, c1, c2, hn, hm, H2, H3⟩ := h.open
  go_enter Try.func28, Try.ntmps28
  go_wp2
  go_ret
  exact ⟨rfl, rfl⟩
theorem err_none (w : World) : Calls Try.prog 28 #[.pointer none] w fun e w' => e = .returned (.int .i64 1) ∧ w = w' := by
  go_enter Try.func28, Try.ntmps28
  go_wp2
  go_ret
  exact ⟨rfl, rfl⟩
def rEnd (r : Rd) : Int := if r.err ≠ 0 then r.err else if 0 < r.rest.length then 111 else 0
end Go.Proofs.Ytbbfjnfmfigcfaa
