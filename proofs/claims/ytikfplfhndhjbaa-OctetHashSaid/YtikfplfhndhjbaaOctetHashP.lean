/-
  The walk of OctetHash: a byte more is a step more; another byte is another hash; digits there and back.
-/
import Derived.Test.YtikfplfhndhjbaaLaw01w
namespace Go.Proofs.Ytikfplfhndhjbaa
open Go.RowKit
set_option linter.unusedVariables false
set_option linter.unusedSimpArgs false

/-! ### The plain law. -/
theorem foldl_snoc {α β : Type} (f : β → α → β) (a : β) (xs : List α) (c : α) : (xs ++ [c]).foldl f a = f (xs.foldl f a) c := by rw [List.foldl_append]; rfl
theorem hashF_snoc (xs : List UInt8) (c : UInt8) : hashF (xs ++ [c]) = hstep (hashF xs) c := foldl_snoc hstep _ xs c
theorem mul_inv_inj (p q M a b : Nat) (hpq : p * q % M = 1) (ha : a < M) (hb : b < M) (h : a * p % M = b * p % M) : a = b := by
  have e : ∀ x : Nat, x < M → x * p % M * q % M = x := by
    intro x hx
    rw [Nat.mod_mul_mod, Nat.mul_assoc, Nat.mul_mod, hpq, Nat.mul_one, Nat.mod_mod, Nat.mod_eq_of_lt hx]
  rw [← e a ha, ← e b hb, h]
theorem odd_inv : 1099511628211 * 14886173955864302971 % 18446744073709551616 = 1 := by decide
theorem mul_odd_inj (a b : Nat) (ha : a < 18446744073709551616) (hb : b < 18446744073709551616) (h : a * 1099511628211 % 18446744073709551616 = b * 1099511628211 % 18446744073709551616) : a = b :=
  mul_inv_inj 1099511628211 14886173955864302971 18446744073709551616 a b odd_inv ha hb h
theorem xor_lt (a : Nat) (c : UInt8) (ha : a < 18446744073709551616) : a ^^^ c.toNat < 18446744073709551616 := by
  have hc : c.toNat < 256 := c.toNat_lt
  exact Nat.xor_lt_two_pow (n := 64) (by omega) (by omega)
theorem hstep_inj (a b : Nat) (c : UInt8) (ha : a < 18446744073709551616) (hb : b < 18446744073709551616) (h : hstep a c = hstep b c) : a = b := by
  have := mul_odd_inj _ _ (xor_lt a c ha) (xor_lt b c hb) h
  have h2 := congrArg (· ^^^ c.toNat) this
  simpa [Nat.xor_assoc] using h2
theorem hstep_inj2 (a : Nat) (c d : UInt8) (ha : a < 18446744073709551616) (h : hstep a c = hstep a d) : c = d := by
  have := mul_odd_inj _ _ (xor_lt a c ha) (xor_lt a d ha) h
  have h2 := congrArg (a ^^^ ·) this
  simp [← Nat.xor_assoc] at h2
  exact UInt8.toNat_inj.1 h2
theorem foldl_inj (t : List UInt8) : ∀ a b : Nat, a < 18446744073709551616 → b < 18446744073709551616 → t.foldl hstep a = t.foldl hstep b → a = b := by
  induction t with
  | nil => intro a b _ _ h; exact h
  | cons c t ih => intro a b ha hb h; exact hstep_inj a b c ha hb (ih _ _ (hstep_lt a c) (hstep_lt b c) h)
theorem hashF_set (xs : List UInt8) : ∀ (h i : Nat) (hi : i < xs.length) (d : UInt8), h < 18446744073709551616 → ((xs.set i d).foldl hstep h = xs.foldl hstep h ↔ d = xs[i]) := by
  induction xs with
  | nil => intro h i hi; simp at hi
  | cons c t ih =>
    intro h i hi d hh
    cases i with
    | zero =>
      simp only [List.set_cons_zero, List.foldl_cons, List.getElem_cons_zero]
      constructor
      · intro he; exact hstep_inj2 h d c hh (foldl_inj t _ _ (hstep_lt h d) (hstep_lt h c) he)
      · rintro rfl; rfl
    | succ i =>
      simp only [List.set_cons_succ, List.foldl_cons, List.getElem_cons_succ]
      exact ih _ i (by simpa using hi) d (hstep_lt h c)
theorem hash_changed (xs : List UInt8) (i : Nat) (hi : i < xs.length) (o : UInt8) : (hashF (xs.set i (xs[i] ^^^ o)) = hashF xs) ↔ o = 0 := by
  rw [hashF, hashF, hashF_set xs _ i hi _ (by decide)]
  constructor
  · intro h
    have := congrArg (xs[i] ^^^ ·) h
    simp [← UInt8.xor_assoc] at this
    exact this
  · rintro rfl; simp

theorem hexv_hexd : ∀ d, d < 16 → hexv (hexd d).toNat = some d := by decide
theorem unhexGo_hex (x : Nat) (k : Nat) (hk : k ≤ 16) : ∀ y, unhexGo y ((hexF x).drop (16 - k)) = some (y * 16 ^ k + x % 16 ^ k) := by
  have hl : (hexF x).length = 16 := by simp [hexF]
  induction k with
  | zero => intro y; rw [List.drop_of_length_le (by omega)]; simp [unhexGo, Nat.mod_one]
  | succ k ih =>
    intro y
    have hd : (hexF x).drop (16 - (k + 1)) = hexd (x / 16 ^ k % 16) :: (hexF x).drop (16 - k) := by
      rw [List.drop_eq_getElem_cons (by omega), show 16 - (k + 1) + 1 = 16 - k by omega]
      congr 1
      simp only [hexF, List.getElem_map, List.getElem_range, show 15 - (16 - (k + 1)) = k by omega]
    rw [hd, unhexGo_ok _ _ _ _ (hexv_hexd _ (Nat.mod_lt _ (by decide))), ih (by omega)]
    congr 1
    have h1 := Nat.mod_mul (x := x) (a := 16 ^ k) (b := 16)
    rw [Nat.pow_succ, h1, Nat.add_mul, Nat.mul_comm (x / 16 ^ k % 16)]
    rw [Nat.mul_assoc, Nat.mul_comm 16 (16 ^ k)]
    omega
theorem unhex_hex (x : Nat) (hx : x < 18446744073709551616) : unhexF (hexF x) = some x := by
  have hl : (hexF x).length = 16 := by simp [hexF]
  rw [unhexF, if_pos hl]
  have := unhexGo_hex x 16 (Nat.le_refl _) 0
  simp only [Nat.sub_self, List.drop_zero, Nat.zero_mul, Nat.zero_add] at this
  rw [this, Nat.mod_eq_of_lt hx]
end Go.Proofs.Ytikfplfhndhjbaa
