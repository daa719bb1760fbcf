/-
  Plain laws of numbers in bytes and of records: no Go function is spoken of here.
-/
import Derived.Test.YtkmnkbmmgopldaaOct8
import Derived.Test.YtkmnkbmmgopldaaOct6
namespace Go.Proofs.Ytkmnkbmmgopldaa
set_option linter.unusedVariables false
set_option linter.unusedSimpArgs false

theorem numF_leb (xs : List UInt8) : ∀ (i x v n : Nat), i ≤ 9 → x < 128 ^ i → numF i x xs = (v, n, 0) → ∃ m, n = i + m ∧ 0 < m ∧ x ≤ v ∧ (v - x) % 128 ^ i = 0 ∧ (0 < i → 0 < (v - x) / 128 ^ i) ∧ leb ((v - x) / 128 ^ i) = xs.take m := by
  induction xs with
  | nil => intro i x v n hi hx h; simp [numF] at h
  | cons c t ih =>
    intro i x v n hi hx h
    by_cases hb : i = 9 ∧ 1 < c.toNat ∨ 0 < i ∧ c.toNat = 0
    · rw [numF_bad i x c t hb] at h; simp at h
    · have hc256 : c.toNat < 256 := c.toNat_lt
      have hpos : 0 < 128 ^ i := Nat.pow_pos (by decide)
      by_cases hc : c.toNat < 128
      · rw [numF_last i x c t hb hc] at h
        simp only [Prod.mk.injEq, and_true] at h
        obtain ⟨rfl, rfl⟩ := h
        have e : (x + c.toNat % 128 * 128 ^ i - x) / 128 ^ i = c.toNat := by
          rw [Nat.add_sub_cancel_left, Nat.mul_div_cancel _ hpos]; omega
        refine ⟨1, rfl, by omega, by omega, ?_, ?_, ?_⟩
        · rw [Nat.add_sub_cancel_left]; exact Nat.mul_mod_left _ _
        · intro h0; rw [e]
          rcases Nat.eq_zero_or_pos c.toNat with h1 | h1
          · exact absurd (Or.inr ⟨h0, h1⟩) hb
          · exact h1
        · rw [e, leb_small _ hc]
          simp
      · rw [numF_more i x c t hb hc] at h
        have hi9 : i < 9 := by
          rcases Nat.lt_or_ge i 9 with h' | h'
          · exact h'
          · exact absurd (Or.inl ⟨by omega, by omega⟩) hb
        obtain ⟨m, h1, h2, h4, h5, h6, h7⟩ := ih (i + 1) _ v n (by omega) (acc_lt i x c.toNat hx) h
        have hq := h6 (by omega)
        -- v - x = (c % 128) * 128^i + q * 128^(i+1)
        generalize hQ : (v - (x + c.toNat % 128 * 128 ^ i)) / 128 ^ (i + 1) = q at *
        have hv : v - (x + c.toNat % 128 * 128 ^ i) = q * 128 ^ (i + 1) := by
          have := Nat.div_add_mod (v - (x + c.toNat % 128 * 128 ^ i)) (128 ^ (i + 1))
          rw [h5, hQ, Nat.add_zero, Nat.mul_comm] at this
          exact this.symm
        have hvx : v - x = (c.toNat % 128 + q * 128) * 128 ^ i := by
          rw [Nat.pow_succ] at hv
          rw [Nat.add_mul, Nat.mul_assoc, Nat.mul_comm 128 (128 ^ i)]
          omega
        have hdiv : (v - x) / 128 ^ i = c.toNat % 128 + q * 128 := by rw [hvx, Nat.mul_div_cancel _ hpos]
        refine ⟨m + 1, by omega, by omega, by omega, ?_, ?_, ?_⟩
        · rw [hvx]; exact Nat.mul_mod_left _ _
        · intro _; rw [hdiv]; omega
        · rw [hdiv, leb_big _ (by omega), List.take_succ_cons, ← h7]
          congr 1
          · have e1 : (c.toNat % 128 + q * 128) % 128 + 128 = c.toNat := by omega
            rw [e1]; simp
          · congr 1; omega
theorem numF_leb0 (xs : List UInt8) (v n : Nat) (h : numF 0 0 xs = (v, n, 0)) : leb v = xs.take n := by
  obtain ⟨m, h1, _, _, _, _, h7⟩ := numF_leb xs 0 0 v n (by omega) (by simp) h
  simp at h7
  rw [h7, h1, Nat.zero_add]
theorem beF_append (a b : List UInt8) : ∀ x, beF x (a ++ b) = beF (beF x a) b := by
  induction a with
  | nil => intro x; rfl
  | cons c t ih => intro x; simp only [List.cons_append, beF]; exact ih _
theorem beF_wide_take (x k : Nat) (hk : k ≤ 8) : beF 0 ((wide x).take k) = x / 256 ^ (8 - k) % 256 ^ k := by
  induction k with
  | zero => simp [beF, Nat.mod_one]
  | succ k ih =>
    rw [wide_take x k (by omega), beF_append, ih (by omega)]
    simp only [beF]
    have e : (UInt8.ofNat (x / 256 ^ (7 - k))).toNat = x / 256 ^ (7 - k) % 256 := by rw [UInt8.toNat_ofNat']
    rw [e, show 8 - k = (7 - k) + 1 by omega, show 8 - (k + 1) = 7 - k by omega, Nat.pow_succ, ← Nat.div_div_eq_div_mul]
    generalize x / 256 ^ (7 - k) = z
    rw [Nat.pow_succ, Nat.mul_comm (256 ^ k) 256, Nat.mod_mul]
    omega
theorem beF_wide (x : Nat) (h : x < 18446744073709551616) : beF 0 (wide x) = x := by
  have := beF_wide_take x 8 (Nat.le_refl _)
  rw [List.take_of_length_le (by rw [wide_len]; omega)] at this
  rw [this]
  simp only [Nat.sub_self, Nat.pow_zero, Nat.div_one]
  exact Nat.mod_eq_of_lt h
theorem beF_inj : ∀ (xs ys : List UInt8) (x y : Nat), xs.length = ys.length → beF x xs = beF y ys → x = y ∧ xs = ys
  | [], [], x, y, _, h => ⟨h, rfl⟩
  | c :: t, d :: u, x, y, hl, h => by
    obtain ⟨h1, h2⟩ := beF_inj t u (x * 256 + c.toNat) (y * 256 + d.toNat) (by simpa using hl) h
    have hc : c.toNat < 256 := c.toNat_lt
    have hd : d.toNat < 256 := d.toNat_lt
    have e : c = d := UInt8.toNat_inj.1 (by omega)
    exact ⟨by omega, by rw [e, h2]⟩
theorem beF8_lt (l : List UInt8) (h : l.length = 8) : beF 0 l < 18446744073709551616 := by
  have := beF_lt l 0
  rw [h] at this
  simpa using this
theorem wide_beF (l : List UInt8) (h : l.length = 8) : wide (beF 0 l) = l :=
  (beF_inj _ _ 0 0 (by rw [wide_len, h]) (beF_wide _ (beF8_lt l h))).2
end Go.Proofs.Ytkmnkbmmgopldaa
