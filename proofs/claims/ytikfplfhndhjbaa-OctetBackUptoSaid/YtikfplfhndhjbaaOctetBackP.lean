/-
  The plain law of OctetBack: what was written is read as the same, and a shorter beginning is refused.
-/
import Derived.Test.YtikfplfhndhjbaaOct6
import Derived.Test.YtikfplfhndhjbaaOct8
namespace Go.Proofs.Ytikfplfhndhjbaa
set_option linter.unusedVariables false
set_option linter.unusedSimpArgs false

/-- The bytes of numbers, of texts. -/
def encN (l : List Nat) : List UInt8 := l.flatMap fun x => leb x ++ wide x
def encT (l : List (List UInt8)) : List UInt8 := l.flatMap fun s => leb s.length ++ s

theorem toNat_ofNat_lt (n : Nat) (h : n < 256) : (UInt8.ofNat n).toNat = n := by rw [UInt8.toNat_ofNat']; omega

/-- A whole short form is read. -/
theorem numF_whole (t : List UInt8) : ∀ (y i x : Nat), i ≤ 9 → y < 128 ^ (9 - i) * 2 → (0 < i → 0 < y) → numF i x (leb y ++ t) = (x + y * 128 ^ i, i + (leb y).length, 0) := by
  intro y
  induction y using Nat.strongRecOn with
  | _ y ih =>
    intro i x hi hy h0
    by_cases hs : y < 128
    · rw [leb_small y hs]
      have hc := toNat_ofNat_lt y (by omega)
      have hb : ¬ (i = 9 ∧ 1 < (UInt8.ofNat y).toNat ∨ 0 < i ∧ (UInt8.ofNat y).toNat = 0) := by
        rw [hc]
        rintro (⟨rfl, h⟩ | ⟨h, h'⟩)
        · simp at hy; omega
        · have := h0 h; omega
      rw [List.singleton_append, numF_last i x _ t hb (by rw [hc]; exact hs), hc, Nat.mod_eq_of_lt hs]
      rfl
    · rw [leb_big y hs]
      have hc := toNat_ofNat_lt (y % 128 + 128) (by omega)
      have hi9 : i ≠ 9 := by rintro rfl; simp at hy; omega
      have hb : ¬ (i = 9 ∧ 1 < (UInt8.ofNat (y % 128 + 128)).toNat ∨ 0 < i ∧ (UInt8.ofNat (y % 128 + 128)).toNat = 0) := by
        rw [hc]; omega
      rw [List.cons_append, numF_more i x _ _ hb (by rw [hc]; omega), hc]
      have hp : 128 ^ (9 - i) * 2 = 128 * (128 ^ (9 - (i + 1)) * 2) := by
        rw [show 9 - i = (9 - (i + 1)) + 1 by omega, Nat.pow_succ]; omega
      rw [ih (y / 128) (by omega) (i + 1) _ (by omega) (by rw [hp] at hy; exact Nat.div_lt_of_lt_mul hy) (by omega)]
      have e1 : (y % 128 + 128) % 128 = y % 128 := by omega
      have e2 : y = y % 128 + y / 128 * 128 := by omega
      rw [e1, Nat.pow_succ, List.length_cons]
      refine Prod.ext ?_ (Prod.ext ?_ rfl)
      · show x + y % 128 * 128 ^ i + y / 128 * (128 ^ i * 128) = x + y * 128 ^ i
        conv => rhs; rw [e2]
        rw [Nat.add_mul, Nat.mul_assoc, Nat.mul_comm 128 (128 ^ i)]
        omega
      · show i + 1 + (leb (y / 128)).length = i + ((leb (y / 128)).length + 1)
        omega
theorem numF_leb_whole (y : Nat) (h : y < 18446744073709551616) (t : List UInt8) : numF 0 0 (leb y ++ t) = (y, (leb y).length, 0) := by
  have := numF_whole t y 0 0 (by omega) (by simpa using h) (by omega)
  simpa using this
/-- A beginning of a short form that is none ends too early. -/
theorem numF_part : ∀ (y i x k : Nat), i ≤ 9 → y < 128 ^ (9 - i) * 2 → k < (leb y).length → numF i x ((leb y).take k) = (0, 0, 110) := by
  intro y
  induction y using Nat.strongRecOn with
  | _ y ih =>
    intro i x k hi hy hk
    by_cases hs : y < 128
    · rw [leb_small y hs] at hk ⊢
      have : k = 0 := by simpa using hk
      subst this
      simp [numF]
    · rw [leb_big y hs] at hk ⊢
      cases k with
      | zero => simp [numF]
      | succ k =>
        have hc := toNat_ofNat_lt (y % 128 + 128) (by omega)
        have hi9 : i ≠ 9 := by rintro rfl; simp at hy; omega
        have hb : ¬ (i = 9 ∧ 1 < (UInt8.ofNat (y % 128 + 128)).toNat ∨ 0 < i ∧ (UInt8.ofNat (y % 128 + 128)).toNat = 0) := by
          rw [hc]; omega
        rw [List.take_succ_cons, numF_more i x _ _ hb (by rw [hc]; omega)]
        have hp : 128 ^ (9 - i) * 2 = 128 * (128 ^ (9 - (i + 1)) * 2) := by
          rw [show 9 - i = (9 - (i + 1)) + 1 by omega, Nat.pow_succ]; omega
        exact ih (y / 128) (by omega) (i + 1) _ k (by omega) (by rw [hp] at hy; exact Nat.div_lt_of_lt_mul hy) (by simpa using hk)

/-- A whole wide form is read. -/
theorem beF_append (a b : List UInt8) : ∀ x, beF x (a ++ b) = beF (beF x a) b := by
  induction a with
  | nil => intro x; rfl
  | cons c t ih => intro x; simp only [List.cons_append, beF]; exact ih _
theorem beF_wide_take (x k : Nat) (hk : k ≤ 8) : beF 0 ((wide x).take k) = x / 256 ^ (8 - k) % 256 ^ k := by
  induction k with
  | zero => simp [beF, Nat.mod_one]
  | succ k ih =>
    rw [wide_take x k (by omega), beF_append, ih (by omega)]
    simp only [beF]
    have e : (UInt8.ofNat (x / 256 ^ (7 - k))).toNat = x / 256 ^ (7 - k) % 256 := by rw [UInt8.toNat_ofNat']
    rw [e, show 8 - k = (7 - k) + 1 by omega, show 8 - (k + 1) = 7 - k by omega, Nat.pow_succ, ← Nat.div_div_eq_div_mul]
    generalize x / 256 ^ (7 - k) = z
    rw [Nat.pow_succ, Nat.mul_comm (256 ^ k) 256, Nat.mod_mul]
    omega
theorem beF_wide (x : Nat) (h : x < 18446744073709551616) : beF 0 (wide x) = x := by
  have := beF_wide_take x 8 (Nat.le_refl _)
  rw [List.take_of_length_le (by rw [wide_len]; omega)] at this
  rw [this]
  simp only [Nat.sub_self, Nat.pow_zero, Nat.div_one]
  exact Nat.mod_eq_of_lt h

theorem rUint_whole (y : Nat) (h : y < 18446744073709551616) (t : List UInt8) : rUint ⟨leb y ++ t, 0⟩ = (y, ⟨t, 0⟩) := by
  simp only [rUint, numF_leb_whole y h t]
  simp
theorem rWord_whole (y : Nat) (h : y < 18446744073709551616) (t : List UInt8) : rWord ⟨wide y ++ t, 0⟩ = (y, ⟨t, 0⟩) := by
  have hl := wide_len y
  simp only [rWord]
  rw [if_neg (by simp), if_neg (by simp [hl])]
  rw [List.take_append_of_le_length (by omega), List.take_of_length_le (by omega), beF_wide y h]
  simp [hl]
theorem rText_whole (s t : List UInt8) (h : s.length < 9223372036854775808) : rText (s.length : Int) ⟨leb s.length ++ (s ++ t), 0⟩ = (s, ⟨t, 0⟩) := by
  simp only [rText, numF_leb_whole s.length (by omega) (s ++ t)]
  rw [if_neg (by simp), if_neg (by omega), if_neg (by simp), if_neg (by omega), if_neg (by simp)]
  simp

/-- The state of a reader of a beginning that is shorter than what is to come. -/
def Cut (r : Rd) (rest : List UInt8) : Prop := r.err = 110 ∨ r.err = 0 ∧ ∃ k, k < rest.length ∧ r.rest = rest.take k
theorem Cut.end_ {r : Rd} (h : Cut r []) : r.err = 110 := by
  rcases h with h | ⟨_, k, hk, _⟩
  · exact h
  · simp at hk
theorem Cut.uint {r : Rd} {y : Nat} {t : List UInt8} (hy : y < 18446744073709551616) (h : Cut r (leb y ++ t)) : Cut (rUint r).2 t := by
  obtain ⟨rest, err⟩ := r
  rcases h with h | ⟨h, k, hk, hr⟩
  · simp only at h; subst h; exact .inl (by simp [rUint])
  · simp only at h hr
    subst h hr
    by_cases hc : k < (leb y).length
    · rw [List.take_append_of_le_length (by omega)]
      have := numF_part y 0 0 k (by omega) (by simpa using hy) hc
      exact .inl (by simp [rUint, this])
    · rw [List.take_append, List.take_of_length_le (by omega), rUint_whole y hy]
      exact .inr ⟨rfl, k - (leb y).length, by simp at hk; omega, rfl⟩
theorem Cut.word {r : Rd} {y : Nat} {t : List UInt8} (hy : y < 18446744073709551616) (h : Cut r (wide y ++ t)) : Cut (rWord r).2 t := by
  obtain ⟨rest, err⟩ := r
  have hl := wide_len y
  rcases h with h | ⟨h, k, hk, hr⟩
  · simp only at h; subst h; exact .inl (by simp [rWord])
  · simp only at h hr
    subst h hr
    by_cases hc : k < 8
    · have : ((wide y ++ t).take k).length < 8 := by rw [List.length_take]; omega
      exact .inl (by simp only [rWord]; rw [if_neg (by simp), if_pos this])
    · rw [List.take_append, List.take_of_length_le (by omega), rWord_whole y hy]
      exact .inr ⟨rfl, k - 8, by simp [hl] at hk; omega, by rw [hl]⟩
theorem Cut.text {r : Rd} {s t : List UInt8} (hs : s.length < 9223372036854775808) (h : Cut r (leb s.length ++ (s ++ t))) : Cut (rText (s.length : Int) r).2 t := by
  obtain ⟨rest, err⟩ := r
  rcases h with h | ⟨h, k, hk, hr⟩
  · simp only at h; subst h; exact .inl (by simp [rText])
  · simp only at h hr
    subst h hr
    by_cases hc : k < (leb s.length).length
    · rw [List.take_append_of_le_length (by omega)]
      have := numF_part s.length 0 0 k (by omega) (by simp; omega) hc
      exact .inl (by simp only [rText, this]; rw [if_neg (by simp), if_neg (by omega), if_pos (by simp)])
    · rw [List.take_append, List.take_of_length_le (by omega)]
      by_cases hc2 : k - (leb s.length).length < s.length
      · refine .inl ?_
        simp only [rText, numF_leb_whole s.length (by omega)]
        rw [if_neg (by simp), if_neg (by omega), if_neg (by simp), if_neg (by omega), if_pos (by simp; omega)]
      · rw [List.take_append, List.take_of_length_le (by omega), rText_whole s _ hs]
        exact .inr ⟨rfl, k - (leb s.length).length - s.length, by simp at hk; omega, rfl⟩
theorem Cut.start {b : List UInt8} {k : Nat} (hk : k < b.length) : Cut ⟨b.take k, 0⟩ b := .inr ⟨rfl, k, hk, rfl⟩

theorem encN_cons (x : Nat) (l : List Nat) (t : List UInt8) : encN (x :: l) ++ t = leb x ++ (wide x ++ (encN l ++ t)) := by simp [encN]
theorem encT_cons (s : List UInt8) (l : List (List UInt8)) : encT (s :: l) = leb s.length ++ (s ++ encT l) := by simp [encT]
theorem encN_snoc (x : Nat) (l : List Nat) : encN (l ++ [x]) = encN l ++ leb x ++ wide x := by simp [encN]
theorem encT_snoc (s : List UInt8) (l : List (List UInt8)) : encT (l ++ [s]) = encT l ++ (leb s.length ++ s) := by simp [encT]
theorem encN_len (l : List Nat) (h : ∀ x ∈ l, x < 18446744073709551616) : (encN l).length ≤ 18 * l.length := by
  induction l with
  | nil => simp [encN]
  | cons x t ih =>
    have h1 := leb_len10 x (h x (by simp))
    have h2 := wide_len x
    have h3 := ih (fun y hy => h y (by simp [hy]))
    have e : encN (x :: t) = leb x ++ (wide x ++ encN t) := by simp [encN]
    rw [e]
    simp only [List.length_append, List.length_cons]
    omega
theorem encN_split (l : List Nat) (k : Nat) : encN l = encN (l.take k) ++ encN (l.drop k) := by
  conv => lhs; rw [← List.take_append_drop k l]
  unfold encN
  rw [List.flatMap_append]
theorem encT_split (l : List (List UInt8)) (k : Nat) : encT l = encT (l.take k) ++ encT (l.drop k) := by
  conv => lhs; rw [← List.take_append_drop k l]
  unfold encT
  rw [List.flatMap_append]
end Go.Proofs.Ytikfplfhndhjbaa
