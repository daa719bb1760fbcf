/-
  Records' bytes are read as those records; a made row of bytes.
-/
import Derived.Test.YtbbfjnfmfigcfaaJ15
import Derived.Laws.OwnMore
namespace Go.Proofs.Ytbbfjnfmfigcfaa
open Go.RowKit
set_option linter.unusedVariables false
set_option linter.unusedSimpArgs false

theorem toNat_ofNat_lt (n : Nat) (h : n < 256) : (UInt8.ofNat n).toNat = n := by rw [UInt8.toNat_ofNat']; omega
/-- A whole short form is read. -/
theorem numF_whole (t : List UInt8) : ∀ (y i x : Nat), i ≤ 9 → y < 128 ^ (9 - i) * 2 → (0 < i → 0 < y) → numF i x (leb y ++ t) = (x + y * 128 ^ i, i + (leb y).length, 0) := by
  intro y
  induction y using Nat.strongRecOn with
  | _ y ih =>
    intro i x hi hy h0
    by_cases hs : y < 128
    · rw [leb_small y hs]
      have hc := toNat_ofNat_lt y (by omega)
      have hb : ¬ (i = 9 ∧ 1 < (UInt8.ofNat y).toNat ∨ 0 < i ∧ (UInt8.ofNat y).toNat = 0) := by
        rw [hc]
        rintro (⟨rfl, h⟩ | ⟨h, h'⟩)
        · simp at hy; omega
        · have := h0 h; omega
      rw [List.singleton_append, numF_last i x _ t hb (by rw [hc]; exact hs), hc, Nat.mod_eq_of_lt hs]
      rfl
    · rw [leb_big y hs]
      have hc := toNat_ofNat_lt (y % 128 + 128) (by omega)
      have hi9 : i ≠ 9 := by rintro rfl; simp at hy; omega
      have hb : ¬ (i = 9 ∧ 1 < (UInt8.ofNat (y % 128 + 128)).toNat ∨ 0 < i ∧ (UInt8.ofNat (y % 128 + 128)).toNat = 0) := by
        rw [hc]; omega
      rw [List.cons_append, numF_more i x _ _ hb (by rw [hc]; omega), hc]
      have hp : 128 ^ (9 - i) * 2 = 128 * (128 ^ (9 - (i + 1)) * 2) := by
        rw [show 9 - i = (9 - (i + 1)) + 1 by omega, Nat.pow_succ]; omega
      rw [ih (y / 128) (by omega) (i + 1) _ (by omega) (by rw [hp] at hy; exact Nat.div_lt_of_lt_mul hy) (by omega)]
      have e1 : (y % 128 + 128) % 128 = y % 128 := by omega
      have e2 : y = y % 128 + y / 128 * 128 := by omega
      rw [e1, Nat.pow_succ, List.length_cons]
      refine Prod.ext ?_ (Prod.ext ?_ rfl)
      · show x + y % 128 * 128 ^ i + y / 128 * (128 ^ i * 128) = x + y * 128 ^ i
        conv => rhs; rw [e2]
        rw [Nat.add_mul, Nat.mul_assoc, Nat.mul_comm 128 (128 ^ i)]
        omega
      · show i + 1 + (leb (y / 128)).length = i + ((leb (y / 128)).length + 1)
        omega
theorem numF_leb_whole (y : Nat) (h : y < 18446744073709551616) (t : List UInt8) : numF 0 0 (leb y ++ t) = (y, (leb y).length, 0) := by
  have := numF_whole t y 0 0 (by omega) (by simpa using h) (by omega)
  simpa using this
theorem step_enc (p t : List UInt8) (hp : p.length ≤ 262144) : stepF (recF p ++ t) = some (some p) := by
  have hN : numF 0 0 (recF p ++ t) = (p.length, (leb p.length).length, 0) := by
    have : recF p ++ t = leb p.length ++ (p ++ (wide (hashF p) ++ t)) := by simp [recF]
    rw [this]
    exact numF_leb_whole _ (by omega) _
  have hne : recF p ++ t ≠ [] := by
    intro h
    have := congrArg List.length h
    have h9 := recF_len0 p
    rw [List.length_append] at this
    simp only [List.length_nil] at this
    omega
  have hl : (recF p ++ t).length = (leb p.length).length + p.length + 8 + t.length := by
    simp only [recF, List.length_append, wide_len]
  have hd : (recF p ++ t).drop (leb p.length).length = p ++ (wide (hashF p) ++ t) := by
    have : recF p ++ t = leb p.length ++ (p ++ (wide (hashF p) ++ t)) := by simp [recF]
    rw [this, List.drop_left]
  unfold stepF
  rw [hN]
  simp only
  rw [if_neg (by rintro (h | h); exact hne h; simp at h), if_neg (by rintro (h | h); exact h rfl; omega), if_neg (by omega), hd, List.take_left, List.drop_left]
  rw [List.take_append_of_le_length (by rw [wide_len]; omega), List.take_of_length_le (by rw [wide_len]; omega), beF_wide _ (hashF_lt _), if_pos rfl]
theorem Rds.ofEnc : ∀ (K : List (List UInt8)), (∀ p ∈ K, p.length ≤ 262144) → Rds (encF K) K false
  | [], _ => Rds.stop (by simp [encF, stepF])
  | p :: K, h => by
    have e : encF (p :: K) = recF p ++ encF K := by simp [encF]
    rw [e]
    refine Rds.more (step_enc p _ (h p (by simp))) ?_
    rw [List.drop_left]
    exact Rds.ofEnc K (fun q hq => h q (by simp [hq]))
theorem made_u8 (n : Nat) : (madeCells (Value.int .u8 0).cells (n * 1)).toList = u8s (List.replicate n 0) := by
  apply List.ext_getElem
  · simp [size_madeCells]
  · intro i h1 h2
    simp [madeCells, u8s, Value.cells, Nat.mod_one]
end Go.Proofs.Ytbbfjnfmfigcfaa
