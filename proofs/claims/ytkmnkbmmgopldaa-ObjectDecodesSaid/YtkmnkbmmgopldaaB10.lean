/-
  An object's bytes tell the object: plain.
-/
import Derived.Test.YtkmnkbmmgopldaaB9
import Derived.Test.YtkmnkbmmgopldaaPl
namespace Go.Proofs.Ytkmnkbmmgopldaa
set_option linter.unusedVariables false
set_option linter.unusedSimpArgs false

theorem ofNat_inj {a b : Nat} (ha : a < 256) (hb : b < 256) (h : UInt8.ofNat a = UInt8.ofNat b) : a = b := by
  have := congrArg UInt8.toNat h
  simpa [UInt8.toNat_ofNat', Nat.mod_eq_of_lt ha, Nat.mod_eq_of_lt hb] using this
theorem leb_inj : ∀ (n m : Nat) (r r' : List UInt8), leb n ++ r = leb m ++ r' → n = m ∧ r = r' := by
  intro n
  induction n using Nat.strongRecOn with
  | _ n ih =>
    intro m r r' h
    by_cases hn : n < 128
    · rw [leb_small n hn] at h
      by_cases hm : m < 128
      · rw [leb_small m hm] at h
        simp only [List.singleton_append, List.cons.injEq] at h
        exact ⟨ofNat_inj (by omega) (by omega) h.1, h.2⟩
      · rw [leb_big m hm] at h
        simp only [List.singleton_append, List.cons_append, List.cons.injEq] at h
        have := ofNat_inj (by omega) (by omega) h.1
        omega
    · rw [leb_big n hn] at h
      by_cases hm : m < 128
      · rw [leb_small m hm] at h
        simp only [List.singleton_append, List.cons_append, List.cons.injEq] at h
        have := ofNat_inj (by omega) (by omega) h.1
        omega
      · rw [leb_big m hm] at h
        simp only [List.cons_append, List.cons.injEq] at h
        have h1 := ofNat_inj (by omega) (by omega) h.1
        obtain ⟨h2, h3⟩ := ih (n / 128) (by omega) (m / 128) r r' h.2
        exact ⟨by omega, h3⟩
theorem wide_inj {x y : Nat} (hx : x < 18446744073709551616) (hy : y < 18446744073709551616) (h : wide x = wide y) : x = y := by
  rw [← beF_wide x hx, ← beF_wide y hy, h]
theorem wides_inj : ∀ (xs ys : List Nat), (∀ x ∈ xs, x < 18446744073709551616) → (∀ y ∈ ys, y < 18446744073709551616) → xs.length = ys.length → xs.flatMap wide = ys.flatMap wide → xs = ys
  | [], [], _, _, _, _ => rfl
  | [], _ :: _, _, _, h, _ => by simp at h
  | _ :: _, [], _, _, h, _ => by simp at h
  | x :: xs, y :: ys, hx, hy, hl, h => by
    rw [List.flatMap_cons, List.flatMap_cons] at h
    obtain ⟨h1, h2⟩ := List.append_inj h (by rw [wide_len, wide_len])
    rw [wide_inj (hx x (by simp)) (hy y (by simp)) h1, wides_inj xs ys (fun z hz => hx z (by simp [hz])) (fun z hz => hy z (by simp [hz])) (by simpa using hl) h2]
theorem du_inj {a b : Int} (ha : -9223372036854775808 ≤ a ∧ a ≤ 9223372036854775807) (hb : -9223372036854775808 ≤ b ∧ b ≤ 9223372036854775807) (h : du a = du b) : a = b := by
  unfold du at h; omega
theorem commitB_inj {t t' : Nat} {ps ps' : List Nat} {a a' x x' : List UInt8} {d d' : Int} (ht : t < 18446744073709551616) (ht' : t' < 18446744073709551616) (hp : ∀ p ∈ ps, p < 18446744073709551616) (hp' : ∀ p ∈ ps', p < 18446744073709551616)
    (hd : -9223372036854775808 ≤ d ∧ d ≤ 9223372036854775807) (hd' : -9223372036854775808 ≤ d' ∧ d' ≤ 9223372036854775807) (h : commitB t ps a d x = commitB t' ps' a' d' x') : t = t' ∧ ps = ps' ∧ a = a' ∧ d = d' ∧ x = x' := by
  simp only [commitB, List.append_assoc, List.singleton_append, List.cons.injEq, true_and] at h
  obtain ⟨h1, h⟩ := List.append_inj h (by simp [wide_len])
  have h1 := (List.cons.inj h1).2
  obtain ⟨h2, h⟩ := leb_inj _ _ _ _ h
  obtain ⟨h3, h⟩ := List.append_inj h (by rw [wides_len, wides_len, h2])
  obtain ⟨h4, h⟩ := leb_inj _ _ _ _ h
  obtain ⟨h5, h⟩ := List.append_inj h h4
  obtain ⟨h6, h⟩ := List.append_inj h (by rw [wide_len, wide_len])
  obtain ⟨h7, h8⟩ := leb_inj _ _ _ _ h
  exact ⟨wide_inj ht ht' h1, wides_inj _ _ hp hp' h2 h3, h5, du_inj hd hd' (wide_inj (du_lt d) (du_lt d') h6), h8⟩
theorem commitB_len {t : Nat} {ps : List Nat} {a x : List UInt8} {d : Int} (h : commitF t ps a x = 0) : (commitB t ps a d x).length ≤ 2000 := by
  obtain ⟨-, h2, -, h4, -, h6, -⟩ := commitF_zero h
  have l1 := leb_len10 ps.length (by omega)
  have l2 := leb_len10 a.length (by omega)
  have l3 := leb_len10 x.length (by omega)
  simp only [commitB, List.length_append, wide_len, wides_len, List.length_singleton]
  omega
/-- Two commits are one, by their bytes. -/
theorem same_commits {t t' : Nat} {ps ps' : List Nat} {a a' x x' : ByteArray} {d d' : Int} (ht : t < 18446744073709551616) (ht' : t' < 18446744073709551616) (hp : ∀ p ∈ ps, p < 18446744073709551616) (hp' : ∀ p ∈ ps', p < 18446744073709551616)
    (hd : -9223372036854775808 ≤ d ∧ d ≤ 9223372036854775807) (hd' : -9223372036854775808 ≤ d' ∧ d' ≤ 9223372036854775807) :
    ((((commitF t ps a.data.toList x.data.toList : Nat) : Int) == 0) && (((commitF t' ps' a'.data.toList x'.data.toList : Nat) : Int) == 0) && decide ((if commitF t ps a.data.toList x.data.toList = 0 then commitB t ps a.data.toList d x.data.toList else []) = (if commitF t' ps' a'.data.toList x'.data.toList = 0 then commitB t' ps' a'.data.toList d' x'.data.toList else []))) =
    (decide (commitF t ps a.data.toList x.data.toList = 0) && decide (t = t' ∧ ps = ps' ∧ a = a' ∧ d = d' ∧ x = x')) := by
  have toS : ∀ u v : ByteArray, u.data.toList = v.data.toList → u = v := fun u v e => by rw [← mkS_self u, e, mkS_self]
  by_cases h1 : commitF t ps a.data.toList x.data.toList = 0
  · by_cases h2 : commitF t' ps' a'.data.toList x'.data.toList = 0
    · rw [if_pos h1, if_pos h2]
      simp only [h1, h2]
      by_cases h3 : t = t' ∧ ps = ps' ∧ a = a' ∧ d = d' ∧ x = x'
      · obtain ⟨rfl, rfl, rfl, rfl, rfl⟩ := h3
        simp
      · have : ¬ commitB t ps a.data.toList d x.data.toList = commitB t' ps' a'.data.toList d' x'.data.toList := fun e => by
          obtain ⟨q1, q2, q3, q4, q5⟩ := commitB_inj ht ht' hp hp' hd hd' e
          exact h3 ⟨q1, q2, toS _ _ q3, q4, toS _ _ q5⟩
        simp [h3, this]
    · have h3 : ¬ (t = t' ∧ ps = ps' ∧ a = a' ∧ d = d' ∧ x = x') := by
        rintro ⟨rfl, rfl, rfl, rfl, rfl⟩
        exact h2 h1
      have : ((((commitF t' ps' a'.data.toList x'.data.toList : Nat) : Int) == 0)) = false := by simp; exact h2
      rw [this, decide_eq_false h3]
      simp
  · have : ((((commitF t ps a.data.toList x.data.toList : Nat) : Int) == 0)) = false := by simp; exact h1
    rw [this, decide_eq_false h1]
    simp
end Go.Proofs.Ytkmnkbmmgopldaa
