/-
  Names: plain laws: what a path is by its names; Make, Join, Rest by the names.
-/
import Derived.Test.YtcomcoolmabmgaaDoorNm6
namespace Go.Proofs.YtcomcoolmabmgaaDoor
open Go.RowKit
set_option linter.unusedVariables false
set_option linter.unusedSimpArgs false

/-- A stroke lies in no piece but its own. -/
theorem piece47 (l : List UInt8) (h : l ≠ []) (hb : brk l = false) (hm : (47 : UInt8) ∈ l.take (decL l).2) : (decL l).1 = 47 := by
  have hf := decL_facts l h
  rw [take_get l _ hf.2.1] at hm
  have hb0 : (l.getD 0 0).toNat < 256 := (l.getD 0 0).toNat_lt
  have h47 : ∀ k, (l.getD k 0) = 47 → (l.getD k 0).toNat = 47 := fun k h => by rw [h]; rfl
  rcases decL_ways l with ⟨h1, e⟩ | ⟨h1, h2, h3, h4, e⟩ | ⟨h1, h2, h3, h4, h5, h6, e⟩ | ⟨h1, h2, h3, h4, h5, h6, h7, e⟩ | ⟨h1, e⟩
  · rw [e] at hm ⊢
    have hm : (47 : UInt8) = l.getD 0 0 := by simpa [List.range_succ] using hm
    exact h47 0 hm.symm
  · exfalso
    rw [e] at hm
    have hm : (47 : UInt8) = l.getD 0 0 ∨ (47 : UInt8) = l.getD 1 0 := by simpa [List.range_succ] using hm
    rcases hm with hm | hm
    · have := h47 0 hm.symm; omega
    · have := h47 1 hm.symm; omega
  · exfalso
    rw [e] at hm
    have hm : (47 : UInt8) = l.getD 0 0 ∨ (47 : UInt8) = l.getD 1 0 ∨ (47 : UInt8) = l.getD 2 0 := by simpa [List.range_succ] using hm
    rcases hm with hm | hm | hm
    · have := h47 0 hm.symm; omega
    · have := h47 1 hm.symm; omega
    · have := h47 2 hm.symm; omega
  · exfalso
    rw [e] at hm
    have hm : (47 : UInt8) = l.getD 0 0 ∨ (47 : UInt8) = l.getD 1 0 ∨ (47 : UInt8) = l.getD 2 0 ∨ (47 : UInt8) = l.getD 3 0 := by simpa [List.range_succ] using hm
    rcases hm with hm | hm | hm | hm
    · have := h47 0 hm.symm; omega
    · have := h47 1 hm.symm; omega
    · have := h47 2 hm.symm; omega
    · have := h47 3 hm.symm; omega
  · exfalso
    have hp : ([239, 191, 189] : List UInt8).isPrefixOf l = true := by
      unfold brk at hb
      rw [e] at hb
      simpa using hb
    rw [pre_fffd hp] at e
    cases e
theorem wrong_none : ∀ (n : Nat) (l : List UInt8) (k : Nat), l.length ≤ n → wrongAt k (pcs l) = none → (47 : UInt8) ∉ l := by
  intro n
  induction n with
  | zero => intro l k hl _; have : l = [] := List.eq_nil_of_length_eq_zero (by omega); subst this; simp
  | succ n ih =>
    intro l k hl h
    by_cases h0 : l = []
    · subst h0; simp
    · rw [wrong_cons k l h0] at h
      obtain ⟨q1, q2, q3⟩ := decL_facts _ h0
      split at h
      · cases h
      · rename_i hb
        have hb : badN ((decL l).1, brk l, l.take (decL l).2) = false := by simpa using hb
        rw [badN, Bool.or_eq_false_iff] at hb
        have hc := hb.1
        rw [ctlN, Bool.or_eq_false_iff] at hc
        have h2 := ih (l.drop (decL l).2) _ (by rw [List.length_drop]; omega) h
        intro hm
        rw [← List.take_append_drop (decL l).2 l] at hm
        rcases List.mem_append.1 hm with hm | hm
        · have := piece47 l h0 hb.2 hm
          have h3 := hc.2
          simp at h3
          exact h3 this
        · exact h2 hm
theorem spot_flat {x : List UInt8} (h : (spotF x).1 = 0) : (47 : UInt8) ∉ x := by
  unfold spotF at h
  split at h
  · cases h
  · split at h
    · cases h
    · split at h
      · rename_i hw; exact wrong_none _ x 0 (Nat.le_refl _) hw
      · cases h
theorem spot_ne {x : List UInt8} (h : (spotF x).1 = 0) : x ≠ [] := by
  have := (spot_len h).1
  rintro rfl
  simp at this
/-- Names that may be. -/
def Good (l : List (List UInt8)) : Prop := ∀ x ∈ l, (spotF x).1 = 0
theorem walkP_zero : ∀ (l : List (List UInt8)) (i : Nat) (a : Int), i ≤ 16 → ((walkP i a l).1 = 0 ↔ i + l.length ≤ 16 ∧ Good l) := by
  intro l
  induction l with
  | nil => intro i a hi; simp [walkP, Good, hi]
  | cons x r ih =>
    intro i a hi
    rw [walkP]
    by_cases h16 : i = 16
    · rw [if_pos h16]
      constructor
      · intro h; cases h
      · rintro ⟨h, -⟩; rw [List.length_cons] at h; omega
    · rw [if_neg h16]
      by_cases h0 : (spotF x).1 = 0
      · rw [if_neg (by simpa using h0), ih (i + 1) _ (by omega), List.length_cons]
        constructor
        · rintro ⟨h1, h2⟩
          exact ⟨by omega, fun y hy => by rcases List.mem_cons.1 hy with rfl | hy; exact h0; exact h2 y hy⟩
        · rintro ⟨h1, h2⟩
          exact ⟨by omega, fun y hy => h2 y (by simp [hy])⟩
      · rw [if_pos h0]
        constructor
        · intro h; exact absurd h h0
        · rintro ⟨-, h2⟩; exact absurd (h2 x (by simp)) h0
theorem path_ok (p : List UInt8) : (pathF p).1 = 0 ↔ p.length ≤ 200 ∧ (partsL p).length ≤ 16 ∧ Good (partsL p) := by
  unfold pathF
  split
  · constructor
    · intro h; cases h
    · rintro ⟨h, -⟩; omega
  · rw [walkP_zero _ _ _ (by omega)]
    constructor
    · rintro ⟨h1, h2⟩; exact ⟨by omega, by omega, h2⟩
    · rintro ⟨h1, h2, h3⟩; exact ⟨by omega, h3⟩
theorem join_ne {l : List (List UInt8)} (hl : l ≠ []) (h : Good l) : joinL l ≠ [] := by
  cases l with
  | nil => exact absurd rfl hl
  | cons x r =>
    rw [join_cons2]
    intro e
    exact spot_ne (h x (by simp)) (List.append_eq_nil_iff.1 e).1
theorem parts_joinL {l : List (List UInt8)} (h : Good l) : partsL (joinL l) = l := by
  by_cases hl : l = []
  · subst hl; rfl
  · rw [partsL, if_neg (join_ne hl h)]
    exact spl_join l hl fun x hx => spot_flat (h x hx)
theorem firstBad_iff {l : List (List UInt8)} : firstBad l = 0 ↔ Good l := by
  constructor
  · exact firstBad_zero
  · intro h
    induction l with
    | nil => rfl
    | cons x r ih =>
      rw [firstBad, if_neg (by simpa using h x (by simp))]
      exact ih fun y hy => h y (by simp [hy])
/-- Names whose path may be. -/
def Fit (l : List (List UInt8)) : Prop := Good l ∧ l.length ≤ 16 ∧ (joinL l).length ≤ 200
theorem make_ok {l : List (List UInt8)} : (makeF l).2 = 0 ↔ Fit l := by
  unfold makeF
  by_cases h : firstBad l = 0
  · rw [if_neg (by simpa using h)]
    split
    · rename_i h2
      constructor
      · intro h; cases h
      · rintro ⟨-, h3, h4⟩; omega
    · rename_i h2
      exact ⟨fun _ => ⟨firstBad_iff.1 h, by omega, by omega⟩, fun _ => rfl⟩
  · rw [if_pos h]
    constructor
    · intro h2; exact absurd h2 h
    · rintro ⟨h2, -⟩; exact absurd (firstBad_iff.2 h2) h
theorem make_fit {l : List (List UInt8)} (h : Fit l) : makeF l = (joinL l, 0) := by
  unfold makeF
  rw [if_neg (by simpa using firstBad_iff.2 h.1), if_neg (by have := h.2; omega)]
theorem Fit.path {l : List (List UInt8)} (h : Fit l) : (pathF (joinL l)).1 = 0 := by
  rw [path_ok, parts_joinL h.1]
  exact ⟨h.2.2, h.2.1, h.1⟩
theorem fit_parts {p : List UInt8} (h : (pathF p).1 = 0) : Fit (partsL p) := by
  rw [path_ok] at h
  exact ⟨h.2.2, h.2.1, by rw [join_parts]; exact h.1⟩
theorem Fit.of_path {p : List UInt8} (h : (pathF p).1 = 0) : ∃ l, Fit l ∧ p = joinL l ∧ partsL p = l := ⟨partsL p, fit_parts h, (join_parts p).symm, rfl⟩
theorem spl_app2 (r : List UInt8) : ∀ (q acc : List UInt8), spl acc (q ++ 47 :: r) = spl acc q ++ spl [] r := by
  intro q
  induction q with
  | nil => intro acc; simp [spl]
  | cons b q ih =>
    intro acc
    rw [List.cons_append, spl, spl]
    split
    · rw [ih]; rfl
    · rw [ih]
theorem join_app {l m : List (List UInt8)} (hl : l ≠ []) (hm : m ≠ []) : joinL (l ++ m) = joinL l ++ 47 :: joinL m := by
  induction l with
  | nil => exact absurd rfl hl
  | cons x r ih =>
    cases r with
    | nil =>
      cases m with
      | nil => exact absurd rfl hm
      | cons y m => rw [show joinL [x] = x from Lib.join_one x [47], List.singleton_append, join_cons2, joinTail_cons, ← join_cons2]
    | cons y r =>
      have := ih (by simp)
      rw [List.cons_append, List.cons_append, join_cons2, joinTail_cons, ← join_cons2, ← List.cons_append, this, join_cons2 x, joinTail_cons, ← join_cons2]
      simp
/-- Rest by the names: does the one begin with the other's? -/
def restR (p q : List UInt8) : List UInt8 × Bool :=
  if isP p && isP q && (partsL q).isPrefixOf (partsL p) then (joinL ((partsL p).drop (partsL q).length), true) else ([], false)
theorem isF2 (p q : List UInt8) : isF [p, q] = 0 ↔ (isP p && isP q) = true := by
  rw [isF_zero]; simp [isP]
theorem isF3 (p q r : List UInt8) : isF [p, q, r] = 0 ↔ (isP p && isP q && isP r) = true := by
  rw [isF_zero]; simp [isP, and_assoc]
theorem rest_eq (p q : List UInt8) : restF p q = restR p q := by
  unfold restF restR
  by_cases hz : isF [p, q] = 0
  · have hpq := (isF2 p q).1 hz
    rw [if_neg (by simpa using hz), hpq, Bool.true_and]
    obtain ⟨hp, hq⟩ : (pathF p).1 = 0 ∧ (pathF q).1 = 0 := by simpa [isP] using hpq
    obtain ⟨L, hL, rfl, eL⟩ := Fit.of_path hp
    obtain ⟨M, hM, rfl, eM⟩ := Fit.of_path hq
    rw [eL, eM]
    by_cases hpre : M <+: L
    · rw [if_pos (List.isPrefixOf_iff_prefix.2 hpre)]
      obtain ⟨R, rfl⟩ := hpre
      rw [List.drop_left]
      by_cases hM0 : M = []
      · subst hM0
        have h1 : Lib.hasPrefix (joinL ([] ++ R)) (joinL []) = true := by rw [show joinL [] = [] from rfl]; simp [Lib.hasPrefix]
        rw [if_neg (by rw [h1]; simp), if_pos (.inl rfl)]
        rfl
      · by_cases hR0 : R = []
        · subst hR0
          rw [List.append_nil]
          have h1 : Lib.hasPrefix (joinL M) (joinL M) = true := by simp [Lib.hasPrefix]
          rw [if_neg (by rw [h1]; simp), if_pos (.inr (by rw [List.drop_length])), List.drop_length]
          rfl
        · rw [join_app hM0 hR0]
          have h1 : Lib.hasPrefix (joinL M ++ 47 :: joinL R) (joinL M) = true := by simp [Lib.hasPrefix]
          rw [if_neg (by rw [h1]; simp), List.drop_left, if_neg (by rintro (h | h); exact join_ne hM0 hM.1 h; cases h), List.getD_cons_zero, if_pos rfl, ← List.drop_drop, List.drop_left]
          rfl
    · have hR : (if M.isPrefixOf L = true then (joinL (L.drop M.length), true) else ([], false)) = (([], false) : List UInt8 × Bool) := if_neg (by rw [List.isPrefixOf_iff_prefix]; exact hpre)
      rw [hR]
      by_cases hh : Lib.hasPrefix (joinL L) (joinL M) = true
      · have h1 : joinL M <+: joinL L := by simpa [Lib.hasPrefix] using hh
        obtain ⟨r, hr⟩ := h1
        rw [if_neg (by rw [hh]; simp), ← hr, List.drop_left]
        rw [if_neg, if_neg]
        · cases r with
          | nil =>
            exfalso
            rw [List.append_nil] at hr
            rw [← eM, ← eL, hr] at hpre
            exact hpre (List.prefix_refl _)
          | cons u r =>
            intro hu
            rw [List.getD_cons_zero] at hu
            subst hu
            apply hpre
            have hM0 : M ≠ [] := by rintro rfl; exact hpre (List.nil_prefix)
            have e1 : partsL (joinL M ++ 47 :: r) = spl [] (joinL M) ++ spl [] r := by rw [partsL, if_neg (by simp), spl_app2]
            rw [hr, eL] at e1
            rw [e1, spl_join M hM0 fun x hx => spot_flat (hM.1 x hx)]
            exact List.prefix_append _ _
        · rintro (h | h)
          · have : M = [] := Classical.byContradiction fun h0 => join_ne h0 hM.1 h
            subst this
            exact hpre List.nil_prefix
          · subst h
            rw [List.append_nil] at hr
            rw [← eM, ← eL, hr] at hpre
            exact hpre (List.prefix_refl _)
      · rw [if_pos (by simpa using hh)]
  · rw [if_pos hz, if_neg]
    intro h
    rw [Bool.and_eq_true_iff] at h
    exact hz ((isF2 p q).2 h.1)
end Go.Proofs.YtcomcoolmabmgaaDoor
