/-
  Names: plain laws: In, Move, Common, Join, by the names.
-/
import Derived.Test.YtkjbbidnpnecjaaDoorNm8
namespace Go.Proofs.YtkjbbidnpnecjaaDoor
open Go.RowKit
set_option linter.unusedVariables false
set_option linter.unusedSimpArgs false

/-- Does p lie in q? -/
def inB (p q : List UInt8) : Bool := (restF p q).2
theorem inB_iff (p q : List UInt8) : inB p q = true ↔ isP p = true ∧ isP q = true ∧ partsL q <+: partsL p := by
  rw [inB, rest_eq, restR]
  by_cases h : (isP p && isP q && (partsL q).isPrefixOf (partsL p)) = true
  · rw [if_pos h]
    simp only [Bool.and_eq_true_iff, List.isPrefixOf_iff_prefix] at h
    exact ⟨fun _ => ⟨h.1.1, h.1.2, h.2⟩, fun _ => rfl⟩
  · rw [if_neg h]
    simp only [Bool.and_eq_true_iff, List.isPrefixOf_iff_prefix] at h
    exact ⟨fun e => (by cases e), fun e => absurd ⟨⟨e.1, e.2.1⟩, e.2.2⟩ h⟩
theorem isP_iff (p : List UInt8) : isP p = true ↔ (pathF p).1 = 0 := by simp [isP]
theorem isP_nil : isP [] = true := rfl
theorem isP_join {l : List (List UInt8)} (h : Fit l) : isP (joinL l) = true := (isP_iff _).2 h.path
theorem parts_inj {p q : List UInt8} (h : partsL p = partsL q) : p = q := by rw [← join_parts p, ← join_parts q, h]
theorem in_self {p : List UInt8} (h : isP p = true) : inB p p = true := (inB_iff _ _).2 ⟨h, h, List.prefix_refl _⟩
theorem in_root {p : List UInt8} (h : isP p = true) : inB p [] = true := (inB_iff _ _).2 ⟨h, isP_nil, List.nil_prefix⟩
theorem in_trans {a b c : List UInt8} (h : inB a b = true) (k : inB b c = true) : inB a c = true := by
  rw [inB_iff] at *
  exact ⟨h.1, k.2.1, k.2.2.trans h.2.2⟩
theorem pre_len {l m : List (List UInt8)} (h : l <+: m) (k : m <+: l) : l = m := h.eq_of_length (Nat.le_antisymm h.length_le k.length_le)
theorem in_anti {a b : List UInt8} (h : inB a b = true) (k : inB b a = true) : a = b := by
  rw [inB_iff] at *
  exact parts_inj (pre_len k.2.2 h.2.2)
theorem in_line {a b c : List UInt8} (h : inB a b = true) (k : inB a c = true) : inB b c = true ∨ inB c b = true := by
  rw [inB_iff] at *
  rw [inB_iff]
  rcases List.prefix_or_prefix_of_prefix h.2.2 k.2.2 with e | e
  · exact .inr ⟨k.2.1, h.2.1, e⟩
  · exact .inl ⟨h.2.1, k.2.1, e⟩
theorem Good.app {l m : List (List UInt8)} (h : Good (l ++ m)) : Good l ∧ Good m := ⟨fun x hx => h x (by simp [hx]), fun x hx => h x (by simp [hx])⟩
theorem join_app_len (l m : List (List UInt8)) : (joinL l).length ≤ (joinL (l ++ m)).length ∧ (joinL m).length ≤ (joinL (l ++ m)).length := by
  by_cases hl : l = []
  · subst hl; exact ⟨by simp [joinL, Lib.join], Nat.le_refl _⟩
  · by_cases hm : m = []
    · subst hm; rw [List.append_nil]; exact ⟨Nat.le_refl _, by simp [joinL, Lib.join]⟩
    · rw [join_app hl hm]; simp; omega
theorem Fit.app {l m : List (List UInt8)} (h : Fit (l ++ m)) : Fit l ∧ Fit m := by
  obtain ⟨h1, h2, h3⟩ := h
  have := join_app_len l m
  rw [List.length_append] at h2
  exact ⟨⟨h1.app.1, by omega, by omega⟩, ⟨h1.app.2, by omega, by omega⟩⟩
theorem Fit.parts {l : List (List UInt8)} (h : Fit l) : partsL (joinL l) = l := parts_joinL h.1
/-- Rest, of names. -/
theorem rest_names {l r : List (List UInt8)} (h : Fit (l ++ r)) : restF (joinL (l ++ r)) (joinL l) = (joinL r, true) := by
  rw [rest_eq, restR, isP_join h, isP_join h.app.1, h.parts, h.app.1.parts, if_pos (by simp [List.isPrefixOf_iff_prefix]), List.drop_left]
theorem in_names {l r : List (List UInt8)} (h : Fit (l ++ r)) : inB (joinL (l ++ r)) (joinL l) = true := by rw [inB, rest_names h]
theorem rest_open {p q : List UInt8} (h : (restF p q).2 = true) : ∃ r, Fit (partsL q ++ r) ∧ p = joinL (partsL q ++ r) ∧ (restF p q).1 = joinL r := by
  have hi := (inB_iff p q).1 h
  obtain ⟨h1, h2, ⟨r, hr⟩⟩ := hi
  have hf := fit_parts ((isP_iff _).1 h1)
  rw [← hr] at hf
  refine ⟨r, hf, by rw [hr, join_parts], ?_⟩
  have e := rest_names hf
  rw [hr, join_parts, join_parts] at e
  rw [e]
/-- Join, of names. -/
theorem join_names {l r : List (List UInt8)} (h : Fit (l ++ r)) : joinF (joinL l) (joinL r) = (joinL (l ++ r), 0) := by
  rw [joinF, if_neg, h.app.1.parts, h.app.2.parts, make_fit h]
  rw [Classical.not_not, isF2, isP_join h.app.1, isP_join h.app.2]; rfl
theorem join_open {p q : List UInt8} (h : (joinF p q).2 = 0) : isP p = true ∧ isP q = true ∧ Fit (partsL p ++ partsL q) ∧ (joinF p q).1 = joinL (partsL p ++ partsL q) := by
  rw [joinF] at h ⊢
  by_cases hz : isF [p, q] = 0
  · rw [if_neg (by simpa using hz)] at h ⊢
    have hh := (isF2 p q).1 hz
    rw [Bool.and_eq_true_iff] at hh
    have hf := make_ok.1 h
    exact ⟨hh.1, hh.2, hf, by rw [make_fit hf]⟩
  · rw [if_pos hz] at h
    exact absurd h hz
theorem move_open {a b c : List UInt8} (h : (moveF a b c).2 = 0) : ∃ r, isP b = true ∧ isP c = true ∧ Fit (partsL b ++ r) ∧ a = joinL (partsL b ++ r) ∧ Fit (partsL c ++ r) ∧ (moveF a b c).1 = joinL (partsL c ++ r) := by
  rw [moveF] at h ⊢
  by_cases hz : isF [a, b, c] = 0
  · rw [if_neg (by simpa using hz)] at h ⊢
    have hh := (isF3 a b c).1 hz
    simp only [Bool.and_eq_true_iff] at hh
    by_cases hr : (restF a b).2 = false
    · rw [if_pos hr] at h; cases h
    · rw [if_neg hr] at h ⊢
      obtain ⟨r, h1, h2, h3⟩ := rest_open (by simpa using hr)
      obtain ⟨-, -, h4, h5⟩ := join_open h
      rw [h3, h1.app.2.parts] at h4 h5
      rw [h3]
      exact ⟨r, hh.1.2, hh.2, h1, h2, h4, h5⟩
  · rw [if_pos hz] at h
    exact absurd h hz
theorem move_back {a b c : List UInt8} (h : (moveF a b c).2 = 0) : moveF (moveF a b c).1 c b = (a, 0) ∧ inB a b = true ∧ inB (moveF a b c).1 c = true := by
  obtain ⟨r, hb, hc, h1, h2, h3, h4⟩ := move_open h
  rw [h4]
  have eb : b = joinL (partsL b) := (join_parts b).symm
  have ec : c = joinL (partsL c) := (join_parts c).symm
  have i1 : inB a b = true := by rw [h2]; have := in_names h1; rwa [← eb] at this
  have i2 : inB (joinL (partsL c ++ r)) c = true := by have := in_names h3; rwa [← ec] at this
  refine ⟨?_, i1, i2⟩
  have r2 : restF (joinL (partsL c ++ r)) c = (joinL r, true) := by have := rest_names h3; rwa [← ec] at this
  rw [moveF, if_neg, r2, if_neg (by simp)]
  · have := join_names h1
    rw [← eb, ← h2] at this
    exact this
  · rw [Classical.not_not, isF3, isP_join h3, hb, hc]; rfl
/-- The longest beginning that two rows share. -/
def lcp : List (List UInt8) → List (List UInt8) → List (List UInt8)
  | x :: l, y :: m => if x = y then x :: lcp l m else []
  | _, _ => []
theorem lcp_pre : ∀ l m, lcp l m <+: l ∧ lcp l m <+: m := by
  intro l
  induction l with
  | nil => intro m; cases m <;> exact ⟨List.nil_prefix, List.nil_prefix⟩
  | cons x l ih =>
    intro m
    cases m with
    | nil => exact ⟨List.nil_prefix, List.nil_prefix⟩
    | cons y m =>
      rw [lcp]
      split
      · rename_i h; subst h
        obtain ⟨⟨s, hs⟩, ⟨t, ht⟩⟩ := ih m
        exact ⟨⟨s, by rw [List.cons_append, hs]⟩, ⟨t, by rw [List.cons_append, ht]⟩⟩
      · exact ⟨List.nil_prefix, List.nil_prefix⟩
theorem lcp_top : ∀ k l m : List (List UInt8), k <+: l → k <+: m → k <+: lcp l m := by
  intro k
  induction k with
  | nil => intro l m _ _; exact List.nil_prefix
  | cons z k ih =>
    intro l m hl hm
    obtain ⟨s, rfl⟩ := hl
    obtain ⟨t, rfl⟩ := hm
    rw [List.cons_append, List.cons_append, lcp, if_pos rfl]
    obtain ⟨u, hu⟩ := ih (k ++ s) (k ++ t) (List.prefix_append _ _) (List.prefix_append _ _)
    exact ⟨u, by rw [List.cons_append, hu]⟩
theorem lcp_take : ∀ (k : Nat) (l m : List (List UInt8)), l.take k = m.take k → k ≤ l.length → k ≤ m.length → (∀ x y, l[k]? = some x → m[k]? = some y → x ≠ y) → lcp l m = l.take k := by
  intro k
  induction k with
  | zero =>
    intro l m _ _ _ h
    cases l with
    | nil => cases m <;> rfl
    | cons x l =>
      cases m with
      | nil => rfl
      | cons y m => rw [lcp, if_neg (h x y rfl rfl)]; rfl
  | succ k ih =>
    intro l m ht hl hm h
    cases l with
    | nil => simp at hl
    | cons x l =>
      cases m with
      | nil => simp at hm
      | cons y m =>
        rw [List.take_succ_cons, List.take_succ_cons, List.cons.injEq] at ht
        rw [lcp, if_pos ht.1, List.take_succ_cons, ih l m ht.2 (by simpa using hl) (by simpa using hm) (fun a b ha hb => h a b (by simpa using ha) (by simpa using hb))]
def commonF (a b : List UInt8) : List UInt8 := if isP a && isP b then joinL (lcp (partsL a) (partsL b)) else []
theorem Fit.pre {l m : List (List UInt8)} (h : Fit m) (k : l <+: m) : Fit l := by
  obtain ⟨r, rfl⟩ := k; exact h.app.1
theorem common_in {a b : List UInt8} (ha : isP a = true) (hb : isP b = true) : inB a (commonF a b) = true ∧ inB b (commonF a b) = true ∧ ∀ c, inB a c = true → inB b c = true → inB (commonF a b) c = true := by
  have h : commonF a b = joinL (lcp (partsL a) (partsL b)) := by rw [commonF, ha, hb]; rfl
  obtain ⟨p1, p2⟩ := lcp_pre (partsL a) (partsL b)
  have hf := (fit_parts ((isP_iff _).1 ha)).pre p1
  rw [h]
  refine ⟨(inB_iff _ _).2 ⟨ha, isP_join hf, by rw [hf.parts]; exact p1⟩, (inB_iff _ _).2 ⟨hb, isP_join hf, by rw [hf.parts]; exact p2⟩, fun c h1 h2 => ?_⟩
  rw [inB_iff] at h1 h2
  exact (inB_iff _ _).2 ⟨isP_join hf, h1.2.1, by rw [hf.parts]; exact lcp_top _ _ _ h1.2.2 h2.2.2⟩
end Go.Proofs.YtkjbbidnpnecjaaDoor
