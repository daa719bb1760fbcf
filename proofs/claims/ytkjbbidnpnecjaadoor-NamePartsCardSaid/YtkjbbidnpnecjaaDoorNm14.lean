/-
  Names: plain laws of the order; Make and Split, Join and Dir, by the names.
-/
import Derived.Test.YtkjbbidnpnecjaaDoorNm13c
namespace Go.Proofs.YtkjbbidnpnecjaaDoor
open Go.RowKit
set_option linter.unusedVariables false
set_option linter.unusedSimpArgs false

/-- An order told by numbers. -/
structure Ord3 {α : Type} (c : α → α → Int) : Prop where
  range : ∀ x y, c x y = -1 ∨ c x y = 0 ∨ c x y = 1
  neg : ∀ x y, c y x = -c x y
  zero : ∀ x y, c x y = 0 ↔ x = y
  trans : ∀ x y z, c x y ≤ 0 → c y z ≤ 0 → c x z ≤ 0
def lexC {α : Type} (c : α → α → Int) : List α → List α → Int
  | [], [] => 0
  | [], _ :: _ => -1
  | _ :: _, [] => 1
  | x :: l, y :: m => if c x y = 0 then lexC c l m else c x y
theorem lex_ord {α : Type} {c : α → α → Int} (h : Ord3 c) : Ord3 (lexC c) := by
  refine ⟨?_, ?_, ?_, ?_⟩
  · intro l
    induction l with
    | nil => intro m; cases m <;> simp [lexC]
    | cons x l ih =>
      intro m
      cases m with
      | nil => simp [lexC]
      | cons y m =>
        rw [lexC]
        split
        · exact ih m
        · exact h.range x y
  · intro l
    induction l with
    | nil => intro m; cases m <;> simp [lexC]
    | cons x l ih =>
      intro m
      cases m with
      | nil => simp [lexC]
      | cons y m =>
        rw [lexC, lexC, h.neg x y]
        by_cases h0 : c x y = 0
        · rw [if_pos (by omega), if_pos h0, ih]
        · rw [if_neg (by omega), if_neg h0]
  · intro l
    induction l with
    | nil => intro m; cases m <;> simp [lexC]
    | cons x l ih =>
      intro m
      cases m with
      | nil => simp [lexC]
      | cons y m =>
        rw [lexC]
        by_cases h0 : c x y = 0
        · rw [if_pos h0, ih m, (h.zero x y).1 h0]; simp
        · rw [if_neg h0]
          have : x ≠ y := fun e => h0 ((h.zero x y).2 e)
          simp [h0, this]
  · intro l
    induction l with
    | nil => intro m n _ _; cases n <;> simp [lexC]
    | cons x l ih =>
      intro m n h1 h2
      cases m with
      | nil => simp [lexC] at h1
      | cons y m =>
        cases n with
        | nil => simp [lexC] at h2
        | cons z n =>
          rw [lexC] at h1 h2 ⊢
          by_cases h3 : c x y = 0
          · rw [if_pos h3] at h1
            obtain rfl := (h.zero x y).1 h3
            by_cases h4 : c x z = 0
            · rw [if_pos h4] at h2 ⊢
              exact ih m n h1 h2
            · rw [if_neg h4] at h2 ⊢
              exact h2
          · rw [if_neg h3] at h1
            by_cases h4 : c y z = 0
            · obtain rfl := (h.zero y z).1 h4
              rw [if_neg h3]; exact h1
            · rw [if_neg h4] at h2
              have h5 := h.trans x y z h1 h2
              by_cases h6 : c x z = 0
              · obtain rfl := (h.zero x z).1 h6
                have := h.neg x y
                omega
              · rw [if_neg h6]; exact h5
def cmpU (x y : UInt8) : Int := if x < y then -1 else if y < x then 1 else 0
theorem cmpU_ord : Ord3 cmpU := by
  refine ⟨?_, ?_, ?_, ?_⟩
  · intro x y; unfold cmpU; repeat' split
    all_goals simp
  · intro x y; unfold cmpU
    by_cases h1 : x < y
    · have : ¬ y < x := by rw [UInt8.lt_iff_toNat_lt] at *; omega
      simp [h1, this]
    · by_cases h2 : y < x
      · simp [h1, h2]
      · simp [h1, h2]
  · intro x y; unfold cmpU
    by_cases h1 : x < y
    · have : x ≠ y := by rintro rfl; rw [UInt8.lt_iff_toNat_lt] at h1; omega
      simp [h1, this]
    · by_cases h2 : y < x
      · have : x ≠ y := by rintro rfl; rw [UInt8.lt_iff_toNat_lt] at h2; omega
        simp [h1, h2, this]
      · have : x = y := by
          apply UInt8.toNat_inj.1
          rw [UInt8.lt_iff_toNat_lt] at h1 h2
          omega
        subst this
        simp [h1]
  · intro x y z h1 h2
    unfold cmpU at *
    by_cases h3 : x < z
    · simp [h3]
    · by_cases h4 : z < x
      · exfalso
        by_cases h5 : x < y
        · by_cases h6 : y < z
          · rw [UInt8.lt_iff_toNat_lt] at *; omega
          · by_cases h7 : z < y
            · rw [if_neg h6, if_pos h7] at h2; omega
            · rw [UInt8.lt_iff_toNat_lt] at *; omega
        · by_cases h8 : y < x
          · rw [if_neg h5, if_pos h8] at h1; omega
          · by_cases h7 : z < y
            · have h6 : ¬ y < z := by rw [UInt8.lt_iff_toNat_lt] at *; omega
              rw [if_neg h6, if_pos h7] at h2; omega
            · rw [UInt8.lt_iff_toNat_lt] at *; omega
      · simp [h3, h4]
theorem cmpB_lex : Lib.compareBytes = lexC cmpU := by
  funext a b
  induction a generalizing b with
  | nil => cases b <;> simp [Lib.compareBytes, lexC]
  | cons x a ih =>
    cases b with
    | nil => simp [Lib.compareBytes, lexC]
    | cons y b =>
      rw [Lib.compareBytes, lexC, ih b, cmpU]
      by_cases h1 : x < y
      · simp [h1]
      · by_cases h2 : y < x
        · simp [h1, h2]
        · simp [h1, h2]
theorem cmpB_ord : Ord3 Lib.compareBytes := by rw [cmpB_lex]; exact lex_ord cmpU_ord
theorem ordL_lex : ordL = lexC Lib.compareBytes := by
  funext l m
  induction l generalizing m with
  | nil => cases m <;> simp [ordL, lexC]
  | cons x l ih =>
    cases m with
    | nil => simp [ordL, lexC]
    | cons y m => rw [ordL, lexC, ih m]
theorem ordL_ord : Ord3 ordL := by rw [ordL_lex]; exact lex_ord cmpB_ord
theorem compF_ord : Ord3 compF := by
  have ho := ordL_ord
  have hb := cmpB_ord
  refine ⟨?_, ?_, ?_, ?_⟩
  · intro p q
    unfold compF
    cases isP p <;> cases isP q <;> simp [ho.range, hb.range]
  · intro p q
    unfold compF
    cases isP p <;> cases isP q <;> simp
    · exact hb.neg p q
    · exact ho.neg _ _
  · intro p q
    unfold compF
    cases hp : isP p <;> cases hq : isP q <;> simp
    · exact hb.zero p q
    · rintro rfl; rw [hp] at hq; cases hq
    · rintro rfl; rw [hp] at hq; cases hq
    · rw [ho.zero]
      exact ⟨parts_inj, fun h => by rw [h]⟩
  · intro p q r
    unfold compF
    cases isP p <;> cases isP q <;> cases isP r <;> simp
    · exact hb.trans p q r
    · exact ho.trans _ _ _
theorem ord_pre (m r : List (List UInt8)) : 0 ≤ ordL (m ++ r) m := by
  induction m with
  | nil => cases r <;> simp [ordL]
  | cons x m ih => rw [List.cons_append, ordL, if_pos ((cmp_zero x x).2 rfl)]; exact ih
theorem comp_in {a b : List UInt8} (h : inB a b = true) : 0 ≤ compF a b := by
  obtain ⟨h1, h2, ⟨r, hr⟩⟩ := (inB_iff _ _).1 h
  rw [compF, h1, h2, if_pos rfl, ← hr]
  exact ord_pre _ _
theorem lcp_mid : ∀ l m n : List (List UInt8), ordL l m < 0 → ordL m n < 0 → lcp l n <+: m := by
  intro l
  induction l with
  | nil => intro m n _ _; cases n <;> exact List.nil_prefix
  | cons x l ih =>
    intro m n h1 h2
    cases n with
    | nil => exact List.nil_prefix
    | cons z n =>
      rw [lcp]
      split
      · rename_i hx
        subst hx
        cases m with
        | nil => simp [ordL] at h1
        | cons y m =>
          rw [ordL] at h1 h2
          by_cases h0 : Lib.compareBytes x y = 0
          · have h3 : Lib.compareBytes y x = 0 := by rw [cmp_neg x y]; omega
            rw [if_pos h0] at h1
            rw [if_pos h3] at h2
            obtain rfl := (cmp_zero x y).1 h0
            obtain ⟨t, ht⟩ := ih m n h1 h2
            exact ⟨t, by rw [List.cons_append, ht]⟩
          · have h3 : Lib.compareBytes y x = -Lib.compareBytes x y := cmp_neg x y
            rw [if_neg h0] at h1
            rw [if_neg (by omega)] at h2
            omega
      · exact List.nil_prefix
theorem comp_mid {a b c : List UInt8} (h1 : compF a b < 0) (h2 : compF b c < 0) (hc : isP c = true) : inB b (commonF a c) = true ∧ (commonF a c).length ≤ 200 := by
  have hb : isP b = true := by
    cases hb : isP b with
    | true => rfl
    | false => rw [compF, hb, hc] at h2; simp at h2
  have ha : isP a = true := by
    cases ha : isP a with
    | true => rfl
    | false => rw [compF, ha, hb] at h1; simp at h1
  rw [compF, ha, hb] at h1
  rw [compF, hb, hc] at h2
  have hf := (fit_parts ((isP_iff _).1 ha)).pre (lcp_pre (partsL a) (partsL c)).1
  have e : commonF a c = joinL (lcp (partsL a) (partsL c)) := by rw [commonF, ha, hc]; rfl
  rw [e]
  refine ⟨(inB_iff _ _).2 ⟨hb, isP_join hf, ?_⟩, hf.2.2⟩
  rw [hf.parts]
  exact lcp_mid _ _ _ h1 h2
theorem parts_flat {a : List UInt8} (h : (47 : UInt8) ∉ a) : partsL a = if a = [] then [] else [a] := by
  rw [partsL]
  split
  · rfl
  · rw [spl_flat a h]; rfl
theorem comp_flat {a b : List UInt8} (ha : isP a = true) (hb : isP b = true) (h1 : (47 : UInt8) ∉ a) (h2 : (47 : UInt8) ∉ b) : compF a b = Lib.compareBytes a b := by
  have e : compF a b = ordL (partsL a) (partsL b) := by rw [compF, ha, hb]; rfl
  rw [e, parts_flat h1, parts_flat h2]
  cases a with
  | nil => cases b <;> simp [ordL, Lib.compareBytes]
  | cons x a =>
    cases b with
    | nil => simp [ordL, Lib.compareBytes]
    | cons y b =>
      rw [if_neg (by simp), if_neg (by simp), ordL]
      split
      · rename_i h; rw [h]; rfl
      · rfl
theorem idx_ge : ∀ (l : List UInt8) (c : UInt8), c ∈ l → 0 ≤ Lib.indexByte l c := by
  intro l
  induction l with
  | nil => intro c h; cases h
  | cons b l ih =>
    intro c hm
    rw [Lib.indexByte]
    by_cases hb : (b == c) = true
    · rw [if_pos hb]; omega
    · rw [if_neg hb]
      have hm2 : c ∈ l := by
        rcases List.mem_cons.1 hm with rfl | hm
        · simp at hb
        · exact hm
      have := ih c hm2
      split
      · rename_i h; simp at h; omega
      · omega
theorem idx_none (l : List UInt8) (c : UInt8) (h : decide (0 ≤ Lib.indexByte l c) = false) : c ∉ l := fun hm => by
  rw [decide_eq_false_iff_not] at h
  exact h (idx_ge l c hm)
end Go.Proofs.YtkjbbidnpnecjaaDoor
