/-
  What Decode reads is the object of these bytes: plain.
-/
import Derived.Test.YtkmnkbmmgopldaaD4
namespace Go.Proofs.Ytkmnkbmmgopldaa
set_option linter.unusedVariables false
set_option linter.unusedSimpArgs false

theorem rWord_split {r : Rd} (h : (rWord r).2.err = 0) : r.err = 0 ∧ r.rest = wide (rWord r).1 ++ (rWord r).2.rest := by
  by_cases he : r.err = 0
  · refine ⟨he, ?_⟩
    unfold rWord at h ⊢
    rw [if_neg (by rw [he]; simp)] at h ⊢
    split at h
    · simp at h
    · rename_i h8
      rw [if_neg h8]
      simp only
      rw [wide_beF _ (by rw [List.length_take]; omega), List.take_append_drop]
  · rw [(rWord_rest r).2 he] at h
    exact absurd h he
theorem rByte_split {r : Rd} (h : (rByte r).2.err = 0) : r.err = 0 ∧ r.rest = (rByte r).1 :: (rByte r).2.rest := by
  by_cases he : r.err = 0
  · refine ⟨he, ?_⟩
    obtain ⟨xs, e⟩ := r
    simp only at he
    subst he
    cases xs with
    | nil => simp [rByte] at h
    | cons b t => rfl
  · rw [(rByte_rest r).2 he] at h
    exact absurd h he
theorem rUint_split {r : Rd} (h : (rUint r).2.err = 0) : r.err = 0 ∧ r.rest = leb (rUint r).1 ++ (rUint r).2.rest := by
  by_cases he : r.err = 0
  · refine ⟨he, ?_⟩
    unfold rUint at h ⊢
    rw [if_neg (by rw [he]; simp)] at h ⊢
    split at h
    · rename_i h1; exact absurd h h1
    · rename_i h1
      rw [if_neg h1]
      simp only
      have h1' : (numF 0 0 r.rest).2.2 = 0 := by simpa using h1
      have := numF_leb0 r.rest (numF 0 0 r.rest).1 (numF 0 0 r.rest).2.1 (by rw [← h1'])
      rw [this, List.take_append_drop]
  · unfold rUint at h
    rw [if_pos he] at h
    exact absurd h he
theorem rText_split {most : Int} {r : Rd} (h : (rText most r).2.err = 0) : r.err = 0 ∧ r.rest = leb (rText most r).1.length ++ ((rText most r).1 ++ (rText most r).2.rest) := by
  by_cases he : r.err = 0
  · refine ⟨he, ?_⟩
    unfold rText at h ⊢
    rw [if_neg (by rw [he]; simp)] at h ⊢
    split at h
    · simp at h
    · rename_i h0
      split at h
      · rename_i h1; exact absurd h h1
      · rename_i h1
        split at h
        · simp at h
        · rename_i h2
          split at h
          · simp at h
          · rename_i h3
            rw [if_neg h0, if_neg h1, if_neg h2, if_neg h3]
            simp only
            have h1' : (numF 0 0 r.rest).2.2 = 0 := by simpa using h1
            have e := numF_leb0 r.rest (numF 0 0 r.rest).1 (numF 0 0 r.rest).2.1 (by rw [← h1'])
            have el : ((r.rest.drop (numF 0 0 r.rest).2.1).take (numF 0 0 r.rest).1).length = (numF 0 0 r.rest).1 := by rw [List.length_take, List.length_drop]; omega
            rw [el, e, List.take_append_drop, List.take_append_drop]
  · unfold rText at h
    rw [if_pos he] at h
    exact absurd h he
theorem readE_split : ∀ (k : Nat) (r : Rd) (acc l : List Ent) (r' : Rd), readE k r acc = (some l, r') → r'.err = 0 → r.err = 0 ∧ ∃ es : List Ent, l = acc ++ es ∧ es.length = k ∧ r.rest = es.flatMap entB ++ r'.rest ∧ ∀ x ∈ es, x.2.2 < 18446744073709551616
  | 0, r, acc, l, r', h, he => by
    rw [readE] at h
    simp only [Prod.mk.injEq, Option.some.injEq] at h
    obtain ⟨rfl, rfl⟩ := h
    exact ⟨he, [], by simp, rfl, by simp, fun x hx => by cases hx⟩
  | k + 1, r, acc, l, r', h, he => by
    by_cases h0 : r.err = 0
    · refine ⟨h0, ?_⟩
      rw [readE, if_neg (by rw [h0]; simp)] at h
      split at h
      · simp at h
      · rename_i hb
        obtain ⟨e1, es, rfl, hl, hr, hi⟩ := readE_split k _ _ l r' h he
        obtain ⟨e2, hw⟩ := rWord_split e1
        obtain ⟨e3, hby⟩ := rByte_split e2
        obtain ⟨e4, ht⟩ := rText_split e3
        refine ⟨_ :: es, by rw [List.append_assoc]; rfl, by rw [List.length_cons, hl], ?_, ?_⟩
        · rw [List.flatMap_cons, ht, hby, hw, hr, entB, mkS_size, mkS_list]
          have hbb : (rByte (rText 32 r).2).1 = if ((rByte (rText 32 r).2).1 == 1) = true then 1 else 0 := by
            by_cases h1 : (rByte (rText 32 r).2).1 = 1
            · rw [h1]; rfl
            · have h2 : (rByte (rText 32 r).2).1 = 0 := by
                rcases Classical.em ((rByte (rText 32 r).2).1 = 0) with h | h
                · exact h
                · exact absurd ⟨h, h1⟩ hb
              rw [h2]; rfl
          simp only
          rw [← hbb]
          simp
        · intro x hx
          rcases List.mem_cons.1 hx with rfl | hx
          · exact rWord_lt _
          · exact hi x hx
    · rw [readE, if_pos h0] at h
      simp only [Prod.mk.injEq, Option.some.injEq] at h
      rw [h.2] at h0
      exact absurd he h0
theorem readP_split : ∀ (k : Nat) (r : Rd) (acc l : List Nat) (r' : Rd), readP k r acc = (l, r') → r'.err = 0 → r.err = 0 ∧ ∃ ps : List Nat, l = acc ++ ps ∧ ps.length = k ∧ r.rest = ps.flatMap wide ++ r'.rest ∧ ∀ x ∈ ps, x < 18446744073709551616
  | 0, r, acc, l, r', h, he => by
    rw [readP] at h
    simp only [Prod.mk.injEq] at h
    obtain ⟨rfl, rfl⟩ := h
    exact ⟨he, [], by simp, rfl, by simp, fun x hx => by cases hx⟩
  | k + 1, r, acc, l, r', h, he => by
    by_cases h0 : r.err = 0
    · refine ⟨h0, ?_⟩
      rw [readP, if_neg (by rw [h0]; simp)] at h
      obtain ⟨e1, ps, rfl, hl, hr, hi⟩ := readP_split k _ _ l r' h he
      obtain ⟨e2, hw⟩ := rWord_split e1
      refine ⟨_ :: ps, by rw [List.append_assoc]; rfl, by rw [List.length_cons, hl], ?_, ?_⟩
      · rw [List.flatMap_cons, hw, hr]; simp
      · intro x hx
        rcases List.mem_cons.1 hx with rfl | hx
        · exact rWord_lt _
        · exact hi x hx
    · rw [readP, if_pos h0] at h
      simp only [Prod.mk.injEq] at h
      rw [h.2] at h0
      exact absurd he h0
theorem rEnd_zero {r : Rd} (h : rEnd r = 0) : r.err = 0 ∧ r.rest = [] := by
  unfold rEnd at h
  split at h
  · rename_i h1; exact absurd h h1
  · rename_i h1
    split at h
    · cases h
    · rename_i h2; exact ⟨by simpa using h1, List.eq_nil_of_length_eq_zero (by omega)⟩
theorem du_sd (x : Nat) (h : x < 18446744073709551616) : du (sd x) = x := by
  unfold sd du; split <;> omega
theorem sd_range (x : Nat) (h : x < 18446744073709551616) : -9223372036854775808 ≤ sd x ∧ sd x ≤ 9223372036854775807 := by
  unfold sd; split <;> omega
/-- What Decode reads has just these bytes. -/
theorem dec_sound {xs : List UInt8} {o : Ob} (h : decF xs = some o) : obB o = xs ∧ obCheck o = 0 ∧ Wf o := by
  unfold decF at h
  split at h
  · cases h
  · rename_i p hp
    split at h
    · rename_i hc
      obtain ⟨hend, hc⟩ := hc
      obtain ⟨he, hr⟩ := rEnd_zero hend
      cases h
      unfold preF at hp
      split at hp
      · rename_i h1
        obtain ⟨b, t, rfl, hR⟩ := rByte_zero (xs := xs) (by rw [h1]; decide)
        rw [hR] at h1 hp
        have hb : b = 98 := h1
        subst hb
        have h2 : rRaw (t.length : Int) ⟨t, 0⟩ = (t, ⟨[], 0⟩) := by
          simp only [rRaw]
          rw [if_neg (by simp), if_neg (by omega), if_neg (by omega)]
          simp
        simp only at hp
        rw [h2] at hp
        cases hp
        exact ⟨rfl, hc, trivial⟩
      · split at hp
        · rename_i h1
          obtain ⟨b, t, rfl, hR⟩ := rByte_zero (xs := xs) (by rw [h1]; decide)
          rw [hR] at h1 hp
          have hb : b = 116 := h1
          subst hb
          simp only at hp
          cases hq : readE (rUint ⟨t, 0⟩).1 (rUint ⟨t, 0⟩).2 [] with
          | mk a r' =>
            rw [hq] at hp
            cases a with
            | none => simp at hp
            | some l =>
              simp only [Option.map_some, Option.some.injEq] at hp
              subst hp
              obtain ⟨e1, es, hl, hk, hrr, hi⟩ := readE_split _ _ _ _ _ hq he
              obtain ⟨e2, hu⟩ := rUint_split e1
              simp only [List.nil_append] at hl
              subst hl
              simp only at hr
              refine ⟨?_, hc, hi⟩
              show treeB l = _
              simp only at hu
              rw [treeB, hu, hrr, hr, hk]
              simp
        · split at hp
          · rename_i h1
            obtain ⟨b, t, rfl, hR⟩ := rByte_zero (xs := xs) (by rw [h1]; decide)
            rw [hR] at h1 hp
            have hb : b = 99 := h1
            subst hb
            simp only [Option.some.injEq] at hp
            subst hp
            simp only [afterC] at he hr hc ⊢
            obtain ⟨x1, x2⟩ := rText_split he
            obtain ⟨d1, d2⟩ := rWord_split x1
            obtain ⟨a1, a2⟩ := rText_split d1
            obtain ⟨p1, ps, hl, hk, hrr, hi⟩ := readP_split _ _ _ _ _ (Prod.eta _).symm a1
            obtain ⟨u1, u2⟩ := rUint_split p1
            obtain ⟨w1, w2⟩ := rWord_split u1
            simp only [List.nil_append] at hl
            refine ⟨?_, hc, rWord_lt _, by rw [hl]; exact hi, (sd_range _ (rWord_lt _)).1, (sd_range _ (rWord_lt _)).2⟩
            show commitB _ _ _ _ _ = _
            simp only at w2
            rw [commitB, du_sd _ (rWord_lt _)]
            conv => rhs; rw [w2, u2, hrr, a2, d2, x2, hr]
            rw [hl, hk]
            simp
          · cases hp
    · cases h
/-- One byte more, one byte less: no tree, no commit. -/
theorem dec_more {xs : List UInt8} {o : Ob} (h : decF xs = some o) (hb : ∀ l, o ≠ .blob l) (m : UInt8) : decF (xs ++ [m]) = none := by
  obtain ⟨h1, h2, h3⟩ := dec_sound h
  rw [← h1, decF, pre_whole o h3 h2 [m] (.inr hb)]
  simp [rEnd]
theorem dec_less {xs : List UInt8} {o : Ob} {m : UInt8} (h : decF (xs ++ [m]) = some o) (hb : ∀ l, o ≠ .blob l) : decF xs = none := by
  cases hq : decF xs with
  | none => rfl
  | some o' =>
    by_cases hb' : ∀ l, o' ≠ .blob l
    · rw [dec_more hq hb' m] at h
      cases h
    · obtain ⟨l, hl⟩ := Classical.not_forall.1 hb'
      have hl : o' = .blob l := Classical.not_not.1 hl
      subst hl
      have h1 := (dec_sound hq).1
      rw [← h1] at h
      have : obB (.blob l) ++ [m] = 98 :: (l ++ [m]) := rfl
      rw [this, decF, pre_blob] at h
      simp only at h
      split at h
      · cases h; exact absurd rfl (hb _)
      · cases h
end Go.Proofs.Ytkmnkbmmgopldaa
