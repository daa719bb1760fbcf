/-
  What a quoted text says: plain law.
-/
import Derived.Test.YtcomcoolmabmgaaDoorQ8
namespace Go.Proofs.YtcomcoolmabmgaaDoor
set_option linter.unusedVariables false
set_option linter.unusedSimpArgs false

/-- What stands between the quotes says this, if it may be read. -/
def innerF : List UInt8 → Option (List UInt8)
  | [] => some []
  | c :: t =>
    if c = 34 then none
    else if c ≠ 92 then (innerF t).map (c :: ·)
    else match t with
    | [] => none
    | e :: u =>
      if e = 34 ∨ e = 92 then (innerF u).map (e :: ·)
      else if e = 110 then (innerF u).map (10 :: ·)
      else if e = 120 then match u with
        | a :: b :: v => if dg a.toNat < 16 ∧ dg b.toNat < 16 then (innerF v).map (UInt8.ofNat (dg a.toNat * 16 + dg b.toNat) :: ·) else none
        | _ => none
      else none

theorem innerF_plain (c : UInt8) (t : List UInt8) (h1 : c ≠ 34) (h2 : c ≠ 92) : innerF (c :: t) = (innerF t).map (c :: ·) := by
  conv => lhs; rw [innerF.eq_def]
  simp only
  rw [if_neg h1, if_pos h2]
theorem innerF_esc (e : UInt8) (u : List UInt8) (h : e = 34 ∨ e = 92) : innerF (92 :: e :: u) = (innerF u).map (e :: ·) := by
  conv => lhs; rw [innerF.eq_def]
  simp only
  rw [if_neg (by decide), if_neg (by decide)]
  simp only [if_pos h]
theorem innerF_nl (u : List UInt8) : innerF (92 :: 110 :: u) = (innerF u).map (10 :: ·) := by
  conv => lhs; rw [innerF.eq_def]
  simp only
  rw [if_neg (by decide), if_neg (by decide)]
  simp only [if_neg (show ¬ ((110 : UInt8) = 34 ∨ (110 : UInt8) = 92) by decide), if_true]
theorem dg_hx : ∀ q, q < 16 → dg (hx q).toNat = q := by decide
theorem innerF_hex (b : UInt8) (u : List UInt8) : innerF (92 :: 120 :: hx (b.toNat / 16) :: hx (b.toNat % 16) :: u) = (innerF u).map (b :: ·) := by
  have hb : b.toNat < 256 := b.toNat_lt
  conv => lhs; rw [innerF.eq_def]
  simp only
  rw [if_neg (by decide), if_neg (by decide)]
  simp only [if_neg (show ¬ ((120 : UInt8) = 34 ∨ (120 : UInt8) = 92) by decide), if_neg (show ¬ ((120 : UInt8) = 110) by decide), if_true]
  rw [dg_hx _ (by omega), dg_hx _ (by omega), if_pos ⟨by omega, by omega⟩]
  have e : b.toNat / 16 * 16 + b.toNat % 16 = b.toNat := by omega
  rw [e, u8_of _ b rfl]
theorem innerF_hexs (bs u : List UInt8) : innerF (hexs bs ++ u) = (innerF u).map (bs ++ ·) := by
  induction bs with
  | nil => simp [hexs]
  | cons b t ih =>
    have e : hexs (b :: t) ++ u = 92 :: 120 :: hx (b.toNat / 16) :: hx (b.toNat % 16) :: (hexs t ++ u) := rfl
    rw [e, innerF_hex, ih]
    simp [Option.map_map, Function.comp_def]
theorem innerF_bytes (bs u : List UInt8) (h : ∀ b ∈ bs, b ≠ 34 ∧ b ≠ 92) : innerF (bs ++ u) = (innerF u).map (bs ++ ·) := by
  induction bs with
  | nil => simp
  | cons b t ih =>
    have hb := h b (by simp)
    rw [List.cons_append, innerF_plain b _ hb.1 hb.2, ih (fun x hx => h x (by simp [hx]))]
    simp [Option.map_map, Function.comp_def]

theorem small_piece (l : List UInt8) (h : l ≠ []) (hr : (decL l).1 < 128) : l.take (decL l).2 = [UInt8.ofNat (decL l).1] := by
  have hf := decL_facts l h
  rw [take_get l _ hf.2.1]
  rcases decL_ways l with ⟨h1, e⟩ | ⟨h1, h2, h3, h4, e⟩ | ⟨h1, h2, h3, h4, h5, h6, e⟩ | ⟨h1, h2, h3, h4, h5, h6, h7, e⟩ | ⟨h1, e⟩
  · rw [e]
    simp only
    rw [u8_of _ (l.getD 0 0) rfl]
    rfl
  · rw [e] at hr; simp only at hr; omega
  · rw [e] at hr; simp only at hr; omega
  · rw [e] at hr; simp only at hr; omega
  · rw [e] at hr; simp only at hr; omega
theorem big_piece (l : List UInt8) (h : l ≠ []) (hr : 128 ≤ (decL l).1) : ∀ b ∈ l.take (decL l).2, b ≠ 34 ∧ b ≠ 92 := by
  have hf := decL_facts l h
  have key : ∀ b : UInt8, 128 ≤ b.toNat → b ≠ 34 ∧ b ≠ 92 := by
    intro b hb
    constructor <;> (intro he; subst he; revert hb; decide)
  rw [take_get l _ hf.2.1]
  intro b hb
  apply key
  obtain ⟨j, hj, rfl⟩ := List.mem_map.1 hb
  have hj : j < (decL l).2 := List.mem_range.1 hj
  rcases decL_ways l with ⟨h1, e⟩ | ⟨h1, h2, h3, h4, e⟩ | ⟨h1, h2, h3, h4, h5, h6, e⟩ | ⟨h1, h2, h3, h4, h5, h6, h7, e⟩ | ⟨h1, e⟩
  · rw [e] at hr; simp only at hr; omega
  · rw [e] at hj; simp only at hj
    obtain rfl | rfl : j = 0 ∨ j = 1 := by omega
    · omega
    · omega
  · rw [e] at hj; simp only at hj
    obtain rfl | rfl | rfl : j = 0 ∨ j = 1 ∨ j = 2 := by omega
    · omega
    · omega
    · omega
  · rw [e] at hj; simp only at hj
    obtain rfl | rfl | rfl | rfl : j = 0 ∨ j = 1 ∨ j = 2 ∨ j = 3 := by omega
    · omega
    · omega
    · omega
    · omega
  · rw [e] at hj; simp only at hj
    obtain rfl : j = 0 := by omega
    exact h1

theorem innerF_piece (l u : List UInt8) (h : l ≠ []) : innerF (quoteP ((decL l).1, brk l, l.take (decL l).2) ++ u) = (innerF u).map (l.take (decL l).2 ++ ·) := by
  unfold quoteP
  simp only
  split
  · rename_i h1
    rw [small_piece l h (by omega)]
    rcases h1 with h1 | h1 <;> rw [h1]
    · exact innerF_esc 34 u (.inl rfl)
    · exact innerF_esc 92 u (.inr rfl)
  · split
    · rename_i h1 h2
      rw [small_piece l h (by omega), h2]
      exact innerF_nl u
    · split
      · exact innerF_hexs _ u
      · rename_i h1 h2 h3
        apply innerF_bytes
        rcases Nat.lt_or_ge (decL l).1 128 with hr | hr
        · rw [small_piece l h hr]
          intro b hb
          simp only [List.mem_singleton] at hb
          subst hb
          constructor
          · intro he
            have := congrArg UInt8.toNat he
            rw [UInt8.toNat_ofNat'] at this
            have e34 : (34 : UInt8).toNat = 34 := rfl
            omega
          · intro he
            have := congrArg UInt8.toNat he
            rw [UInt8.toNat_ofNat'] at this
            have e92 : (92 : UInt8).toNat = 92 := rfl
            omega
        · exact big_piece l h hr

/-- Whatever bytes a text has: they come back. -/
theorem innerF_quote : ∀ (n : Nat) (l : List UInt8), l.length ≤ n → innerF ((pcs l).flatMap quoteP) = some l := by
  intro n
  induction n with
  | zero =>
    intro l hl
    have : l = [] := List.eq_nil_of_length_eq_zero (by omega)
    subst this
    simp [pcs_nil, innerF]
  | succ n ih =>
    intro l hl
    by_cases h : l = []
    · subst h
      simp [pcs_nil, innerF]
    · have hf := decL_facts l h
      rw [pcs_cons l h, List.flatMap_cons, innerF_piece l _ h, ih _ (by rw [List.length_drop]; omega)]
      simp
end Go.Proofs.YtcomcoolmabmgaaDoor
