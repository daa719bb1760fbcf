/-
  Q18, Q19, Rl8, Rb, Rl9, Ro: in one text.
-/
import Derived.Test.YtcomcoolmabmgaaDoorBa7
import Derived.Lib.Join
import Derived.Test.YtcomcoolmabmgaaDoorBa2
import Derived.Test.YtcomcoolmabmgaaDoorBa9
import Derived.BigQuiet
import Derived.Lib.Builder
import Derived.DataElems
import Derived.Test.YtcomcoolmabmgaaDoorBa1
namespace Go.Proofs.YtcomcoolmabmgaaDoor
set_option linter.unnecessarySimpa false
set_option linter.unusedVariables false
set_option linter.unusedSimpArgs false

theorem getD_left (l u : List UInt8) (k i : Nat) (hk : k ≤ l.length) (hi : i < k) : (l.take k ++ u).getD i 0 = l.getD i 0 := by
  rw [List.getD_eq_getElem?_getD, List.getD_eq_getElem?_getD, List.getElem?_append_left (by rw [List.length_take]; omega), List.getElem?_take, if_pos hi]
theorem decL_one (l : List UInt8) (h : (l.getD 0 0).toNat < 128) : decL l = ((l.getD 0 0).toNat, 1) := by unfold decL; rw [if_pos h]
theorem goOn_of' {l : List UInt8} {i : Nat} (h1 : i < l.length) (h2 : (l.getD i 0).toNat / 64 = 2) : goOn l i = true := by unfold goOn; rw [decide_eq_true h1, h2]; rfl
theorem decL_two (l : List UInt8) (h1 : (l.getD 0 0).toNat / 32 = 6) (h2 : 1 < l.length) (h3 : (l.getD 1 0).toNat / 64 = 2) (h4 : 128 ≤ ((l.getD 0 0).toNat % 32) * 64 + (l.getD 1 0).toNat % 64) : decL l = (((l.getD 0 0).toNat % 32) * 64 + (l.getD 1 0).toNat % 64, 2) := by
  unfold decL
  rw [if_neg (by omega), if_pos (by rw [goOn_of' h2 h3]; rw [h1]; rfl), if_pos h4]
theorem decL_three (l : List UInt8) (h1 : (l.getD 0 0).toNat / 16 = 14) (h2 : 2 < l.length) (h3 : (l.getD 1 0).toNat / 64 = 2) (h4 : (l.getD 2 0).toNat / 64 = 2)
    (h5 : 2048 ≤ ((l.getD 0 0).toNat % 16) * 4096 + ((l.getD 1 0).toNat % 64) * 64 + (l.getD 2 0).toNat % 64) (h6 : Utf8.valid (((l.getD 0 0).toNat % 16) * 4096 + ((l.getD 1 0).toNat % 64) * 64 + (l.getD 2 0).toNat % 64 : Nat) = true) :
    decL l = (((l.getD 0 0).toNat % 16) * 4096 + ((l.getD 1 0).toNat % 64) * 64 + (l.getD 2 0).toNat % 64, 3) := by
  unfold decL
  rw [if_neg (by omega), if_neg (by
    have : ((l.getD 0 0).toNat / 32 == 6) = false := by rw [beq_eq_false_iff_ne]; omega
    rw [this]; simp), if_pos (by rw [goOn_of' (by omega) h3, goOn_of' h2 h4]; rw [h1]; rfl), if_pos (by rw [h6, Bool.and_true, decide_eq_true_iff]; exact h5)]
theorem decL_four (l : List UInt8) (h1 : (l.getD 0 0).toNat / 8 = 30) (h2 : 3 < l.length) (h3 : (l.getD 1 0).toNat / 64 = 2) (h4 : (l.getD 2 0).toNat / 64 = 2) (h4b : (l.getD 3 0).toNat / 64 = 2)
    (h5 : 65536 ≤ ((l.getD 0 0).toNat % 8) * 262144 + ((l.getD 1 0).toNat % 64) * 4096 + ((l.getD 2 0).toNat % 64) * 64 + (l.getD 3 0).toNat % 64) (h6 : Utf8.valid (((l.getD 0 0).toNat % 8) * 262144 + ((l.getD 1 0).toNat % 64) * 4096 + ((l.getD 2 0).toNat % 64) * 64 + (l.getD 3 0).toNat % 64 : Nat) = true) :
    decL l = (((l.getD 0 0).toNat % 8) * 262144 + ((l.getD 1 0).toNat % 64) * 4096 + ((l.getD 2 0).toNat % 64) * 64 + (l.getD 3 0).toNat % 64, 4) := by
  unfold decL
  rw [if_neg (by omega), if_neg (by
    have : ((l.getD 0 0).toNat / 32 == 6) = false := by rw [beq_eq_false_iff_ne]; omega
    rw [this]; simp), if_neg (by
    have : ((l.getD 0 0).toNat / 16 == 14) = false := by rw [beq_eq_false_iff_ne]; omega
    rw [this]; simp), if_pos (by rw [goOn_of' (by omega) h3, goOn_of' (by omega) h4, goOn_of' h2 h4b]; rw [h1]; rfl), if_pos (by rw [h6, Bool.and_true, decide_eq_true_iff]; exact h5)]

/-- A whole piece is read the same whatever stands behind it. -/
theorem decL_same (l u : List UInt8) (h : l ≠ []) (hb : brk l = false) : decL (l.take (decL l).2 ++ u) = decL l := by
  have hf := decL_facts l h
  have hg := fun i hi => getD_left l u (decL l).2 i hf.2.1 hi
  have hlen : (decL l).2 ≤ (l.take (decL l).2 ++ u).length := by rw [List.length_append, List.length_take]; omega
  rcases decL_ways l with ⟨h1, e⟩ | ⟨h1, h2, h3, h4, e⟩ | ⟨h1, h2, h3, h4, h5, h6, e⟩ | ⟨h1, h2, h3, h4, h5, h6, h7, e⟩ | ⟨h1, e⟩
  · rw [e] at hg hlen ⊢
    simp only at hg hlen
    rw [decL_one _ (by rw [hg 0 (by omega)]; exact h1), hg 0 (by omega)]
  · rw [e] at hg hlen ⊢
    simp only at hg hlen
    show decL (l.take 2 ++ u) = _
    have g0 := hg 0 (by omega)
    have g1 := hg 1 (by omega)
    rw [decL_two _ (by rw [g0]; exact h1) (by omega) (by rw [g1]; exact h3) (by rw [g0, g1]; exact h4), g0, g1]
  · rw [e] at hg hlen ⊢
    simp only at hg hlen
    show decL (l.take 3 ++ u) = _
    have g0 := hg 0 (by omega)
    have g1 := hg 1 (by omega)
    have g2 := hg 2 (by omega)
    rw [decL_three _ (by rw [g0]; exact h1) (by omega) (by rw [g1]; exact h3) (by rw [g2]; exact h4) (by rw [g0, g1, g2]; exact h5) (by rw [g0, g1, g2]; exact h6), g0, g1, g2]
  · rw [e] at hg hlen ⊢
    simp only at hg hlen
    show decL (l.take 4 ++ u) = _
    have g0 := hg 0 (by omega)
    have g1 := hg 1 (by omega)
    have g2 := hg 2 (by omega)
    have g3 := hg 3 (by omega)
    rw [decL_four _ (by rw [g0]; exact h1) (by omega) (by rw [g1]; exact h3) (by rw [g2]; exact h4) (by rw [g3]; exact h5) (by rw [g0, g1, g2, g3]; exact h6) (by rw [g0, g1, g2, g3]; exact h7), g0, g1, g2, g3]
  · exfalso
    unfold brk at hb
    rw [e] at hb
    have hp : ([239, 191, 189] : List UInt8).isPrefixOf l = true := by simpa using hb
    have := pre_fffd hp
    rw [e] at this
    simp at this
theorem brk_same (l u : List UInt8) (h : l ≠ []) (hb : brk l = false) : brk (l.take (decL l).2 ++ u) = false := by
  unfold brk
  rw [decL_same l u h hb]
  by_cases hr : (decL l).1 = 65533
  · unfold brk at hb
    rw [hr] at hb
    have hp : ([239, 191, 189] : List UInt8).isPrefixOf l = true := by simpa using hb
    obtain ⟨t, rfl⟩ := List.isPrefixOf_iff_prefix.1 hp
    rw [pre_fffd hp]
    simp
  · simp [hr]
theorem pcs_piece (l u : List UInt8) (h : l ≠ []) (hb : brk l = false) : pcs (l.take (decL l).2 ++ u) = ((decL l).1, false, l.take (decL l).2) :: pcs u := by
  have hf := decL_facts l h
  have hl : (l.take (decL l).2).length = (decL l).2 := by rw [List.length_take]; omega
  rw [pcs_cons _ (by intro hn; have := congrArg List.length hn; rw [List.length_append] at this; simp only [List.length_nil] at this; omega), decL_same l u h hb, brk_same l u h hb]
  rw [List.take_append_of_le_length (by omega), List.take_of_length_le (by omega), List.drop_append_of_le_length (by omega), List.drop_of_length_le (by omega), List.nil_append]
theorem pcs_ascii (b : UInt8) (u : List UInt8) (hb : b.toNat < 128) : pcs (b :: u) = (b.toNat, false, [b]) :: pcs u := by
  have e : decL (b :: u) = (b.toNat, 1) := decL_one (b :: u) hb
  have hk : brk (b :: u) = false := by
    unfold brk
    rw [e]
    have : (b.toNat == 65533) = false := by rw [beq_eq_false_iff_ne]; omega
    simp only [this, Bool.false_and]
  rw [pcs_cons _ (by simp), e, hk]
  rfl

/-- Neither a control nor broken. -/
def goodP (p : Nat × Bool × List UInt8) : Bool := !(ctl p.1 || p.2.1)
theorem good_ascii (b : UInt8) (u : List UInt8) (h1 : 32 ≤ b.toNat) (h2 : b.toNat < 127) : (pcs (b :: u)).all goodP = (pcs u).all goodP := by
  rw [pcs_ascii b u (by omega), List.all_cons]
  have : goodP (b.toNat, false, [b]) = true := by simp [goodP, ctl]; omega
  rw [this, Bool.true_and]
theorem hx_range : ∀ q, q < 16 → 32 ≤ (hx q).toNat ∧ (hx q).toNat < 127 ∧ hx q ≠ 34 ∧ hx q ≠ 92 := by decide
theorem good_hexs (bs u : List UInt8) : (pcs (hexs bs ++ u)).all goodP = (pcs u).all goodP := by
  induction bs with
  | nil => simp [hexs]
  | cons b t ih =>
    have hb : b.toNat < 256 := b.toNat_lt
    have e : hexs (b :: t) ++ u = 92 :: 120 :: hx (b.toNat / 16) :: hx (b.toNat % 16) :: (hexs t ++ u) := rfl
    have r1 := hx_range (b.toNat / 16) (by omega)
    have r2 := hx_range (b.toNat % 16) (by omega)
    rw [e, good_ascii 92 _ (by decide) (by decide), good_ascii 120 _ (by decide) (by decide), good_ascii _ _ r1.1 r1.2.1, good_ascii _ _ r2.1 r2.2.1, ih]
theorem good_piece (l u : List UInt8) (h : l ≠ []) : (pcs (quoteP ((decL l).1, brk l, l.take (decL l).2) ++ u)).all goodP = (pcs u).all goodP := by
  unfold quoteP
  simp only
  split
  · rename_i h1
    rcases h1 with h1 | h1 <;> rw [h1]
    · exact (good_ascii 92 _ (by decide) (by decide)).trans (good_ascii 34 _ (by decide) (by decide))
    · exact (good_ascii 92 _ (by decide) (by decide)).trans (good_ascii 92 _ (by decide) (by decide))
  · split
    · exact (good_ascii 92 _ (by decide) (by decide)).trans (good_ascii 110 _ (by decide) (by decide))
    · split
      · exact good_hexs _ u
      · rename_i h1 h2 h3
        have hb : brk l = false := by cases hh : brk l <;> simp_all
        have hc : ctl (decL l).1 = false := by cases hh : ctl (decL l).1 <;> simp_all
        rw [pcs_piece l u h hb, List.all_cons]
        have : goodP ((decL l).1, false, l.take (decL l).2) = true := by simp [goodP, hc]
        rw [this, Bool.true_and]
theorem good_all : ∀ (n : Nat) (l u : List UInt8), l.length ≤ n → (pcs ((pcs l).flatMap quoteP ++ u)).all goodP = (pcs u).all goodP := by
  intro n
  induction n with
  | zero =>
    intro l u hl
    have : l = [] := List.eq_nil_of_length_eq_zero (by omega)
    subst this
    simp [pcs_nil]
  | succ n ih =>
    intro l u hl
    by_cases h : l = []
    · subst h; simp [pcs_nil]
    · obtain ⟨f1, f2, f3⟩ := decL_facts l h
      rw [pcs_cons l h, List.flatMap_cons, List.append_assoc, good_piece l _ h, ih _ _ (by rw [List.length_drop]; omega)]
theorem good_quote (l : List UInt8) : (pcs (quoteF l)).all goodP = true := by
  rw [quoteF_parts, good_ascii 34 _ (by decide) (by decide), good_all l.length l [34] (Nat.le_refl _), good_ascii 34 _ (by decide) (by decide)]
  rfl

/-- It needs nothing. -/
def okP (p : Nat × Bool × List UInt8) : Bool := !(ctl p.1 || p.1 == 34 || p.1 == 92 || p.2.1)
theorem ok_piece (p : Nat × Bool × List UInt8) (h : okP p = true) : quoteP p = p.2.2 := by
  obtain ⟨r, b, bs⟩ := p
  simp only [okP, Bool.not_eq_true', Bool.or_eq_false_iff, beq_eq_false_iff_ne] at h
  obtain ⟨⟨⟨h1, h2⟩, h3⟩, h4⟩ := h
  have h10 : r ≠ 10 := by rintro rfl; simp [ctl] at h1
  simp [quoteP, h1, h2, h3, h4, h10]
theorem bad_piece (p : Nat × Bool × List UInt8) (h : okP p = false) (h1 : 1 ≤ p.2.2.length) (h2 : p.1 < 128 → p.2.2.length = 1) : p.2.2.length < (quoteP p).length := by
  obtain ⟨r, b, bs⟩ := p
  simp only at h1 h2
  simp only [okP, Bool.not_eq_false', Bool.or_eq_true, beq_iff_eq] at h
  unfold quoteP
  simp only
  split
  · have := h2 (by omega)
    simp only [List.length_cons, List.length_nil]; omega
  · split
    · have := h2 (by omega)
      simp only [List.length_cons, List.length_nil]; omega
    · rw [if_pos (by rcases h with ((h | h) | h) | h
                     · exact .inr h
                     · omega
                     · omega
                     · exact .inl h), hexs_len]
      omega
theorem quote_ok : ∀ (n : Nat) (l : List UInt8), l.length ≤ n → ((pcs l).all okP = true → (pcs l).flatMap quoteP = l) ∧ l.length ≤ ((pcs l).flatMap quoteP).length ∧ ((pcs l).all okP = false → l.length < ((pcs l).flatMap quoteP).length) := by
  intro n
  induction n with
  | zero =>
    intro l hl
    have : l = [] := List.eq_nil_of_length_eq_zero (by omega)
    subst this
    simp [pcs_nil]
  | succ n ih =>
    intro l hl
    by_cases h : l = []
    · subst h; simp [pcs_nil]
    · obtain ⟨f1, f2, f3⟩ := decL_facts l h
      obtain ⟨i1, i2, i3⟩ := ih (l.drop (decL l).2) (by rw [List.length_drop]; omega)
      have hk : (l.take (decL l).2).length = (decL l).2 := by rw [List.length_take]; omega
      have hld : (l.drop (decL l).2).length = l.length - (decL l).2 := List.length_drop
      have hsm : (decL l).1 < 128 → (l.take (decL l).2).length = 1 := fun hr => by rw [small_piece l h hr]; rfl
      rw [pcs_cons l h, List.flatMap_cons, List.all_cons, List.length_append]
      cases ho : okP ((decL l).1, brk l, l.take (decL l).2) with
      | true =>
        rw [ok_piece _ ho]
        simp only [Bool.true_and]
        refine ⟨fun ha => by rw [i1 ha, List.take_append_drop], by omega, fun ha => by have := i3 ha; omega⟩
      | false =>
        have := bad_piece _ ho (by show 1 ≤ (l.take (decL l).2).length; omega) hsm
        simp only at this
        refine ⟨fun ha => by simp at ha, by omega, fun _ => by omega⟩
theorem quote_plain (l : List UInt8) : (quoteF l == [34] ++ l ++ [34]) = (pcs l).all okP := by
  obtain ⟨h1, h2, h3⟩ := quote_ok l.length l (Nat.le_refl _)
  cases ha : (pcs l).all okP with
  | true => rw [beq_iff_eq, quoteF, h1 ha]
  | false =>
    rw [beq_eq_false_iff_ne]
    intro he
    have := congrArg List.length he
    rw [quoteF] at this
    simp only [List.length_append, List.length_cons, List.length_nil] at this
    have := h3 ha
    omega

theorem map_add (o : Option Nat) (a b : Nat) : (o.map (· + a)).map (· + b) = o.map (· + (a + b)) := by
  cases o with
  | none => rfl
  | some k => simp; omega
theorem endL_bytes (bs u : List UInt8) (h : ∀ b ∈ bs, b ≠ 34 ∧ b ≠ 92) : endL (bs ++ u) = (endL u).map (· + bs.length) := by
  induction bs with
  | nil => cases hh : endL u <;> simp [hh]
  | cons b t ih =>
    have hb := h b (by simp)
    rw [List.cons_append, endL_any b _ hb.2 hb.1, ih (fun x hx => h x (by simp [hx])), map_add]
    rfl
theorem endL_hexs (bs u : List UInt8) : endL (hexs bs ++ u) = (endL u).map (· + (hexs bs).length) := by
  induction bs with
  | nil => cases hh : endL u <;> simp [hexs, hh]
  | cons b t ih =>
    have hb : b.toNat < 256 := b.toNat_lt
    have e : hexs (b :: t) ++ u = 92 :: 120 :: hx (b.toNat / 16) :: hx (b.toNat % 16) :: (hexs t ++ u) := rfl
    have el : (hexs (b :: t)).length = (hexs t).length + 4 := rfl
    have r1 := hx_range (b.toNat / 16) (by omega)
    have r2 := hx_range (b.toNat % 16) (by omega)
    rw [e, endL_esc, endL_any _ _ r1.2.2.2 r1.2.2.1, endL_any _ _ r2.2.2.2 r2.2.2.1, ih, map_add, map_add, map_add, el]
theorem endL_piece (l u : List UInt8) (h : l ≠ []) : endL (quoteP ((decL l).1, brk l, l.take (decL l).2) ++ u) = (endL u).map (· + (quoteP ((decL l).1, brk l, l.take (decL l).2)).length) := by
  unfold quoteP
  simp only
  split
  · exact endL_esc _ _
  · split
    · exact endL_esc _ _
    · split
      · exact endL_hexs _ u
      · rename_i h1 h2 h3
        apply endL_bytes
        rcases Nat.lt_or_ge (decL l).1 128 with hr | hr
        · rw [small_piece l h hr]
          intro b hb
          simp only [List.mem_singleton] at hb
          subst hb
          constructor
          · intro he
            have := congrArg UInt8.toNat he
            rw [UInt8.toNat_ofNat'] at this
            have e34 : (34 : UInt8).toNat = 34 := rfl
            omega
          · intro he
            have := congrArg UInt8.toNat he
            rw [UInt8.toNat_ofNat'] at this
            have e92 : (92 : UInt8).toNat = 92 := rfl
            omega
        · exact big_piece l h hr
theorem endL_all : ∀ (n : Nat) (l u : List UInt8), l.length ≤ n → endL ((pcs l).flatMap quoteP ++ u) = (endL u).map (· + ((pcs l).flatMap quoteP).length) := by
  intro n
  induction n with
  | zero =>
    intro l u hl
    have : l = [] := List.eq_nil_of_length_eq_zero (by omega)
    subst this
    cases hh : endL u <;> simp [pcs_nil, hh]
  | succ n ih =>
    intro l u hl
    by_cases h : l = []
    · subst h; cases hh : endL u <;> simp [pcs_nil, hh]
    · obtain ⟨f1, f2, f3⟩ := decL_facts l h
      rw [pcs_cons l h, List.flatMap_cons, List.append_assoc, endL_piece l _ h, ih _ _ (by rw [List.length_drop]; omega), map_add, List.length_append, Nat.add_comm]
/-- A quoted text is one word of any line. -/
theorem words_quoted (p : Nat) (acc : List (List UInt8)) (l u : List UInt8) (hu : u.head?.getD 32 = 32) : wordsF p acc (quoteF l ++ u) = wordsF (p + (quoteF l).length) (acc ++ [l]) u := by
  have he : endL (((pcs l).flatMap quoteP ++ [34]) ++ u) = some (((pcs l).flatMap quoteP).length + 1) := by
    rw [List.append_assoc, endL_all l.length l _ (Nat.le_refl _), List.cons_append, List.nil_append, endL_quote]
    simp; omega
  have hlen : (quoteF l).length = ((pcs l).flatMap quoteP).length + 2 := by rw [quoteF_parts]; simp
  have hm : ((pcs l).flatMap quoteP ++ [34]).length = ((pcs l).flatMap quoteP).length + 1 := by simp
  have hd : ((((pcs l).flatMap quoteP ++ [34]) ++ u).drop (((pcs l).flatMap quoteP).length + 1)) = u := by
    rw [← hm, List.drop_left]
  have ht : ((((pcs l).flatMap quoteP ++ [34]) ++ u).take (((pcs l).flatMap quoteP).length + 1)) = (pcs l).flatMap quoteP ++ [34] := by
    rw [← hm, List.take_left]
  conv => lhs; rw [quoteF_parts, List.cons_append]
  rw [words_q3 p acc _ _ l he (by rw [hd]; exact hu) (by rw [ht, ← quoteF_parts]; exact unq_quote l), hd, hlen]
  congr 1
  omega
theorem words_right (l : List UInt8) : wordsF 0 [] ([97, 32] ++ quoteF l ++ [32, 98]) = .inr [[97], l, [98]] := by
  have e1 : ∀ p acc u, wordsF p acc (97 :: 32 :: u) = wordsF (p + 2) (acc ++ [[97]]) u := by
    intro p acc u
    rw [words_plain _ _ _ _ (by decide) (by decide) (by decide)]
    have e : (32 :: u).takeWhile (· ≠ (32 : UInt8)) = [] := by simp
    simp only [e]
    rw [if_pos wake_p2]
    simp only [List.length_nil, List.drop_zero]
    rw [words_space]
  have e0 : ([97, 32] ++ quoteF l ++ [32, 98] : List UInt8) = 97 :: 32 :: (quoteF l ++ [32, 98]) := rfl
  rw [e0, e1, words_quoted _ _ _ _ rfl, words_space, words_plain _ _ _ _ (by decide) (by decide) (by decide)]
  rw [if_pos (show plainF (98 :: List.takeWhile (· ≠ (32 : UInt8)) []) = true by decide +kernel)]
  simp only [List.takeWhile_nil]
  simp only [List.length_nil, List.drop_zero]
  rw [words_nil]
  rfl
end Go.Proofs.YtcomcoolmabmgaaDoor

namespace Go.Proofs.YtcomcoolmabmgaaDoor
set_option linter.unnecessarySimpa false
open Go.RowKit
set_option linter.unusedVariables false
set_option linter.unusedSimpArgs false
set_option maxRecDepth 100000

theorem big_bytes (l : List UInt8) (h : l ≠ []) (hr : 128 ≤ (decL l).1) : ∀ b ∈ l.take (decL l).2, 128 ≤ b.toNat := by
  have hf := decL_facts l h
  rw [take_get l _ hf.2.1]
  intro b hb
  obtain ⟨j, hj, rfl⟩ := List.mem_map.1 hb
  have hj : j < (decL l).2 := List.mem_range.1 hj
  rcases decL_ways l with ⟨h1, e⟩ | ⟨h1, h2, h3, h4, e⟩ | ⟨h1, h2, h3, h4, h5, h6, e⟩ | ⟨h1, h2, h3, h4, h5, h6, h7, e⟩ | ⟨h1, e⟩
  · rw [e] at hr; simp only at hr; omega
  · rw [e] at hj; simp only at hj
    obtain rfl | rfl : j = 0 ∨ j = 1 := by omega
    · omega
    · omega
  · rw [e] at hj; simp only at hj
    obtain rfl | rfl | rfl : j = 0 ∨ j = 1 ∨ j = 2 := by omega
    · omega
    · omega
    · omega
  · rw [e] at hj; simp only at hj
    obtain rfl | rfl | rfl | rfl : j = 0 ∨ j = 1 ∨ j = 2 ∨ j = 3 := by omega
    · omega
    · omega
    · omega
    · omega
  · rw [e] at hj; simp only at hj
    obtain rfl : j = 0 := by omega
    exact h1
theorem plain_bytes : ∀ (n : Nat) (l : List UInt8), l.length ≤ n → ((pcs l).all fun p => !badP p) = true → ∀ b ∈ l, b ≠ 32 ∧ b ≠ 34 := by
  intro n
  induction n with
  | zero =>
    intro l hl _ b hb
    have : l = [] := List.eq_nil_of_length_eq_zero (by omega)
    subst this
    cases hb
  | succ n ih =>
    intro l hl ha b hb
    by_cases h : l = []
    · subst h; cases hb
    · obtain ⟨f1, f2, f3⟩ := decL_facts l h
      rw [pcs_cons l h, List.all_cons, Bool.and_eq_true_iff] at ha
      rw [← List.take_append_drop (decL l).2 l] at hb
      rcases List.mem_append.1 hb with hb | hb
      · have hp := ha.1
        simp only [badP, Bool.not_eq_true', Bool.or_eq_false_iff, beq_eq_false_iff_ne] at hp
        obtain ⟨⟨⟨⟨p1, p2⟩, p3⟩, p4⟩, p5⟩ := hp
        rcases Nat.lt_or_ge (decL l).1 128 with hr | hr
        · rw [small_piece l h hr] at hb
          simp only [List.mem_singleton] at hb
          subst hb
          constructor
          · intro he
            have := congrArg UInt8.toNat he
            rw [UInt8.toNat_ofNat'] at this
            have e32 : (32 : UInt8).toNat = 32 := rfl
            omega
          · intro he
            have := congrArg UInt8.toNat he
            rw [UInt8.toNat_ofNat'] at this
            have e34 : (34 : UInt8).toNat = 34 := rfl
            omega
        · have := big_bytes l h hr b hb
          constructor <;> (rintro rfl; revert this; decide)
      · exact ih _ (by rw [List.length_drop]; omega) ha.2 b hb
theorem tw_all (x u : List UInt8) (hx : ∀ b ∈ x, b ≠ 32) (hu : u.head?.getD 32 = 32) : (x ++ u).takeWhile (· ≠ 32) = x := by
  induction x with
  | nil =>
    cases u with
    | nil => rfl
    | cons a t =>
      have : a = 32 := hu
      subst this
      simp
  | cons a t ih => rw [List.cons_append, List.takeWhile_cons_of_pos (by simpa using hx a (by simp)), ih (fun b hb => hx b (by simp [hb]))]
/-- A word is one word of any line. -/
theorem words_word (p : Nat) (acc : List (List UInt8)) (x u : List UInt8) (hu : u.head?.getD 32 = 32) : wordsF p acc (wordF x ++ u) = wordsF (p + (wordF x).length) (acc ++ [x]) u := by
  unfold wordF
  cases hp : plainF x with
  | false =>
    rw [if_neg (by simp)]
    exact words_quoted p acc x u hu
  | true =>
    rw [if_pos rfl]
    cases x with
    | nil => simp [plainF] at hp
    | cons c t =>
      have hq := hp
      simp only [plainF, Bool.and_eq_true_iff, bne_iff_ne] at hq
      have hb := plain_bytes _ _ (Nat.le_refl _) hq.2
      have e := tw_all t u (fun b hb' => (hb b (by simp [hb'])).1) hu
      rw [List.cons_append, words_plain p acc c (t ++ u) hq.1 (hb c (by simp)).1 (hb c (by simp)).2, e, if_pos hp, List.drop_left]
      congr 1
      simp only [List.length_cons]; omega
def lineF (ws : List (List UInt8)) : List UInt8 := Lib.join (ws.map wordF) [32]
theorem words_tail : ∀ (ws : List (List UInt8)) (p : Nat) (acc : List (List UInt8)), wordsF p acc (Lib.joinTail [32] (ws.map wordF)) = .inr (acc ++ ws) := by
  intro ws
  induction ws with
  | nil => intro p acc; simp [Lib.joinTail, words_nil]
  | cons y r ih =>
    intro p acc
    have e : Lib.joinTail [32] ((y :: r).map wordF) = 32 :: (wordF y ++ Lib.joinTail [32] (r.map wordF)) := by simp [Lib.joinTail]
    rw [e, words_space, words_word _ _ _ _ (by cases r <;> simp [Lib.joinTail]), ih]
    simp
theorem words_line (ws : List (List UInt8)) : wordsF 0 [] (lineF ws) = .inr ws := by
  unfold lineF
  cases ws with
  | nil => simp [Lib.join_nil, words_nil]
  | cons y r =>
    rw [List.map_cons, Lib.join_cons, words_word _ _ _ _ (by cases r <;> simp [Lib.joinTail]), words_tail]
    simp
theorem quoteF_len : ∀ (n : Nat) (l : List UInt8), l.length ≤ n → ((pcs l).flatMap quoteP).length ≤ 4 * l.length := by
  intro n
  induction n with
  | zero =>
    intro l hl
    have : l = [] := List.eq_nil_of_length_eq_zero (by omega)
    subst this
    simp [pcs_nil]
  | succ n ih =>
    intro l hl
    by_cases h : l = []
    · subst h; simp [pcs_nil]
    · obtain ⟨f1, f2, f3⟩ := decL_facts l h
      have i1 := ih (l.drop (decL l).2) (by rw [List.length_drop]; omega)
      have hk : (l.take (decL l).2).length = (decL l).2 := by rw [List.length_take]; omega
      have i2 := quoteP_len ((decL l).1, brk l, l.take (decL l).2) (by show 1 ≤ (l.take (decL l).2).length; omega)
      rw [pcs_cons l h, List.flatMap_cons, List.length_append]
      rw [List.length_drop] at i1
      simp only at i2
      omega
theorem quoteF_le (l : List UInt8) : (quoteF l).length ≤ 4 * l.length + 2 := by
  have := quoteF_len _ l (Nat.le_refl _)
  rw [quoteF_parts]
  simp only [List.length_cons, List.length_append, List.length_nil]
  omega
theorem wordF_le (l : List UInt8) : (wordF l).length ≤ 4 * l.length + 2 := by
  unfold wordF
  split
  · omega
  · exact quoteF_le l
theorem lens_words (ws : List (List UInt8)) : Lib.lens (ws.map wordF) ≤ 4 * Lib.lens ws + 2 * ws.length := by
  induction ws with
  | nil => simp [Lib.lens]
  | cons y r ih =>
    have := wordF_le y
    simp only [Lib.lens, List.map_cons, List.sum_cons, List.length_cons] at ih ⊢
    omega
theorem lineF_le (ws : List (List UInt8)) : (lineF ws).length ≤ 4 * Lib.lens ws + 3 * ws.length := by
  unfold lineF
  cases ws with
  | nil => simp [Lib.join_nil]
  | cons y r =>
    have := lens_words (y :: r)
    rw [List.map_cons] at this ⊢
    rw [Lib.join_length]
    simp only [List.length_cons, List.length_map, List.length_nil] at this ⊢
    omega
theorem mem_lens {x : List UInt8} {ws : List (List UInt8)} (h : x ∈ ws) : x.length ≤ Lib.lens ws := by
  induction ws with
  | nil => cases h
  | cons y r ih =>
    simp only [Lib.lens, List.map_cons, List.sum_cons] at ih ⊢
    rcases List.mem_cons.1 h with rfl | h
    · omega
    · have := ih h; omega

end Go.Proofs.YtcomcoolmabmgaaDoor

namespace Go.Proofs.YtcomcoolmabmgaaDoor
set_option linter.unnecessarySimpa false
open Go.RowKit Go.Shelf
set_option linter.unusedVariables false
set_option linter.unusedSimpArgs false
set_option maxRecDepth 100000

def rlnF (r : Rul) : List UInt8 := if chkR r = 0 then lineR r else []
theorem kw_ok {k : Int} (h : kw k ≠ []) : k = 1 ∨ k = 2 ∨ k = 3 := by
  rw [kw] at h
  by_cases h1 : k = 1
  · exact .inl h1
  · by_cases h2 : k = 2
    · exact .inr (.inl h2)
    · by_cases h3 : k = 3
      · exact .inr (.inr h3)
      · rw [if_neg h1, if_neg h2, if_neg h3] at h; exact absurd rfl h
theorem chk_ok {k : Int} {p q : List UInt8} (h : chkR (k, p, q) = 0) : kw k ≠ [] ∧ isP p = true ∧ isP q = true ∧ (k = 3 ∨ q = []) := by
  by_cases hc : kw k = [] ∨ isP p = false ∨ isP q = false ∨ (k ≠ 3 ∧ q ≠ [])
  · rw [chk_two k p q hc] at h; cases h
  · simp only [not_or, not_and, Decidable.not_not] at hc
    obtain ⟨h1, h2, h3, h4⟩ := hc
    refine ⟨h1, by simpa using h2, by simpa using h3, ?_⟩
    by_cases h5 : k = 3
    · exact .inl h5
    · exact .inr (h4 h5)
theorem chk_vals (r : Rul) : chkR r = 0 ∨ chkR r = 2 := by
  rw [chkR]; split
  · exact .inr rfl
  · exact .inl rfl
theorem drs_len {p : List UInt8} (h : p.length ≤ 200) : (drsF p).length ≤ 802 := by
  rw [drsF]
  by_cases h1 : p = []
  · rw [if_pos h1]; simp
  · rw [if_neg h1, wordF]
    have := quoteF_le p
    split <;> omega
theorem kw_len (k : Int) : (kw k).length ≤ 4 := by
  by_cases h : kw k = []
  · rw [h]; simp
  · rcases kw_ok h with h | h | h <;> subst h <;> decide
theorem line_len {r : Rul} (h : chkR r = 0) : (lineR r).length ≤ 1700 := by
  obtain ⟨k, p, q⟩ := r
  obtain ⟨h1, h2, h3, h4⟩ := chk_ok h
  have lp := drs_len (isP_len h2)
  have lq := drs_len (isP_len h3)
  have lk := kw_len k
  simp only [lineR, List.length_append, List.length_cons]
  split
  · simp only [List.length_cons]; omega
  · simp only [List.length_nil]; omega
theorem rlnF_len (r : Rul) : (rlnF r).length ≤ 1700 := by
  rw [rlnF]; split
  · exact line_len ‹_›
  · simp
theorem mkS_append (a b : List UInt8) : mkS (a ++ b) = mkS a ++ mkS b := by
  apply ByteArray.ext
  simp [mkS]
theorem add_mk (W : World) (a b : List UInt8) (h : a.length + b.length ≤ 9223372036854775807) : (Op.stringOp .add (mkS a) (mkS b)).run Tryd.prog W = .ok (.string (mkS (a ++ b))) W := by
  rw [run_string_add_sum W _ _ (by rw [mkS_size, mkS_size]; exact h), mkS_append]
theorem add_to (W : World) (a : List UInt8) (x : UInt8) (h : a.length + 1 ≤ 9223372036854775807) : (Op.stringOp .add (mkS a) ⟨#[x]⟩).run Tryd.prog W = .ok (.string (mkS (a ++ [x]))) W := add_mk W a [x] h
theorem add_at (W : World) (a : List UInt8) (x : UInt8) (h : a.length + 1 ≤ 9223372036854775807) : (Op.stringOp .add ⟨#[x]⟩ (mkS a)).run Tryd.prog W = .ok (.string (mkS ([x] ++ a))) W := add_mk W [x] a (by simp; omega)
theorem add_kw (W : World) (a : List UInt8) (x y z u v : UInt8) (h : a.length + 5 ≤ 9223372036854775807) : (Op.stringOp .add ⟨#[x, y, z, u, v]⟩ (mkS a)).run Tryd.prog W = .ok (.string (mkS ([x, y, z, u, v] ++ a))) W := add_mk W [x, y, z, u, v] a (by simp; omega)
set_option maxHeartbeats 1600000 in
theorem rline_calls (w : World) (k : Int) (p q : List UInt8) (hp : p.length ≤ 9223372036854775807) (hq : q.length ≤ 9223372036854775807) :
    Calls Tryd.prog 12 #[.agg #[.int .i64 k, .string (mkS p), .string (mkS q)]] w fun e w' => e = .returned (.tuple #[.string (mkS (rlnF (k, p, q))), .int .i64 (chkR (k, p, q))]) ∧ Chg No w w' := by
  have HC := Lib.hid fun W => rcheck_calls W k p q hp hq
  by_cases h0 : chkR (k, p, q) = 0
  · rw [h0] at HC
    obtain ⟨h1, h2, h3, h4⟩ := chk_ok h0
    have lp := isP_len h2
    have lq := isP_len h3
    have ldp := drs_len lp
    have ldq := drs_len lq
    have lk := kw_len k
    have HK := Lib.hid fun W => kword_calls W k
    have HP := Lib.hid fun W => dressed_calls W p (by omega)
    have HQ := Lib.hid fun W => dressed_calls W q (by omega)
    have HA : Hid (rlnF (k, p, q) = lineR (k, p, q)) := by rw [Hid, rlnF, if_pos h0]
    have HH := Lib.hid h0
    by_cases h5 : k = 3
    · have HN : Hid (rlnF (k, p, q) = (kw k ++ [32] ++ drsF p) ++ ([32] ++ drsF q)) := by rw [Hid, HA.out, lineR]; simp [h5]
      have b3 : (k == 3) = true := by simp [h5]
      clear h0 h1 h2 h3 h4 HA h5
      generalize kw k = a at *
      generalize drsF p = b at *
      generalize drsF q = c at *
      have a1 := fun W => add_to W a 32 (by omega)
      have a2 := fun W => add_mk W (a ++ [32]) b (by simp; omega)
      have a3 := fun W => add_at W c 32 (by omega)
      have a4 := fun W => add_mk W (a ++ [32] ++ b) ([32] ++ c) (by simp; omega)
      generalize a ++ [32] ++ b ++ ([32] ++ c) = z4 at *
      generalize a ++ [32] ++ b = z2 at *
      generalize a ++ [32] = z1 at *
      generalize [32] ++ c = z3 at *
      go_enter Tryd.func12, Tryd.ntmps12
      have G0 := heap_alloc_new w (.cells #[.int .i64 k, .string (mkS p), .string (mkS q)] 32)
      have HC0 : Hid (Chg No w (w.alloc (.cells #[.int .i64 k, .string (mkS p), .string (mkS q)] 32))) := (Chg.refl No w).alloc _
      go_wp2_with fail
      refine (HC.out _).mono ?_
      rintro e w1 ⟨rfl, hc1⟩
      have G1 := hc1.heap G0 (fun x => x)
      have HC1 := Lib.hid (HC0.out.no hc1)
      clear hc1
      obtain ⟨c10, c11, c12⟩ := heap3 G1
      go_upto_region 4 with fail
      have Gx : w1.drew.heap[w.heap.size]? = some (.cells #[.int .i64 k, .string (mkS p), .string (mkS q)] 32) := G1
      have HX : Hid (Chg No w w1.drew) := HC1.out.drew
      obtain ⟨x0, x1, x2⟩ := heap3 Gx
      clear c10 c11 c12
      refine wp_region_held_drew (S := (fun W => W.cell? ⟨w.heap.size, 0, none⟩ = some (.int .i64 k) ∧ W.cell? ⟨w.heap.size, 1, none⟩ = some (.string (mkS p)) ∧ W.cell? ⟨w.heap.size, 2, none⟩ = some (.string (mkS q)))) (by kernel_rfl) ⟨x0, x1, x2⟩ (fun hSw => ?_)
      refine wpAnyH_take (i := 0) (oi := { dst := some 11, op := Go.Op.fieldAddr 32 (Go.Operand.tmp 1) 0, type := 0, pos := "rule.go:51", after := #[], guard := none }) (v := ?_) rfl (by kernel_rfl) (by kernel_rfl) (by kernel_rfl) (fun _ _ _ h => h) (Or.inl ⟨by rfl, ?_⟩) hSw ?_
      rotate_left
      · (intro W hW; (try dsimp only at hW); obtain ⟨hq0, hq1, hq2⟩ := hW; go_simp; try with_reducible rfl)
      try simp only [Act.put, List.setIfInBounds_toArray, List.set_cons_zero, List.set_cons_succ]
      refine wpAnyH_take (i := 1) (oi := { dst := some 12, op := Go.Op.load 3 (Go.Operand.tmp 11), type := 3, pos := "rule.go:51", after := #[{ on := 0, ground := Go.Ground.data }], guard := none }) (v := ?_) rfl (by kernel_rfl) (by kernel_rfl) (by kernel_rfl) (fun _ _ _ h => h) (Or.inl ⟨by rfl, ?_⟩) hSw ?_
      rotate_left
      · (intro W hW; (try dsimp only at hW); obtain ⟨hq0, hq1, hq2⟩ := hW; go_simp; try with_reducible rfl)
      try simp only [Act.put, List.setIfInBounds_toArray, List.set_cons_zero, List.set_cons_succ]
      refine wpAnyH_take (i := 4) (oi := { dst := some 15, op := Go.Op.fieldAddr 32 (Go.Operand.tmp 1) 1, type := 0, pos := "rule.go:51", after := #[], guard := none }) (v := ?_) rfl (by kernel_rfl) (by kernel_rfl) (by kernel_rfl) (fun _ _ _ h => h) (Or.inl ⟨by rfl, ?_⟩) hSw ?_
      rotate_left
      · (intro W hW; (try dsimp only at hW); obtain ⟨hq0, hq1, hq2⟩ := hW; go_simp; try with_reducible rfl)
      try simp only [Act.put, List.setIfInBounds_toArray, List.set_cons_zero, List.set_cons_succ]
      refine wpAnyH_take (i := 5) (oi := { dst := some 16, op := Go.Op.load 9 (Go.Operand.tmp 15), type := 9, pos := "rule.go:51", after := #[{ on := 4, ground := Go.Ground.data }], guard := none }) (v := ?_) rfl (by kernel_rfl) (by kernel_rfl) (by kernel_rfl) (fun _ _ _ h => h) (Or.inl ⟨by rfl, ?_⟩) hSw ?_
      rotate_left
      · (intro W hW; (try dsimp only at hW); obtain ⟨hq0, hq1, hq2⟩ := hW; go_simp; try with_reducible rfl)
      try simp only [Act.put, List.setIfInBounds_toArray, List.set_cons_zero, List.set_cons_succ]
      refine wpAnyH_ready (rs := [2]) (by kernel_rfl) (by simp) ?_
      refine (AllReadyH.cons (o := { dst := some 13, op := Go.Op.call { callee := Go.Callee.value (Go.Operand.func 27), args := #[Go.Operand.tmp 12], argTypes := #[3] }, type := 9, pos := "rule.go:51", after := #[{ on := 1, ground := Go.Ground.data }], guard := none }) rfl (fun K hK => ?_) AllReadyH.nil)
      rw [if_pos (by rfl)]
      go_simp
      refine (HK.out _).mono ?_
      rintro e u2 ⟨rfl, hw⟩
      obtain rfl := hw
      have Gx2 := Gx
      have HX2 := HX
      obtain ⟨x20, x21, x22⟩ := heap3 Gx2
      refine hK.out _ _ ⟨x20, x21, x22⟩ (fun hSw => ?_)
      clear hK
      try simp only [Act.put, List.setIfInBounds_toArray, List.set_cons_zero, List.set_cons_succ]
      refine wpAnyH_take (i := 3) (oi := { dst := some 14, op := Go.Op.binOp Go.BinOp.add 9 (Go.Operand.tmp 13) (Go.Operand.const (Go.Value.string { data := #[32] })) 9, type := 9, pos := "rule.go:51", after := #[{ on := 2, ground := Go.Ground.data }], guard := none }) (v := ?_) rfl (by kernel_rfl) (by kernel_rfl) (by kernel_rfl) (fun _ _ _ h => h) (Or.inl ⟨by rfl, ?_⟩) hSw ?_
      rotate_left
      · (intro W hW; (try dsimp only at hW); obtain ⟨hq0, hq1, hq2⟩ := hW; go_simp; try with_reducible rfl)
      try simp only [Act.put, List.setIfInBounds_toArray, List.set_cons_zero, List.set_cons_succ]
      refine wpAnyH_ready (rs := [6]) (by kernel_rfl) (by simp) ?_
      refine (AllReadyH.cons (o := { dst := some 17, op := Go.Op.call { callee := Go.Callee.value (Go.Operand.func 28), args := #[Go.Operand.tmp 16], argTypes := #[9] }, type := 9, pos := "rule.go:51", after := #[{ on := 5, ground := Go.Ground.data }, { on := 2, ground := Go.Ground.chain }], guard := none }) rfl (fun K hK => ?_) AllReadyH.nil)
      rw [if_pos (by rfl)]
      go_simp
      refine (HP.out _).mono ?_
      rintro e u26 ⟨rfl, hc⟩
      have Gx26 := hc.heap Gx2 (fun x => x)
      have HX26 := Lib.hid (HX2.out.no hc)
      clear hc
      obtain ⟨x260, x261, x262⟩ := heap3 Gx26
      refine hK.out _ _ ⟨x260, x261, x262⟩ (fun hSw => ?_)
      clear hK
      try simp only [Act.put, List.setIfInBounds_toArray, List.set_cons_zero, List.set_cons_succ]
      refine wpAnyH_take (i := 7) (oi := { dst := some 18, op := Go.Op.binOp Go.BinOp.add 9 (Go.Operand.tmp 14) (Go.Operand.tmp 17) 9, type := 9, pos := "rule.go:51", after := #[{ on := 3, ground := Go.Ground.data }, { on := 6, ground := Go.Ground.data }], guard := none }) (v := ?_) rfl (by kernel_rfl) (by kernel_rfl) (by kernel_rfl) (fun _ _ _ h => h) (Or.inl ⟨by rfl, ?_⟩) hSw ?_
      rotate_left
      · (intro W hW; (try dsimp only at hW); obtain ⟨hq0, hq1, hq2⟩ := hW; go_simp; try with_reducible rfl)
      try simp only [Act.put, List.setIfInBounds_toArray, List.set_cons_zero, List.set_cons_succ]
      refine wpAnyH_take (i := 8) (oi := { dst := some 5, op := Go.Op.assign (Go.Operand.tmp 18), type := 9, pos := "rule.go:51", after := #[{ on := 7, ground := Go.Ground.data }, { on := 6, ground := Go.Ground.chain }, { on := 0, ground := Go.Ground.phase }, { on := 1, ground := Go.Ground.phase }, { on := 2, ground := Go.Ground.phase }, { on := 3, ground := Go.Ground.phase }, { on := 4, ground := Go.Ground.phase }, { on := 5, ground := Go.Ground.phase }, { on := 6, ground := Go.Ground.phase }, { on := 7, ground := Go.Ground.phase }], guard := none }) (v := ?_) rfl (by kernel_rfl) (by kernel_rfl) (by kernel_rfl) (fun _ _ _ h => h) (Or.inl ⟨by rfl, ?_⟩) hSw ?_
      rotate_left
      · (intro W hW; (try dsimp only at hW); obtain ⟨hq0, hq1, hq2⟩ := hW; go_simp; try with_reducible rfl)
      try simp only [Act.put, List.setIfInBounds_toArray, List.set_cons_zero, List.set_cons_succ]
      refine wpAnyH_done (by kernel_rfl) ?_ _
      go_wp2_with fail
      refine (HQ.out _).mono ?_
      rintro e w3 ⟨rfl, hc3⟩
      have HC3 := Lib.hid (HX26.out.no hc3)
      have G3 := hc3.heap Gx26 (fun x => x)
      clear hc3
      obtain ⟨c30, c31, c32⟩ := heap3 G3
      go_wp2
      go_ret2
      exact ⟨by rw [HN.out, HH.out]; try rfl, HC3.out⟩
    · have HN : Hid (rlnF (k, p, q) = kw k ++ [32] ++ drsF p) := by rw [Hid, HA.out, lineR]; simp [h5]
      have b3 : (k == 3) = false := beq_eq_false_iff_ne.2 h5
      clear h0 h1 h2 h3 h4 HA h5 HQ ldq
      generalize kw k = a at *
      generalize drsF p = b at *
      have a1 := fun W => add_to W a 32 (by omega)
      have a2 := fun W => add_mk W (a ++ [32]) b (by simp; omega)
      generalize a ++ [32] ++ b = z2 at *
      generalize a ++ [32] = z1 at *
      go_enter Tryd.func12, Tryd.ntmps12
      have G0 := heap_alloc_new w (.cells #[.int .i64 k, .string (mkS p), .string (mkS q)] 32)
      have HC0 : Hid (Chg No w (w.alloc (.cells #[.int .i64 k, .string (mkS p), .string (mkS q)] 32))) := (Chg.refl No w).alloc _
      go_wp2_with fail
      refine (HC.out _).mono ?_
      rintro e w1 ⟨rfl, hc1⟩
      have G1 := hc1.heap G0 (fun x => x)
      have HC1 := Lib.hid (HC0.out.no hc1)
      clear hc1
      obtain ⟨c10, c11, c12⟩ := heap3 G1
      go_upto_region 4 with fail
      have Gx : w1.drew.heap[w.heap.size]? = some (.cells #[.int .i64 k, .string (mkS p), .string (mkS q)] 32) := G1
      have HX : Hid (Chg No w w1.drew) := HC1.out.drew
      obtain ⟨x0, x1, x2⟩ := heap3 Gx
      clear c10 c11 c12
      refine wp_region_held_drew (S := (fun W => W.cell? ⟨w.heap.size, 0, none⟩ = some (.int .i64 k) ∧ W.cell? ⟨w.heap.size, 1, none⟩ = some (.string (mkS p)) ∧ W.cell? ⟨w.heap.size, 2, none⟩ = some (.string (mkS q)))) (by kernel_rfl) ⟨x0, x1, x2⟩ (fun hSw => ?_)
      refine wpAnyH_take (i := 0) (oi := { dst := some 11, op := Go.Op.fieldAddr 32 (Go.Operand.tmp 1) 0, type := 0, pos := "rule.go:51", after := #[], guard := none }) (v := ?_) rfl (by kernel_rfl) (by kernel_rfl) (by kernel_rfl) (fun _ _ _ h => h) (Or.inl ⟨by rfl, ?_⟩) hSw ?_
      rotate_left
      · (intro W hW; (try dsimp only at hW); obtain ⟨hq0, hq1, hq2⟩ := hW; go_simp; try with_reducible rfl)
      try simp only [Act.put, List.setIfInBounds_toArray, List.set_cons_zero, List.set_cons_succ]
      refine wpAnyH_take (i := 1) (oi := { dst := some 12, op := Go.Op.load 3 (Go.Operand.tmp 11), type := 3, pos := "rule.go:51", after := #[{ on := 0, ground := Go.Ground.data }], guard := none }) (v := ?_) rfl (by kernel_rfl) (by kernel_rfl) (by kernel_rfl) (fun _ _ _ h => h) (Or.inl ⟨by rfl, ?_⟩) hSw ?_
      rotate_left
      · (intro W hW; (try dsimp only at hW); obtain ⟨hq0, hq1, hq2⟩ := hW; go_simp; try with_reducible rfl)
      try simp only [Act.put, List.setIfInBounds_toArray, List.set_cons_zero, List.set_cons_succ]
      refine wpAnyH_take (i := 4) (oi := { dst := some 15, op := Go.Op.fieldAddr 32 (Go.Operand.tmp 1) 1, type := 0, pos := "rule.go:51", after := #[], guard := none }) (v := ?_) rfl (by kernel_rfl) (by kernel_rfl) (by kernel_rfl) (fun _ _ _ h => h) (Or.inl ⟨by rfl, ?_⟩) hSw ?_
      rotate_left
      · (intro W hW; (try dsimp only at hW); obtain ⟨hq0, hq1, hq2⟩ := hW; go_simp; try with_reducible rfl)
      try simp only [Act.put, List.setIfInBounds_toArray, List.set_cons_zero, List.set_cons_succ]
      refine wpAnyH_take (i := 5) (oi := { dst := some 16, op := Go.Op.load 9 (Go.Operand.tmp 15), type := 9, pos := "rule.go:51", after := #[{ on := 4, ground := Go.Ground.data }], guard := none }) (v := ?_) rfl (by kernel_rfl) (by kernel_rfl) (by kernel_rfl) (fun _ _ _ h => h) (Or.inl ⟨by rfl, ?_⟩) hSw ?_
      rotate_left
      · (intro W hW; (try dsimp only at hW); obtain ⟨hq0, hq1, hq2⟩ := hW; go_simp; try with_reducible rfl)
      try simp only [Act.put, List.setIfInBounds_toArray, List.set_cons_zero, List.set_cons_succ]
      refine wpAnyH_ready (rs := [2]) (by kernel_rfl) (by simp) ?_
      refine (AllReadyH.cons (o := { dst := some 13, op := Go.Op.call { callee := Go.Callee.value (Go.Operand.func 27), args := #[Go.Operand.tmp 12], argTypes := #[3] }, type := 9, pos := "rule.go:51", after := #[{ on := 1, ground := Go.Ground.data }], guard := none }) rfl (fun K hK => ?_) AllReadyH.nil)
      rw [if_pos (by rfl)]
      go_simp
      refine (HK.out _).mono ?_
      rintro e u2 ⟨rfl, hw⟩
      obtain rfl := hw
      have Gx2 := Gx
      have HX2 := HX
      obtain ⟨x20, x21, x22⟩ := heap3 Gx2
      refine hK.out _ _ ⟨x20, x21, x22⟩ (fun hSw => ?_)
      clear hK
      try simp only [Act.put, List.setIfInBounds_toArray, List.set_cons_zero, List.set_cons_succ]
      refine wpAnyH_take (i := 3) (oi := { dst := some 14, op := Go.Op.binOp Go.BinOp.add 9 (Go.Operand.tmp 13) (Go.Operand.const (Go.Value.string { data := #[32] })) 9, type := 9, pos := "rule.go:51", after := #[{ on := 2, ground := Go.Ground.data }], guard := none }) (v := ?_) rfl (by kernel_rfl) (by kernel_rfl) (by kernel_rfl) (fun _ _ _ h => h) (Or.inl ⟨by rfl, ?_⟩) hSw ?_
      rotate_left
      · (intro W hW; (try dsimp only at hW); obtain ⟨hq0, hq1, hq2⟩ := hW; go_simp; try with_reducible rfl)
      try simp only [Act.put, List.setIfInBounds_toArray, List.set_cons_zero, List.set_cons_succ]
      refine wpAnyH_ready (rs := [6]) (by kernel_rfl) (by simp) ?_
      refine (AllReadyH.cons (o := { dst := some 17, op := Go.Op.call { callee := Go.Callee.value (Go.Operand.func 28), args := #[Go.Operand.tmp 16], argTypes := #[9] }, type := 9, pos := "rule.go:51", after := #[{ on := 5, ground := Go.Ground.data }, { on := 2, ground := Go.Ground.chain }], guard := none }) rfl (fun K hK => ?_) AllReadyH.nil)
      rw [if_pos (by rfl)]
      go_simp
      refine (HP.out _).mono ?_
      rintro e u26 ⟨rfl, hc⟩
      have Gx26 := hc.heap Gx2 (fun x => x)
      have HX26 := Lib.hid (HX2.out.no hc)
      clear hc
      obtain ⟨x260, x261, x262⟩ := heap3 Gx26
      refine hK.out _ _ ⟨x260, x261, x262⟩ (fun hSw => ?_)
      clear hK
      try simp only [Act.put, List.setIfInBounds_toArray, List.set_cons_zero, List.set_cons_succ]
      refine wpAnyH_take (i := 7) (oi := { dst := some 18, op := Go.Op.binOp Go.BinOp.add 9 (Go.Operand.tmp 14) (Go.Operand.tmp 17) 9, type := 9, pos := "rule.go:51", after := #[{ on := 3, ground := Go.Ground.data }, { on := 6, ground := Go.Ground.data }], guard := none }) (v := ?_) rfl (by kernel_rfl) (by kernel_rfl) (by kernel_rfl) (fun _ _ _ h => h) (Or.inl ⟨by rfl, ?_⟩) hSw ?_
      rotate_left
      · (intro W hW; (try dsimp only at hW); obtain ⟨hq0, hq1, hq2⟩ := hW; go_simp; try with_reducible rfl)
      try simp only [Act.put, List.setIfInBounds_toArray, List.set_cons_zero, List.set_cons_succ]
      refine wpAnyH_take (i := 8) (oi := { dst := some 5, op := Go.Op.assign (Go.Operand.tmp 18), type := 9, pos := "rule.go:51", after := #[{ on := 7, ground := Go.Ground.data }, { on := 6, ground := Go.Ground.chain }, { on := 0, ground := Go.Ground.phase }, { on := 1, ground := Go.Ground.phase }, { on := 2, ground := Go.Ground.phase }, { on := 3, ground := Go.Ground.phase }, { on := 4, ground := Go.Ground.phase }, { on := 5, ground := Go.Ground.phase }, { on := 6, ground := Go.Ground.phase }, { on := 7, ground := Go.Ground.phase }], guard := none }) (v := ?_) rfl (by kernel_rfl) (by kernel_rfl) (by kernel_rfl) (fun _ _ _ h => h) (Or.inl ⟨by rfl, ?_⟩) hSw ?_
      rotate_left
      · (intro W hW; (try dsimp only at hW); obtain ⟨hq0, hq1, hq2⟩ := hW; go_simp; try with_reducible rfl)
      try simp only [Act.put, List.setIfInBounds_toArray, List.set_cons_zero, List.set_cons_succ]
      refine wpAnyH_done (by kernel_rfl) ?_ _
      go_wp2
      go_ret2
      exact ⟨by rw [HN.out, HH.out]; try rfl, HX26.out⟩
  · have h2 : chkR (k, p, q) = 2 := (chk_vals _).resolve_left h0
    have HN : Hid (rlnF (k, p, q) = []) := by rw [Hid, rlnF, if_neg h0]
    rw [h2] at HC
    have HH := Lib.hid h2
    clear h0 h2
    go_enter Tryd.func12, Tryd.ntmps12
    have G0 := heap_alloc_new w (.cells #[.int .i64 k, .string (mkS p), .string (mkS q)] 32)
    have HC0 : Hid (Chg No w (w.alloc (.cells #[.int .i64 k, .string (mkS p), .string (mkS q)] 32))) := (Chg.refl No w).alloc _
    go_wp2_with fail
    refine (HC.out _).mono ?_
    rintro e w1 ⟨rfl, hc1⟩
    have G1 := hc1.heap G0 (fun x => x)
    have HC1 := Lib.hid (HC0.out.no hc1)
    clear hc1
    obtain ⟨c10, c11, c12⟩ := heap3 G1
    go_wp2
    go_ret2
    exact ⟨by rw [HN.out, HH.out]; try rfl, HC1.out⟩
set_option maxHeartbeats 1600000 in
theorem refright_calls13 (w : World) (k : Int) (p q : List UInt8) (hp : p.length ≤ 9223372036854775807) (hq : q.length ≤ 9223372036854775807) :
    Calls Tryd.prog 13 #[.agg #[.int .i64 k, .string (mkS p), .string (mkS q)]] w fun e w' => e = .returned (.bool (decide (chkR (k, p, q) = 0))) ∧ Chg No w w' := by
  have HP := Lib.hid fun W => wrong_calls W p hp
  have HQ := Lib.hid fun W => wrong_calls W q hq
  by_cases h1 : k < 1
  · have hk : kw k = [] := by rw [kw, if_neg (by omega), if_neg (by omega), if_neg (by omega)]
    have HN : Hid (decide (chkR (k, p, q) = 0) = false) := by rw [Hid, chk_two k p q (.inl hk)]; rfl
    have b1 : decide (k < 1) = true := decide_eq_true h1
    clear hk
    go_enter Tryd.func13, Tryd.ntmps13
    have G0 := heap_alloc_new w (.cells #[.int .i64 k, .string (mkS p), .string (mkS q)] 32)
    have HC0 : Hid (Chg No w (w.alloc (.cells #[.int .i64 k, .string (mkS p), .string (mkS q)] 32))) := (Chg.refl No w).alloc _
    go_wp2
    go_ret
    exact ⟨by rw [HN.out]; try rfl, HC0.out⟩
  by_cases h2 : 3 < k
  · have hk : kw k = [] := by rw [kw, if_neg (by omega), if_neg (by omega), if_neg (by omega)]
    have HN : Hid (decide (chkR (k, p, q) = 0) = false) := by rw [Hid, chk_two k p q (.inl hk)]; rfl
    clear hk
    go_enter Tryd.func13, Tryd.ntmps13
    have G0 := heap_alloc_new w (.cells #[.int .i64 k, .string (mkS p), .string (mkS q)] 32)
    have HC0 : Hid (Chg No w (w.alloc (.cells #[.int .i64 k, .string (mkS p), .string (mkS q)] 32))) := (Chg.refl No w).alloc _
    go_wp2
    go_ret
    exact ⟨by rw [HN.out]; try rfl, HC0.out⟩
  have hkk : k = 1 ∨ k = 2 ∨ k = 3 := by omega
  have hk : kw k ≠ [] := by rcases hkk with h | h | h <;> subst h <;> decide
  generalize hp1 : isP p = zp at HP
  generalize hq1 : isP q = zq at HQ
  cases zp with
  | false =>
    have HN : Hid (decide (chkR (k, p, q) = 0) = false) := by rw [Hid, chk_two k p q (.inr (.inl hp1))]; rfl
    clear hk hkk hp1 hq1
    go_enter Tryd.func13, Tryd.ntmps13
    have G0 := heap_alloc_new w (.cells #[.int .i64 k, .string (mkS p), .string (mkS q)] 32)
    have HC0 : Hid (Chg No w (w.alloc (.cells #[.int .i64 k, .string (mkS p), .string (mkS q)] 32))) := (Chg.refl No w).alloc _
    go_wp2_with fail
    refine (HP.out _).mono ?_
    rintro e w1 ⟨rfl, hc1⟩
    have G1 := hc1.heap G0 (fun x => x)
    have HC1 := Lib.hid (HC0.out.no hc1)
    clear hc1
    obtain ⟨c10, c11, c12⟩ := heap3 G1
    go_wp2
    go_ret
    exact ⟨by rw [HN.out]; try rfl, HC1.out⟩
  | true =>
    cases zq with
    | false =>
      have HN : Hid (decide (chkR (k, p, q) = 0) = false) := by rw [Hid, chk_two k p q (.inr (.inr (.inl hq1)))]; rfl
      clear hk hkk hp1 hq1
      go_enter Tryd.func13, Tryd.ntmps13
      have G0 := heap_alloc_new w (.cells #[.int .i64 k, .string (mkS p), .string (mkS q)] 32)
      have HC0 : Hid (Chg No w (w.alloc (.cells #[.int .i64 k, .string (mkS p), .string (mkS q)] 32))) := (Chg.refl No w).alloc _
      go_wp2_with fail
      refine (HP.out _).mono ?_
      rintro e w1 ⟨rfl, hc1⟩
      have G1 := hc1.heap G0 (fun x => x)
      have HC1 := Lib.hid (HC0.out.no hc1)
      clear hc1
      obtain ⟨c10, c11, c12⟩ := heap3 G1
      go_wp2_with fail
      refine (HQ.out _).mono ?_
      rintro e w2 ⟨rfl, hc2⟩
      have G2 := hc2.heap G1 (fun x => x)
      have HC2 := Lib.hid (HC1.out.no hc2)
      clear hc2
      obtain ⟨c20, c21, c22⟩ := heap3 G2
      go_wp2
      go_ret
      exact ⟨by rw [HN.out]; try rfl, HC2.out⟩
    | true =>
      by_cases h3 : k = 3
      · have HN : Hid (decide (chkR (k, p, q) = 0) = true) := by rw [Hid, chk_zero k p q hk hp1 hq1 (.inl h3)]; rfl
        have b3 : (k == 3) = true := by simp [h3]
        clear hk hkk hp1 hq1 h3
        go_enter Tryd.func13, Tryd.ntmps13
        have G0 := heap_alloc_new w (.cells #[.int .i64 k, .string (mkS p), .string (mkS q)] 32)
        have HC0 : Hid (Chg No w (w.alloc (.cells #[.int .i64 k, .string (mkS p), .string (mkS q)] 32))) := (Chg.refl No w).alloc _
        go_wp2_with fail
        refine (HP.out _).mono ?_
        rintro e w1 ⟨rfl, hc1⟩
        have G1 := hc1.heap G0 (fun x => x)
        have HC1 := Lib.hid (HC0.out.no hc1)
        clear hc1
        obtain ⟨c10, c11, c12⟩ := heap3 G1
        go_wp2_with fail
        refine (HQ.out _).mono ?_
        rintro e w2 ⟨rfl, hc2⟩
        have G2 := hc2.heap G1 (fun x => x)
        have HC2 := Lib.hid (HC1.out.no hc2)
        clear hc2
        obtain ⟨c20, c21, c22⟩ := heap3 G2
        go_wp2
        go_ret
        exact ⟨by rw [HN.out]; try rfl, HC2.out⟩
      · have b3 : (k == 3) = false := beq_eq_false_iff_ne.2 h3
        by_cases h4 : q = []
        · have HN : Hid (decide (chkR (k, p, q) = 0) = true) := by rw [Hid, chk_zero k p q hk hp1 hq1 (.inr h4)]; rfl
          have m2 : ((mkS q).toList == []) = true := by rw [Lib.toList_data, mkS_list, h4]; rfl
          have m3 : (mkS q).toList = [] := by rw [Lib.toList_data, mkS_list, h4]
          have m4 : (mkS q).toList.isEmpty = true := by rw [m3]; rfl
          clear hk hkk hp1 hq1 h3 h4
          go_enter Tryd.func13, Tryd.ntmps13
          have G0 := heap_alloc_new w (.cells #[.int .i64 k, .string (mkS p), .string (mkS q)] 32)
          have HC0 : Hid (Chg No w (w.alloc (.cells #[.int .i64 k, .string (mkS p), .string (mkS q)] 32))) := (Chg.refl No w).alloc _
          go_wp2_with fail
          refine (HP.out _).mono ?_
          rintro e w1 ⟨rfl, hc1⟩
          have G1 := hc1.heap G0 (fun x => x)
          have HC1 := Lib.hid (HC0.out.no hc1)
          clear hc1
          obtain ⟨c10, c11, c12⟩ := heap3 G1
          go_wp2_with fail
          refine (HQ.out _).mono ?_
          rintro e w2 ⟨rfl, hc2⟩
          have G2 := hc2.heap G1 (fun x => x)
          have HC2 := Lib.hid (HC1.out.no hc2)
          clear hc2
          obtain ⟨c20, c21, c22⟩ := heap3 G2
          go_wp2
          go_ret
          exact ⟨by rw [HN.out]; try rfl, HC2.out⟩
        · have HN : Hid (decide (chkR (k, p, q) = 0) = false) := by rw [Hid, chk_two k p q (.inr (.inr (.inr ⟨h3, h4⟩)))]; rfl
          have m2 : ((mkS q).toList == []) = false := bytes_ne (by rw [mkS_list]; exact h4)
          have m4 : (mkS q).toList.isEmpty = false := list_ne h4
          have m3 : ¬ (mkS q).toList = [] := by rw [Lib.toList_data, mkS_list]; exact h4
          clear hk hkk hp1 hq1 h3 h4
          go_enter Tryd.func13, Tryd.ntmps13
          have G0 := heap_alloc_new w (.cells #[.int .i64 k, .string (mkS p), .string (mkS q)] 32)
          have HC0 : Hid (Chg No w (w.alloc (.cells #[.int .i64 k, .string (mkS p), .string (mkS q)] 32))) := (Chg.refl No w).alloc _
          go_wp2_with fail
          refine (HP.out _).mono ?_
          rintro e w1 ⟨rfl, hc1⟩
          have G1 := hc1.heap G0 (fun x => x)
          have HC1 := Lib.hid (HC0.out.no hc1)
          clear hc1
          obtain ⟨c10, c11, c12⟩ := heap3 G1
          go_wp2_with fail
          refine (HQ.out _).mono ?_
          rintro e w2 ⟨rfl, hc2⟩
          have G2 := hc2.heap G1 (fun x => x)
          have HC2 := Lib.hid (HC1.out.no hc2)
          clear hc2
          obtain ⟨c20, c21, c22⟩ := heap3 G2
          go_wp2
          go_ret
          exact ⟨by rw [HN.out]; try rfl, HC2.out⟩
set_option maxHeartbeats 1600000 in
theorem refline_calls (w : World) (k : Int) (p q : List UInt8) (h0 : chkR (k, p, q) = 0) :
    Calls Tryd.prog 15 #[.agg #[.int .i64 k, .string (mkS p), .string (mkS q)]] w fun e w' => e = .returned (.string (mkS (rlnF (k, p, q)))) ∧ Chg No w w' := by
  obtain ⟨h1, h2, h3, h4⟩ := chk_ok h0
  have lp := isP_len h2
  have lq := isP_len h3
  have ldp := drs_len lp
  have ldq := drs_len lq
  have HP := Lib.hid fun W => refword_calls W p (by omega)
  have HQ := Lib.hid fun W => refword_calls W q (by omega)
  have HA : Hid (rlnF (k, p, q) = lineR (k, p, q)) := by rw [Hid, rlnF, if_pos h0]
  rcases kw_ok h1 with h5 | h5 | h5
  · subst h5
    have HN : Hid (rlnF (1, p, q) = [107, 101, 101, 112, 32] ++ drsF p) := by rw [Hid, HA.out, lineR]; simp [kw]
    clear h0 h1 h2 h3 h4 HA HQ ldq
    generalize drsF p = b at *
    have a1 := fun W => add_kw W b 107 101 101 112 32 (by omega)
    generalize [107, 101, 101, 112, 32] ++ b = z1 at *
    go_enter Tryd.func15, Tryd.ntmps15
    have G0 := heap_alloc_new w (.cells #[.int .i64 1, .string (mkS p), .string (mkS q)] 32)
    have HC0 : Hid (Chg No w (w.alloc (.cells #[.int .i64 1, .string (mkS p), .string (mkS q)] 32))) := (Chg.refl No w).alloc _
    go_wp2_with fail
    refine (HP.out _).mono ?_
    rintro e w1 ⟨rfl, hc1⟩
    have G1 := hc1.heap G0 (fun x => x)
    have HC1 := Lib.hid (HC0.out.no hc1)
    clear hc1
    obtain ⟨c10, c11, c12⟩ := heap3 G1
    go_wp2
    go_ret
    exact ⟨by rw [HN.out]; try rfl, HC1.out⟩
  · subst h5
    have HN : Hid (rlnF (2, p, q) = [100, 114, 111, 112, 32] ++ drsF p) := by rw [Hid, HA.out, lineR]; simp [kw]
    clear h0 h1 h2 h3 h4 HA HQ ldq
    generalize drsF p = b at *
    have a1 := fun W => add_kw W b 100 114 111 112 32 (by omega)
    generalize [100, 114, 111, 112, 32] ++ b = z1 at *
    go_enter Tryd.func15, Tryd.ntmps15
    have G0 := heap_alloc_new w (.cells #[.int .i64 2, .string (mkS p), .string (mkS q)] 32)
    have HC0 : Hid (Chg No w (w.alloc (.cells #[.int .i64 2, .string (mkS p), .string (mkS q)] 32))) := (Chg.refl No w).alloc _
    go_wp2_with fail
    refine (HP.out _).mono ?_
    rintro e w1 ⟨rfl, hc1⟩
    have G1 := hc1.heap G0 (fun x => x)
    have HC1 := Lib.hid (HC0.out.no hc1)
    clear hc1
    obtain ⟨c10, c11, c12⟩ := heap3 G1
    go_wp2
    go_ret
    exact ⟨by rw [HN.out]; try rfl, HC1.out⟩
  · subst h5
    have HN : Hid (rlnF (3, p, q) = [109, 111, 118, 101, 32] ++ drsF p ++ [32] ++ drsF q) := by rw [Hid, HA.out, lineR]; simp [kw]
    clear h0 h1 h2 h3 h4 HA
    generalize drsF p = b at *
    generalize drsF q = c at *
    have a1 := fun W => add_kw W b 109 111 118 101 32 (by omega)
    have a2 := fun W => add_to W ([109, 111, 118, 101, 32] ++ b) 32 (by simp; omega)
    have a3 := fun W => add_mk W ([109, 111, 118, 101, 32] ++ b ++ [32]) c (by simp; omega)
    generalize [109, 111, 118, 101, 32] ++ b ++ [32] ++ c = z3 at *
    generalize [109, 111, 118, 101, 32] ++ b ++ [32] = z2 at *
    generalize [109, 111, 118, 101, 32] ++ b = z1 at *
    go_enter Tryd.func15, Tryd.ntmps15
    have G0 := heap_alloc_new w (.cells #[.int .i64 3, .string (mkS p), .string (mkS q)] 32)
    have HC0 : Hid (Chg No w (w.alloc (.cells #[.int .i64 3, .string (mkS p), .string (mkS q)] 32))) := (Chg.refl No w).alloc _
    have G1 := G0
    have HC1 := HC0
    obtain ⟨c10, c11, c12⟩ := heap3 G1
    go_upto_region 5 with fail
    have Gx : (w.alloc (.cells #[.int .i64 3, .string (mkS p), .string (mkS q)] 32)).drew.heap[w.heap.size]? = some (.cells #[.int .i64 3, .string (mkS p), .string (mkS q)] 32) := G1
    have HX : Hid (Chg No w (w.alloc (.cells #[.int .i64 3, .string (mkS p), .string (mkS q)] 32)).drew) := HC1.out.drew
    obtain ⟨x0, x1, x2⟩ := heap3 Gx
    clear c10 c11 c12
    refine wp_region_held_drew (S := (fun W => W.cell? ⟨w.heap.size, 0, none⟩ = some (.int .i64 3) ∧ W.cell? ⟨w.heap.size, 1, none⟩ = some (.string (mkS p)) ∧ W.cell? ⟨w.heap.size, 2, none⟩ = some (.string (mkS q)))) (by kernel_rfl) ⟨x0, x1, x2⟩ (fun hSw => ?_)
    refine wpAnyH_take (i := 0) (oi := { dst := some 17, op := Go.Op.fieldAddr 32 (Go.Operand.tmp 1) 1, type := 0, pos := "ref.go:37", after := #[], guard := none }) (v := ?_) rfl (by kernel_rfl) (by kernel_rfl) (by kernel_rfl) (fun _ _ _ h => h) (Or.inl ⟨by rfl, ?_⟩) hSw ?_
    rotate_left
    · (intro W hW; (try dsimp only at hW); obtain ⟨hq0, hq1, hq2⟩ := hW; go_simp; try with_reducible rfl)
    try simp only [Act.put, List.setIfInBounds_toArray, List.set_cons_zero, List.set_cons_succ]
    refine wpAnyH_take (i := 1) (oi := { dst := some 18, op := Go.Op.load 9 (Go.Operand.tmp 17), type := 9, pos := "ref.go:37", after := #[{ on := 0, ground := Go.Ground.data }], guard := none }) (v := ?_) rfl (by kernel_rfl) (by kernel_rfl) (by kernel_rfl) (fun _ _ _ h => h) (Or.inl ⟨by rfl, ?_⟩) hSw ?_
    rotate_left
    · (intro W hW; (try dsimp only at hW); obtain ⟨hq0, hq1, hq2⟩ := hW; go_simp; try with_reducible rfl)
    try simp only [Act.put, List.setIfInBounds_toArray, List.set_cons_zero, List.set_cons_succ]
    refine wpAnyH_take (i := 5) (oi := { dst := some 22, op := Go.Op.fieldAddr 32 (Go.Operand.tmp 1) 2, type := 0, pos := "ref.go:37", after := #[], guard := none }) (v := ?_) rfl (by kernel_rfl) (by kernel_rfl) (by kernel_rfl) (fun _ _ _ h => h) (Or.inl ⟨by rfl, ?_⟩) hSw ?_
    rotate_left
    · (intro W hW; (try dsimp only at hW); obtain ⟨hq0, hq1, hq2⟩ := hW; go_simp; try with_reducible rfl)
    try simp only [Act.put, List.setIfInBounds_toArray, List.set_cons_zero, List.set_cons_succ]
    refine wpAnyH_take (i := 6) (oi := { dst := some 23, op := Go.Op.load 9 (Go.Operand.tmp 22), type := 9, pos := "ref.go:37", after := #[{ on := 5, ground := Go.Ground.data }], guard := none }) (v := ?_) rfl (by kernel_rfl) (by kernel_rfl) (by kernel_rfl) (fun _ _ _ h => h) (Or.inl ⟨by rfl, ?_⟩) hSw ?_
    rotate_left
    · (intro W hW; (try dsimp only at hW); obtain ⟨hq0, hq1, hq2⟩ := hW; go_simp; try with_reducible rfl)
    try simp only [Act.put, List.setIfInBounds_toArray, List.set_cons_zero, List.set_cons_succ]
    refine wpAnyH_ready (rs := [2]) (by kernel_rfl) (by simp) ?_
    refine (AllReadyH.cons (o := { dst := some 19, op := Go.Op.call { callee := Go.Callee.value (Go.Operand.func 31), args := #[Go.Operand.tmp 18], argTypes := #[9] }, type := 9, pos := "ref.go:37", after := #[{ on := 1, ground := Go.Ground.data }], guard := none }) rfl (fun K hK => ?_) AllReadyH.nil)
    rw [if_pos (by rfl)]
    go_simp
    refine (HP.out _).mono ?_
    rintro e u2 ⟨rfl, hc⟩
    have Gx2 := hc.heap Gx (fun x => x)
    have HX2 := Lib.hid (HX.out.no hc)
    clear hc
    obtain ⟨x20, x21, x22⟩ := heap3 Gx2
    refine hK.out _ _ ⟨x20, x21, x22⟩ (fun hSw => ?_)
    clear hK
    try simp only [Act.put, List.setIfInBounds_toArray, List.set_cons_zero, List.set_cons_succ]
    refine wpAnyH_take (i := 3) (oi := { dst := some 20, op := Go.Op.binOp Go.BinOp.add 9 (Go.Operand.const (Go.Value.string { data := #[109, 111, 118, 101, 32] })) (Go.Operand.tmp 19) 9, type := 9, pos := "ref.go:37", after := #[{ on := 2, ground := Go.Ground.data }], guard := none }) (v := ?_) rfl (by kernel_rfl) (by kernel_rfl) (by kernel_rfl) (fun _ _ _ h => h) (Or.inl ⟨by rfl, ?_⟩) hSw ?_
    rotate_left
    · (intro W hW; (try dsimp only at hW); obtain ⟨hq0, hq1, hq2⟩ := hW; go_simp; try with_reducible rfl)
    try simp only [Act.put, List.setIfInBounds_toArray, List.set_cons_zero, List.set_cons_succ]
    refine wpAnyH_take (i := 4) (oi := { dst := some 21, op := Go.Op.binOp Go.BinOp.add 9 (Go.Operand.tmp 20) (Go.Operand.const (Go.Value.string { data := #[32] })) 9, type := 9, pos := "ref.go:37", after := #[{ on := 3, ground := Go.Ground.data }], guard := none }) (v := ?_) rfl (by kernel_rfl) (by kernel_rfl) (by kernel_rfl) (fun _ _ _ h => h) (Or.inl ⟨by rfl, ?_⟩) hSw ?_
    rotate_left
    · (intro W hW; (try dsimp only at hW); obtain ⟨hq0, hq1, hq2⟩ := hW; go_simp; try with_reducible rfl)
    try simp only [Act.put, List.setIfInBounds_toArray, List.set_cons_zero, List.set_cons_succ]
    refine wpAnyH_ready (rs := [7]) (by kernel_rfl) (by simp) ?_
    refine (AllReadyH.cons (o := { dst := some 24, op := Go.Op.call { callee := Go.Callee.value (Go.Operand.func 31), args := #[Go.Operand.tmp 23], argTypes := #[9] }, type := 9, pos := "ref.go:37", after := #[{ on := 6, ground := Go.Ground.data }, { on := 2, ground := Go.Ground.chain }], guard := none }) rfl (fun K hK => ?_) AllReadyH.nil)
    rw [if_pos (by rfl)]
    go_simp
    refine (HQ.out _).mono ?_
    rintro e u27 ⟨rfl, hc⟩
    have Gx27 := hc.heap Gx2 (fun x => x)
    have HX27 := Lib.hid (HX2.out.no hc)
    clear hc
    obtain ⟨x270, x271, x272⟩ := heap3 Gx27
    refine hK.out _ _ ⟨x270, x271, x272⟩ (fun hSw => ?_)
    clear hK
    try simp only [Act.put, List.setIfInBounds_toArray, List.set_cons_zero, List.set_cons_succ]
    refine wpAnyH_take (i := 8) (oi := { dst := some 25, op := Go.Op.binOp Go.BinOp.add 9 (Go.Operand.tmp 21) (Go.Operand.tmp 24) 9, type := 9, pos := "ref.go:37", after := #[{ on := 4, ground := Go.Ground.data }, { on := 7, ground := Go.Ground.data }], guard := none }) (v := ?_) rfl (by kernel_rfl) (by kernel_rfl) (by kernel_rfl) (fun _ _ _ h => h) (Or.inl ⟨by rfl, ?_⟩) hSw ?_
    rotate_left
    · (intro W hW; (try dsimp only at hW); obtain ⟨hq0, hq1, hq2⟩ := hW; go_simp; try with_reducible rfl)
    try simp only [Act.put, List.setIfInBounds_toArray, List.set_cons_zero, List.set_cons_succ]
    refine wpAnyH_take (i := 9) (oi := { dst := some 2, op := Go.Op.assign (Go.Operand.tmp 25), type := 9, pos := "ref.go:37", after := #[{ on := 8, ground := Go.Ground.data }, { on := 7, ground := Go.Ground.chain }, { on := 0, ground := Go.Ground.phase }, { on := 1, ground := Go.Ground.phase }, { on := 2, ground := Go.Ground.phase }, { on := 3, ground := Go.Ground.phase }, { on := 4, ground := Go.Ground.phase }, { on := 5, ground := Go.Ground.phase }, { on := 6, ground := Go.Ground.phase }, { on := 7, ground := Go.Ground.phase }, { on := 8, ground := Go.Ground.phase }], guard := none }) (v := ?_) rfl (by kernel_rfl) (by kernel_rfl) (by kernel_rfl) (fun _ _ _ h => h) (Or.inl ⟨by rfl, ?_⟩) hSw ?_
    rotate_left
    · (intro W hW; (try dsimp only at hW); obtain ⟨hq0, hq1, hq2⟩ := hW; go_simp; try with_reducible rfl)
    try simp only [Act.put, List.setIfInBounds_toArray, List.set_cons_zero, List.set_cons_succ]
    refine wpAnyH_done (by kernel_rfl) ?_ _
    go_wp2
    go_ret
    exact ⟨by rw [HN.out]; try rfl, HX27.out⟩
end Go.Proofs.YtcomcoolmabmgaaDoor

namespace Go.Proofs
set_option linter.unnecessarySimpa false
open Go.Shelf
set_option maxRecDepth 100000
def Tryd.lays166_ren : Go.Shelf.Ren := ⟨fun | 166 => 32 | 240 => 54 | 276 => 70 | n => n, fun | 0 => 0 | 3 => 3 | 4 => 4 | 9 => 9 | 20 => 20 | 37 => 57 | 70 => 56 | 72 => 59 | 75 => 61 | 80 => 64 | 164 => 84 | 5 => 5 | n => n, fun | n => n⟩
theorem Tryd.lays166 : Go.Proofs.Lays.n166 Tryd.prog Tryd.lays166_ren := {
  mixed := by kernel_rfl
  f166 := Tryd.func32.trans (congrArg some (by kernel_rfl))
  f240 := Tryd.func54.trans (congrArg some (by kernel_rfl))
  f276 := Tryd.func70.trans (congrArg some (by kernel_rfl))
  t0 := Tryd.underlying0
  a0 := Tryd.isAgg0
  z0 := Tryd.sizeOf0
  v0 := Tryd.zeroValue0
  t3 := Tryd.underlying3
  a3 := Tryd.isAgg3
  z3 := Tryd.sizeOf3
  v3 := Tryd.zeroValue3
  t4 := Tryd.underlying4
  a4 := Tryd.isAgg4
  z4 := Tryd.sizeOf4
  v4 := Tryd.zeroValue4
  t9 := Tryd.underlying9
  a9 := Tryd.isAgg9
  z9 := Tryd.sizeOf9
  v9 := Tryd.zeroValue9
  t20 := Tryd.underlying20
  a20 := Tryd.isAgg20
  z20 := Tryd.sizeOf20
  v20 := Tryd.zeroValue20
  t37 := Tryd.underlying57
  a37 := Tryd.isAgg57
  z37 := Tryd.sizeOf57
  v37 := Tryd.zeroValue57
  t70 := Tryd.underlying56
  a70 := Tryd.isAgg56
  z70 := Tryd.sizeOf56
  v70 := Tryd.zeroValue56
  t72 := Tryd.underlying59
  a72 := Tryd.isAgg59
  z72 := Tryd.sizeOf59
  v72 := Tryd.zeroValue59
  t75 := Tryd.underlying61
  a75 := Tryd.isAgg61
  z75 := Tryd.sizeOf61
  v75 := Tryd.zeroValue61
  t164 := Tryd.underlying84
  a164 := Tryd.isAgg84
  z164 := Tryd.sizeOf84
  v164 := Tryd.zeroValue84 }
theorem Tryd.Builder_Extra_166 : Builder.Extra Tryd.prog Tryd.lays166_ren := {
  sizeBuilder := by kernel_rfl
  liesBuilder := by kernel_rfl
  t5 := Tryd.underlying5
  a5 := Tryd.isAgg5
  z5 := Tryd.sizeOf5
  v5 := Tryd.zeroValue5
  infoByte := by kernel_rfl
  cellsByte := by kernel_rfl
  sizeByte := by kernel_rfl
  neB5 := by decide }
open Go.RowKit in
theorem Tryd.Builder_WriteString (B b : Nat) (bs : List Value) (s : ByteArray) (w : World) (h : Lib.IsBuilder 59 5 B b bs w) (hlen : bs.length + s.size ≤ 140737488355328) (hBw : B ≤ w.heap.size) :
    Calls Tryd.prog 32 #[.pointer (some ⟨b, 0, none⟩), .string s] w fun e w' => e = .returned (.tuple #[.int .i64 s.size, .nilIface]) ∧ (Lib.BuilderAt 59 5 B b (.pointer (some ⟨b, 0, none⟩)) (bs ++ Lib.strCells s) w' ∧ Below B w w') := Any.Builder_WriteString Tryd.lays166 Tryd.Builder_Extra_166 B b bs s w h hlen hBw
end Go.Proofs

namespace Go.Proofs.YtcomcoolmabmgaaDoor
set_option linter.unnecessarySimpa false
open Go.RowKit Go.Shelf
set_option linter.unusedVariables false
set_option linter.unusedSimpArgs false
set_option maxRecDepth 100000

def catR (l : List Rul) : List UInt8 := l.flatMap fun r => lineR r ++ [10]
def okR (l : List Rul) : Bool := l.all fun r => decide (chkR r = 0)
def printF (l : List Rul) : List UInt8 × Int := if 64 < l.length then ([], 3) else if okR l then (catR l, 0) else ([], 2)
theorem okR_iff {l : List Rul} : okR l = true ↔ ∀ x ∈ l, chkR x = 0 := by simp [okR]
theorem cat_snoc (l : List Rul) (x : Rul) : catR (l ++ [x]) = catR l ++ (lineR x ++ [10]) := by simp [catR]
theorem cat_len : ∀ (l : List Rul), (∀ x ∈ l, chkR x = 0) → (catR l).length ≤ l.length * 1701
  | [], _ => by simp [catR]
  | x :: t, h => by
    have ih := cat_len t fun y hy => h y (.tail _ hy)
    have := line_len (h x (.head _))
    simp only [catR, List.flatMap_cons, List.length_append, List.length_cons, List.length_nil] at ih ⊢
    omega
theorem isBuilder_chg {T e : TypeId} {B b : Nat} {bs : List Value} {w w' : World} (h : Lib.IsBuilder T e B b bs w) (hc : Chg No w w') : Lib.IsBuilder T e B b bs w' := by
  rcases h with ⟨h1, v, h2, h3, h4⟩ | ⟨h1, v, h2, h3, h4⟩
  · exact .inl ⟨h1, v, hc.heap h2 (fun x => x), own_chg h3 hc (fun _ _ x => x), h4⟩
  · exact .inr ⟨h1, v, hc.heap h2 (fun x => x), own_chg h3 hc (fun _ _ x => x), h4⟩
theorem below_chg {w a b : World} (h : Chg No w a) (hb : Below w.heap.size a b) : Chg No w b :=
  ⟨hb.os.trans h.os, hb.tape.trans h.tape, hb.output.trans h.output, Nat.le_trans h.size hb.size, fun k hk hn => (hb.block k hk).trans (h.block k hk hn)⟩
theorem cells_mk (l : List UInt8) (s : List UInt8) : Lib.byteCells l ++ Lib.strCells (mkS s) = Lib.byteCells (l ++ s) := by
  simp [Lib.byteCells, Lib.strCells, mkS]
set_option maxHeartbeats 3200000 in
theorem print_calls (w : World) (A : Option Addr) (n c : Nat) (xs : List Rul) (h : Rs w (.slice A n c) xs) (hn : n ≤ 9223372036854775807) (hx : ∀ x ∈ xs, x.2.1.length ≤ 9223372036854775807 ∧ x.2.2.length ≤ 9223372036854775807) :
    Calls Tryd.prog 16 #[.slice A n c] w fun e w' => e = .returned (.tuple #[.string (mkS (printF xs).1), .int .i64 (printF xs).2]) ∧ Chg No w w' := by
  have HL := Lib.hid h.len
  have H := Lib.hid h
  have HX := Lib.hid hx
  clear h hx
  by_cases h64 : 64 < n
  · have HN : Hid (printF xs = ([], 3)) := by rw [Hid, printF, HL.out, if_pos h64]
    have b1 : ((64 : Int) < (n : Int)) := by omega
    clear h64
    go_enter Tryd.func16, Tryd.ntmps16
    go_wp2
    go_ret2
    exact ⟨by rw [HN.out]; try rfl, Chg.refl _ _⟩
  · have HN : Hid (printF xs = if okR xs then (catR xs, 0) else ([], 2)) := by rw [Hid, printF, HL.out, if_neg h64]
    have b1 : ¬ ((64 : Int) < (n : Int)) := by omega
    have hn64 : n ≤ 64 := by omega
    clear h64
    go_enter Tryd.func16, Tryd.ntmps16
    go_wp2
    go_loopw [14] (fun i wr => ∃ k : Nat, k ≤ n ∧ i = .int .i64 (k : Int) ∧ Hid (∀ x ∈ xs.take k, chkR x = 0) ∧ Hid (Lib.IsBuilder 59 5 w.heap.size w.heap.size (Lib.byteCells (catR (xs.take k))) wr) ∧ Hid (Chg No w wr)) (fun i _ => n - (intOf i).toNat)
    case atStart => exact ⟨0, Nat.zero_le _, rfl, fun x hx => by simp at hx, Lib.fresh_isBuilder _ _ w, (Chg.refl _ _).alloc _⟩
    case round =>
      obtain ⟨k, hk, rfl, HOK, HB, HC⟩ := hrel
      by_cases hlt : k < n
      · obtain ⟨b, o, rfl, hcell⟩ := (H.out.no HC.out).addr (by rw [HL.out]; omega)
        obtain ⟨c0, c1, c2⟩ := hcell k (by rw [HL.out]; exact hlt)
        have hT : xs.take (k + 1) = xs.take k ++ [xs[k]'(by rw [HL.out]; exact hlt)] := by rw [List.take_succ_eq_append_getElem]
        have hxk := HX.out _ (List.getElem_mem (by rw [HL.out]; exact hlt : k < xs.length))
        have hmem : xs[k]'(by rw [HL.out]; exact hlt) ∈ xs := List.getElem_mem _
        generalize xs[k]'(by rw [HL.out]; exact hlt) = x at *
        have HT := Lib.hid hT
        have HM := Lib.hid hmem
        obtain ⟨kd, p, q⟩ := x
        simp only at c0 c1 c2 hxk
        obtain ⟨hp, hq⟩ := hxk
        clear hcell hT hmem
        have hclen := cat_len (xs.take k) HOK.out
        have htk : (xs.take k).length = k := by rw [List.length_take, HL.out]; omega
        rw [htk] at hclen
        have HLN := Lib.hid fun W => rline_calls W kd p q hp hq
        have HC0 := Lib.hid (HC.out.alloc (.cells #[.int .i64 kd, .string (mkS p), .string (mkS q)] 32))
        have HB0 := Lib.hid (isBuilder_chg HB.out ((Chg.refl No wr).alloc (.cells #[.int .i64 kd, .string (mkS p), .string (mkS q)] 32)))
        by_cases h0 : chkR (kd, p, q) = 0
        · have hl : rlnF (kd, p, q) = lineR (kd, p, q) := by rw [rlnF, if_pos h0]
          have hll := line_len h0
          have HOK' : Hid (∀ x ∈ xs.take (k + 1), chkR x = 0) := by
            intro x hx
            rw [HT.out, List.mem_append, List.mem_singleton] at hx
            rcases hx with hx | rfl
            · exact HOK.out x hx
            · exact h0
          have HCT : Hid (catR (xs.take (k + 1)) = catR (xs.take k) ++ (lineR (kd, p, q) ++ [10])) := by rw [Hid, HT.out, cat_snoc]
          rw [hl, h0] at HLN
          clear h0 hl HT HOK
          generalize lineR (kd, p, q) = lr at *
          have a1 := fun W => add_to W lr 10 (by omega)
          have hz : (lr ++ [10]).length = lr.length + 1 := by simp
          generalize lr ++ [10] = z at *
          go_wp2_with fail
          refine (HLN.out _).mono ?_
          rintro e w1 ⟨rfl, hc1⟩
          have HC1 := Lib.hid (HC0.out.no hc1)
          have HB1 := Lib.hid (isBuilder_chg HB0.out hc1)
          have HW := Lib.hid (Tryd.Builder_WriteString w.heap.size w.heap.size _ (mkS z) w1 HB1.out (by rw [Lib.byteCells_length, mkS_size]; omega) HC1.out.size)
          clear hc1
          go_wp2_with fail
          refine HW.out.mono ?_
          rintro e w2 ⟨rfl, hb2, hbl2⟩
          have HC2 := Lib.hid (below_chg HC1.out hbl2)
          have HB2 : Hid (Lib.IsBuilder 59 5 w.heap.size w.heap.size (Lib.byteCells (catR (xs.take (k + 1)))) w2) := by
            rw [Hid, HCT.out, ← cells_mk]; exact .inr hb2
          clear hb2 hbl2 HW
          go_wp2
          go_roundw
          case rel => exact ⟨k + 1, by omega, by simp, HOK', HB2, HC2⟩
          case measure => simp [intOf]; omega
        · have h2 : chkR (kd, p, q) = 2 := (chk_vals _).resolve_left h0
          have HF : Hid (printF xs = ([], 2)) := by
            rw [Hid, HN.out, if_neg]
            intro h
            exact h0 (okR_iff.1 h _ HM.out)
          have hl : rlnF (kd, p, q) = [] := by rw [rlnF, if_neg h0]
          rw [hl, h2] at HLN
          clear h0 hl h2 HT HOK
          go_wp2_with fail
          refine (HLN.out _).mono ?_
          rintro e w1 ⟨rfl, hc1⟩
          have HC1 := Lib.hid (HC0.out.no hc1)
          clear hc1
          go_wp2
          go_ret2
          exact ⟨by rw [HF.out]; try rfl, HC1.out⟩
      · have hkn : k = n := by omega
        subst hkn
        have htt : xs.take k = xs := List.take_of_length_le (by rw [HL.out]; exact Nat.le_refl _)
        rw [htt] at HOK HB
        have HF : Hid (printF xs = (catR xs, 0)) := by rw [Hid, HN.out, if_pos (okR_iff.2 HOK.out)]
        have HS := Lib.hid (Tryd.Builder_String_any w.heap.size w.heap.size _ wr HB.out HC.out.size)
        clear htt HOK
        go_wp2_with fail
        refine HS.out.mono ?_
        rintro e w1 ⟨rfl, hb1⟩
        have HC1 := Lib.hid (below_chg HC.out hb1)
        clear hb1
        go_wp2
        go_ret2
        exact ⟨by rw [HF.out]; try rfl, HC1.out⟩
end Go.Proofs.YtcomcoolmabmgaaDoor

namespace Go.Proofs.YtcomcoolmabmgaaDoor
set_option linter.unnecessarySimpa false
open Go.ChangeShapes Go.WideShapes Go.ChangeAt Go.RowKit
set_option linter.unusedVariables false
set_option linter.unusedSimpArgs false
set_option maxRecDepth 100000

theorem choose_upto {β : Type} [Inhabited β] {n : Nat} {p : Nat → β → Prop} (h : ∀ i, i < n → ∃ x, p i x) : ∃ f : Nat → β, ∀ i, i < n → p i (f i) := by
  refine ⟨fun i => if hi : i < n then Classical.choose (h i hi) else default, fun i hi => ?_⟩
  simp only [hi, dite_true]
  exact Classical.choose_spec (h i hi)
/-- A rule by value, as three cells. -/
theorem read_rule {H : Type} {enc : TypeId × Value → H} {W : World} {fuel : Nat} {cs : List Value} {y : DataW H × List MemPlace}
    (hf : DataW.trod enc Tryd.prog W 0 (fun _ => true) true fuel 32 cs = some y) :
    ∃ x : Rul, cs = encR x ∧ x.2.1.length ≤ maxLen ∧ x.2.2.length ≤ maxLen := by
  obtain ⟨ys, n, -, -, hlen, hyl, hfd⟩ := DataW.trod_struct Tryd.underlying32 hf
  have hl3 : cs.length = 3 := hlen.trans (by kernel_rfl)
  match cs, hl3 with
  | [u0, u1, u2], _ =>
    have g0 := hfd 0 _ rfl
    have g1 := hfd 1 _ rfl
    have g2 := hfd 2 _ rfl
    have y3 : ys.length = 3 := hyl
    rw [List.getElem?_eq_getElem (by omega)] at g0 g1 g2
    have g0 : DataW.trod enc Tryd.prog W 0 (fun _ => true) true n 3 [u0] = _ := g0
    have g1 : DataW.trod enc Tryd.prog W 0 (fun _ => true) true n 9 [u1] = _ := g1
    have g2 : DataW.trod enc Tryd.prog W 0 (fun _ => true) true n 9 [u2] = _ := g2
    obtain ⟨k, q0, -, -⟩ := DataW.trod_int Tryd.underlying3 g0
    obtain ⟨s, q1, -, w1⟩ := DataW.trod_string Tryd.underlying9 g1
    obtain ⟨t, q2, -, w2⟩ := DataW.trod_string Tryd.underlying9 g2
    cases q0
    cases q1
    cases q2
    refine ⟨(k, s.data.toList, t.data.toList), by simp [encR, mkS_self], ?_, ?_⟩
    · show s.data.toList.length ≤ _; rw [Array.length_toList]; exact w1
    · show t.data.toList.length ≤ _; rw [Array.length_toList]; exact w2
theorem open_rules {H : Type} {enc : TypeId × Value → H} {W : World} {v : Value} {d : DataW H} {p : List MemPlace} {r : Reach} {b0 : Nat}
    (hval : Value.okWide Tryd.prog W r b0 23 v) (h : DataW.Trod enc Tryd.prog W 0 (fun _ => true) true 23 v d p) :
    ∃ (A : Option Addr) (n c : Nat) (xs : List Rul), v = .slice A n c ∧ Rs W (.slice A n c) xs ∧ (∀ x ∈ xs, x.2.1.length ≤ 9223372036854775807 ∧ x.2.2.length ≤ 9223372036854775807) ∧ (n = 0 ∨ ∃ elems spare, d = .slice elems spare ∧ elems.length = n) := by
  obtain ⟨A0, n0, c0, rfl⟩ := okWide_slice Tryd.underlying23 hval
  obtain ⟨fuel, hf⟩ := h
  rcases DataW.trod_slice Tryd.underlying23 hf with ⟨hcs, _⟩ | ⟨a, len, cap, elems, rest, n, _, hcs, hd, hb, hl, hm, hlen, hel, -, -⟩
  · simp [Value.cells] at hcs
    obtain ⟨rfl, rfl, rfl⟩ := hcs
    exact ⟨_, _, _, [], rfl, Holds.nil W, (fun x hx => by cases hx), .inl rfl⟩
  · simp [Value.cells] at hcs
    obtain ⟨rfl, rfl, rfl⟩ := hcs
    have each : ∀ i, i < n0 → ∃ x : Rul, (∀ j u, (encR x)[j]? = some u → W.cell? (a.add (i * 3 + j)) = some u) ∧ x.2.1.length ≤ maxLen ∧ x.2.2.length ≤ maxLen := by
      intro i hi
      have h1 := hel i hi
      rw [List.getElem?_eq_getElem (by omega), Option.bind_eq_some_iff] at h1
      obtain ⟨us, h2, h3⟩ := h1
      obtain ⟨x, rfl, x1, x2⟩ := read_rule h3
      refine ⟨x, fun j u hj => ?_, x1, x2⟩
      have h4 := (World.cells?_some h2).2.2 j (List.getElem?_eq_some_iff.1 hj).1
      rw [hj] at h4
      have aa : (a.add (i * Tryd.prog.cellsOf 32)).add j = a.add (i * 3 + j) := by rw [show Tryd.prog.cellsOf 32 = 3 from by kernel_rfl]; rw [Addr.add_add]
      rw [← aa]; exact h4
    obtain ⟨f, hfn⟩ := choose_upto each
    have hlen2 : ((List.range n0).map f).length = n0 := by simp
    refine ⟨_, _, _, (List.range n0).map f, rfl, ⟨some a, c0, by rw [hlen2], by rw [hlen2]; exact hl, hm, fun hp => ?_⟩, ?_, .inr ⟨_, _, (Prod.mk.inj hd).1, by rw [List.length_map]; exact hlen⟩⟩
    · rw [encR_len, hlen2] at hp
      obtain ⟨b, off, spot⟩ := a
      have hc0 := (hfn 0 (by omega)).1 0 _ rfl
      have hspot : spot = none := by simpa [Addr.add] using World.cell?_spot hc0
      subst hspot
      refine ⟨b, off, rfl, fun j u hj => ?_⟩
      have hjl : j < n0 * 3 := by
        have := (List.getElem?_eq_some_iff.1 hj).1
        rwa [encR_len, hlen2] at this
      have hk : j / 3 < n0 := by omega
      have hj3 : j = j / 3 * 3 + j % 3 := by omega
      have := (hfn (j / 3) hk).1 (j % 3) u (by
        rw [hj3, encR_get _ (j / 3) (j % 3) (by rw [hlen2]; exact hk) (by omega)] at hj
        simpa using hj)
      rw [← hj3, Addr.add_lit] at this
      exact this
    · intro x hx
      obtain ⟨i, hi, rfl⟩ := List.mem_map.1 hx
      exact (hfn i (List.mem_range.1 hi)).2
theorem rules_sized {H : Type} {ts : List TypeId} {ds : List (DataW H)} (h : (DataW.weightsEach Tryd.prog ts ds).all (· ≤ reachBytes) = true) {j n : Nat} {d : DataW H}
    (ht : ts[j]? = some 23) (hd : ds[j]? = some d) (hn : n = 0 ∨ ∃ elems spare, d = .slice elems spare ∧ elems.length = n) : n * 40 ≤ 140737488355328 := by
  rcases hn with rfl | ⟨elems, spare, rfl, rfl⟩
  · omega
  · have := sized_slice h ht hd Tryd.underlying23
    rw [show Tryd.prog.bytesOf 32 = 40 from by kernel_rfl] at this
    simp only [reachBytes] at this
    omega
end Go.Proofs.YtcomcoolmabmgaaDoor

