/-
  Plain laws on quoted texts: they have no controls and no broken bytes, have one end, and are the text itself where it needs nothing.
-/
import Derived.Test.YtpeedclcnfbppaaQ17
import Derived.Test.YtpeedclcnfbppaaQ16
namespace Go.Proofs.Ytpeedclcnfbppaa
set_option linter.unusedVariables false
set_option linter.unusedSimpArgs false

theorem getD_left (l u : List UInt8) (k i : Nat) (hk : k ≤ l.length) (hi : i < k) : (l.take k ++ u).getD i 0 = l.getD i 0 := by
  rw [List.getD_eq_getElem?_getD, List.getD_eq_getElem?_getD, List.getElem?_append_left (by rw [List.length_take]; omega), List.getElem?_take, if_pos hi]
theorem decL_one (l : List UInt8) (h : (l.getD 0 0).toNat < 128) : decL l = ((l.getD 0 0).toNat, 1) := by unfold decL; rw [if_pos h]
theorem goOn_of' {l : List UInt8} {i : Nat} (h1 : i < l.length) (h2 : (l.getD i 0).toNat / 64 = 2) : goOn l i = true := by unfold goOn; rw [decide_eq_true h1, h2]; rfl
theorem decL_two (l : List UInt8) (h1 : (l.getD 0 0).toNat / 32 = 6) (h2 : 1 < l.length) (h3 : (l.getD 1 0).toNat / 64 = 2) (h4 : 128 ≤ ((l.getD 0 0).toNat % 32) * 64 + (l.getD 1 0).toNat % 64) : decL l = (((l.getD 0 0).toNat % 32) * 64 + (l.getD 1 0).toNat % 64, 2) := by
  unfold decL
  rw [if_neg (by omega), if_pos (by rw [goOn_of' h2 h3]; rw [h1]; rfl), if_pos h4]
theorem decL_three (l : List UInt8) (h1 : (l.getD 0 0).toNat / 16 = 14) (h2 : 2 < l.length) (h3 : (l.getD 1 0).toNat / 64 = 2) (h4 : (l.getD 2 0).toNat / 64 = 2)
    (h5 : 2048 ≤ ((l.getD 0 0).toNat % 16) * 4096 + ((l.getD 1 0).toNat % 64) * 64 + (l.getD 2 0).toNat % 64) (h6 : Utf8.valid (((l.getD 0 0).toNat % 16) * 4096 + ((l.getD 1 0).toNat % 64) * 64 + (l.getD 2 0).toNat % 64 : Nat) = true) :
    decL l = (((l.getD 0 0).toNat % 16) * 4096 + ((l.getD 1 0).toNat % 64) * 64 + (l.getD 2 0).toNat % 64, 3) := by
  unfold decL
  rw [if_neg (by omega), if_neg (by
    have : ((l.getD 0 0).toNat / 32 == 6) = false := by rw [beq_eq_false_iff_ne]; omega
    rw [this]; simp), if_pos (by rw [goOn_of' (by omega) h3, goOn_of' h2 h4]; rw [h1]; rfl), if_pos (by rw [h6, Bool.and_true, decide_eq_true_iff]; exact h5)]
theorem decL_four (l : List UInt8) (h1 : (l.getD 0 0).toNat / 8 = 30) (h2 : 3 < l.length) (h3 : (l.getD 1 0).toNat / 64 = 2) (h4 : (l.getD 2 0).toNat / 64 = 2) (h4b : (l.getD 3 0).toNat / 64 = 2)
    (h5 : 65536 ≤ ((l.getD 0 0).toNat % 8) * 262144 + ((l.getD 1 0).toNat % 64) * 4096 + ((l.getD 2 0).toNat % 64) * 64 + (l.getD 3 0).toNat % 64) (h6 : Utf8.valid (((l.getD 0 0).toNat % 8) * 262144 + ((l.getD 1 0).toNat % 64) * 4096 + ((l.getD 2 0).toNat % 64) * 64 + (l.getD 3 0).toNat % 64 : Nat) = true) :
    decL l = (((l.getD 0 0).toNat % 8) * 262144 + ((l.getD 1 0).toNat % 64) * 4096 + ((l.getD 2 0).toNat % 64) * 64 + (l.getD 3 0).toNat % 64, 4) := by
  unfold decL
  rw [if_neg (by omega), if_neg (by
    have : ((l.getD 0 0).toNat / 32 == 6) = false := by rw [beq_eq_false_iff_ne]; omega
    rw [this]; simp), if_neg (by
    have : ((l.getD 0 0).toNat / 16 == 14) = false := by rw [beq_eq_false_iff_ne]; omega
    rw [this]; simp), if_pos (by rw [goOn_of' (by omega) h3, goOn_of' (by omega) h4, goOn_of' h2 h4b]; rw [h1]; rfl), if_pos (by rw [h6, Bool.and_true, decide_eq_true_iff]; exact h5)]

/-- A whole piece is read the same whatever stands behind it. -/
theorem decL_same (l u : List UInt8) (h : l ≠ []) (hb : brk l = false) : decL (l.take (decL l).2 ++ u) = decL l := by
  have hf := decL_facts l h
  have hg := fun i hi => getD_left l u (decL l).2 i hf.2.1 hi
  have hlen : (decL l).2 ≤ (l.take (decL l).2 ++ u).length := by rw [List.length_append, List.length_take]; omega
  rcases decL_ways l with ⟨h1, e⟩ | ⟨h1, h2, h3, h4, e⟩ | ⟨h1, h2, h3, h4, h5, h6, e⟩ | ⟨h1, h2, h3, h4, h5, h6, h7, e⟩ | ⟨h1, e⟩
  · rw [e] at hg hlen ⊢
    simp only at hg hlen
    rw [decL_one _ (by rw [hg 0 (by omega)]; exact h1), hg 0 (by omega)]
  · rw [e] at hg hlen ⊢
    simp only at hg hlen
    show decL (l.take 2 ++ u) = _
    have g0 := hg 0 (by omega)
    have g1 := hg 1 (by omega)
    rw [decL_two _ (by rw [g0]; exact h1) (by omega) (by rw [g1]; exact h3) (by rw [g0, g1]; exact h4), g0, g1]
  · rw [e] at hg hlen ⊢
    simp only at hg hlen
    show decL (l.take 3 ++ u) = _
    have g0 := hg 0 (by omega)
    have g1 := hg 1 (by omega)
    have g2 := hg 2 (by omega)
    rw [decL_three _ (by rw [g0]; exact h1) (by omega) (by rw [g1]; exact h3) (by rw [g2]; exact h4) (by rw [g0, g1, g2]; exact h5) (by rw [g0, g1, g2]; exact h6), g0, g1, g2]
  · rw [e] at hg hlen ⊢
    simp only at hg hlen
    show decL (l.take 4 ++ u) = _
    have g0 := hg 0 (by omega)
    have g1 := hg 1 (by omega)
    have g2 := hg 2 (by omega)
    have g3 := hg 3 (by omega)
    rw [decL_four _ (by rw [g0]; exact h1) (by omega) (by rw [g1]; exact h3) (by rw [g2]; exact h4) (by rw [g3]; exact h5) (by rw [g0, g1, g2, g3]; exact h6) (by rw [g0, g1, g2, g3]; exact h7), g0, g1, g2, g3]
  · exfalso
    unfold brk at hb
    rw [e] at hb
    have hp : ([239, 191, 189] : List UInt8).isPrefixOf l = true := by simpa using hb
    have := pre_fffd hp
    rw [e] at this
    simp at this
theorem brk_same (l u : List UInt8) (h : l ≠ []) (hb : brk l = false) : brk (l.take (decL l).2 ++ u) = false := by
  unfold brk
  rw [decL_same l u h hb]
  by_cases hr : (decL l).1 = 65533
  · unfold brk at hb
    rw [hr] at hb
    have hp : ([239, 191, 189] : List UInt8).isPrefixOf l = true := by simpa using hb
    obtain ⟨t, rfl⟩ := List.isPrefixOf_iff_prefix.1 hp
    rw [pre_fffd hp]
    simp
  · simp [hr]
theorem pcs_piece (l u : List UInt8) (h : l ≠ []) (hb : brk l = false) : pcs (l.take (decL l).2 ++ u) = ((decL l).1, false, l.take (decL l).2) :: pcs u := by
  have hf := decL_facts l h
  have hl : (l.take (decL l).2).length = (decL l).2 := by rw [List.length_take]; omega
  rw [pcs_cons _ (by intro hn; have := congrArg List.length hn; rw [List.length_append] at this; simp only [List.length_nil] at this; omega), decL_same l u h hb, brk_same l u h hb]
  rw [List.take_append_of_le_length (by omega), List.take_of_length_le (by omega), List.drop_append_of_le_length (by omega), List.drop_of_length_le (by omega), List.nil_append]
theorem pcs_ascii (b : UInt8) (u : List UInt8) (hb : b.toNat < 128) : pcs (b :: u) = (b.toNat, false, [b]) :: pcs u := by
  have e : decL (b :: u) = (b.toNat, 1) := decL_one (b :: u) hb
  have hk : brk (b :: u) = false := by
    unfold brk
    rw [e]
    have : (b.toNat == 65533) = false := by rw [beq_eq_false_iff_ne]; omega
    simp only [this, Bool.false_and]
  rw [pcs_cons _ (by simp), e, hk]
  rfl

/-- Neither a control nor broken. -/
def goodP (p : Nat × Bool × List UInt8) : Bool := !(ctl p.1 || p.2.1)
theorem good_ascii (b : UInt8) (u : List UInt8) (h1 : 32 ≤ b.toNat) (h2 : b.toNat < 127) : (pcs (b :: u)).all goodP = (pcs u).all goodP := by
  rw [pcs_ascii b u (by omega), List.all_cons]
  have : goodP (b.toNat, false, [b]) = true := by simp [goodP, ctl]; omega
  rw [this, Bool.true_and]
theorem hx_range : ∀ q, q < 16 → 32 ≤ (hx q).toNat ∧ (hx q).toNat < 127 ∧ hx q ≠ 34 ∧ hx q ≠ 92 := by decide
theorem good_hexs (bs u : List UInt8) : (pcs (hexs bs ++ u)).all goodP = (pcs u).all goodP := by
  induction bs with
  | nil => simp [hexs]
  | cons b t ih =>
    have hb : b.toNat < 256 := b.toNat_lt
    have e : hexs (b :: t) ++ u = 92 :: 120 :: hx (b.toNat / 16) :: hx (b.toNat % 16) :: (hexs t ++ u) := rfl
    have r1 := hx_range (b.toNat / 16) (by omega)
    have r2 := hx_range (b.toNat % 16) (by omega)
    rw [e, good_ascii 92 _ (by decide) (by decide), good_ascii 120 _ (by decide) (by decide), good_ascii _ _ r1.1 r1.2.1, good_ascii _ _ r2.1 r2.2.1, ih]
theorem good_piece (l u : List UInt8) (h : l ≠ []) : (pcs (quoteP ((decL l).1, brk l, l.take (decL l).2) ++ u)).all goodP = (pcs u).all goodP := by
  unfold quoteP
  simp only
  split
  · rename_i h1
    rcases h1 with h1 | h1 <;> rw [h1]
    · exact (good_ascii 92 _ (by decide) (by decide)).trans (good_ascii 34 _ (by decide) (by decide))
    · exact (good_ascii 92 _ (by decide) (by decide)).trans (good_ascii 92 _ (by decide) (by decide))
  · split
    · exact (good_ascii 92 _ (by decide) (by decide)).trans (good_ascii 110 _ (by decide) (by decide))
    · split
      · exact good_hexs _ u
      · rename_i h1 h2 h3
        have hb : brk l = false := by cases hh : brk l <;> simp_all
        have hc : ctl (decL l).1 = false := by cases hh : ctl (decL l).1 <;> simp_all
        rw [pcs_piece l u h hb, List.all_cons]
        have : goodP ((decL l).1, false, l.take (decL l).2) = true := by simp [goodP, hc]
        rw [this, Bool.true_and]
theorem good_all : ∀ (n : Nat) (l u : List UInt8), l.length ≤ n → (pcs ((pcs l).flatMap quoteP ++ u)).all goodP = (pcs u).all goodP := by
  intro n
  induction n with
  | zero =>
    intro l u hl
    have : l = [] := List.eq_nil_of_length_eq_zero (by omega)
    subst this
    simp [pcs_nil]
  | succ n ih =>
    intro l u hl
    by_cases h : l = []
    · subst h; simp [pcs_nil]
    · obtain ⟨f1, f2, f3⟩ := decL_facts l h
      rw [pcs_cons l h, List.flatMap_cons, List.append_assoc, good_piece l _ h, ih _ _ (by rw [List.length_drop]; omega)]
theorem good_quote (l : List UInt8) : (pcs (quoteF l)).all goodP = true := by
  rw [quoteF_parts, good_ascii 34 _ (by decide) (by decide), good_all l.length l [34] (Nat.le_refl _), good_ascii 34 _ (by decide) (by decide)]
  rfl

/-- It needs nothing. -/
def okP (p : Nat × Bool × List UInt8) : Bool := !(ctl p.1 || p.1 == 34 || p.1 == 92 || p.2.1)
theorem ok_piece (p : Nat × Bool × List UInt8) (h : okP p = true) : quoteP p = p.2.2 := by
  obtain ⟨r, b, bs⟩ := p
  simp only [okP, Bool.not_eq_true', Bool.or_eq_false_iff, beq_eq_false_iff_ne] at h
  obtain ⟨⟨⟨h1, h2⟩, h3⟩, h4⟩ := h
  have h10 : r ≠ 10 := by rintro rfl; simp [ctl] at h1
  simp [quoteP, h1, h2, h3, h4, h10]
theorem bad_piece (p : Nat × Bool × List UInt8) (h : okP p = false) (h1 : 1 ≤ p.2.2.length) (h2 : p.1 < 128 → p.2.2.length = 1) : p.2.2.length < (quoteP p).length := by
  obtain ⟨r, b, bs⟩ := p
  simp only at h1 h2
  simp only [okP, Bool.not_eq_false', Bool.or_eq_true, beq_iff_eq] at h
  unfold quoteP
  simp only
  split
  · have := h2 (by omega)
    simp only [List.length_cons, List.length_nil]; omega
  · split
    · have := h2 (by omega)
      simp only [List.length_cons, List.length_nil]; omega
    · rw [if_pos (by rcases h with ((h | h) | h) | h
                     · exact .inr h
                     · omega
                     · omega
                     · exact .inl h), hexs_len]
      omega
theorem quote_ok : ∀ (n : Nat) (l : List UInt8), l.length ≤ n → ((pcs l).all okP = true → (pcs l).flatMap quoteP = l) ∧ l.length ≤ ((pcs l).flatMap quoteP).length ∧ ((pcs l).all okP = false → l.length < ((pcs l).flatMap quoteP).length) := by
  intro n
  induction n with
  | zero =>
    intro l hl
    have : l = [] := List.eq_nil_of_length_eq_zero (by omega)
    subst this
    simp [pcs_nil]
  | succ n ih =>
    intro l hl
    by_cases h : l = []
    · subst h; simp [pcs_nil]
    · obtain ⟨f1, f2, f3⟩ := decL_facts l h
      obtain ⟨i1, i2, i3⟩ := ih (l.drop (decL l).2) (by rw [List.length_drop]; omega)
      have hk : (l.take (decL l).2).length = (decL l).2 := by rw [List.length_take]; omega
      have hld : (l.drop (decL l).2).length = l.length - (decL l).2 := List.length_drop
      have hsm : (decL l).1 < 128 → (l.take (decL l).2).length = 1 := fun hr => by rw [small_piece l h hr]; rfl
      rw [pcs_cons l h, List.flatMap_cons, List.all_cons, List.length_append]
      cases ho : okP ((decL l).1, brk l, l.take (decL l).2) with
      | true =>
        rw [ok_piece _ ho]
        simp only [Bool.true_and]
        refine ⟨fun ha => by rw [i1 ha, List.take_append_drop], by omega, fun ha => by have := i3 ha; omega⟩
      | false =>
        have := bad_piece _ ho (by show 1 ≤ (l.take (decL l).2).length; omega) hsm
        simp only at this
        refine ⟨fun ha => by simp at ha, by omega, fun _ => by omega⟩
theorem quote_plain (l : List UInt8) : (quoteF l == [34] ++ l ++ [34]) = (pcs l).all okP := by
  obtain ⟨h1, h2, h3⟩ := quote_ok l.length l (Nat.le_refl _)
  cases ha : (pcs l).all okP with
  | true => rw [beq_iff_eq, quoteF, h1 ha]
  | false =>
    rw [beq_eq_false_iff_ne]
    intro he
    have := congrArg List.length he
    rw [quoteF] at this
    simp only [List.length_append, List.length_cons, List.length_nil] at this
    have := h3 ha
    omega

theorem map_add (o : Option Nat) (a b : Nat) : (o.map (· + a)).map (· + b) = o.map (· + (a + b)) := by
  cases o with
  | none => rfl
  | some k => simp; omega
theorem endL_bytes (bs u : List UInt8) (h : ∀ b ∈ bs, b ≠ 34 ∧ b ≠ 92) : endL (bs ++ u) = (endL u).map (· + bs.length) := by
  induction bs with
  | nil => cases hh : endL u <;> simp [hh]
  | cons b t ih =>
    have hb := h b (by simp)
    rw [List.cons_append, endL_any b _ hb.2 hb.1, ih (fun x hx => h x (by simp [hx])), map_add]
    rfl
theorem endL_hexs (bs u : List UInt8) : endL (hexs bs ++ u) = (endL u).map (· + (hexs bs).length) := by
  induction bs with
  | nil => cases hh : endL u <;> simp [hexs, hh]
  | cons b t ih =>
    have hb : b.toNat < 256 := b.toNat_lt
    have e : hexs (b :: t) ++ u = 92 :: 120 :: hx (b.toNat / 16) :: hx (b.toNat % 16) :: (hexs t ++ u) := rfl
    have el : (hexs (b :: t)).length = (hexs t).length + 4 := rfl
    have r1 := hx_range (b.toNat / 16) (by omega)
    have r2 := hx_range (b.toNat % 16) (by omega)
    rw [e, endL_esc, endL_any _ _ r1.2.2.2 r1.2.2.1, endL_any _ _ r2.2.2.2 r2.2.2.1, ih, map_add, map_add, map_add, el]
theorem endL_piece (l u : List UInt8) (h : l ≠ []) : endL (quoteP ((decL l).1, brk l, l.take (decL l).2) ++ u) = (endL u).map (· + (quoteP ((decL l).1, brk l, l.take (decL l).2)).length) := by
  unfold quoteP
  simp only
  split
  · exact endL_esc _ _
  · split
    · exact endL_esc _ _
    · split
      · exact endL_hexs _ u
      · rename_i h1 h2 h3
        apply endL_bytes
        rcases Nat.lt_or_ge (decL l).1 128 with hr | hr
        · rw [small_piece l h hr]
          intro b hb
          simp only [List.mem_singleton] at hb
          subst hb
          constructor
          · intro he
            have := congrArg UInt8.toNat he
            rw [UInt8.toNat_ofNat'] at this
            have e34 : (34 : UInt8).toNat = 34 := rfl
            omega
          · intro he
            have := congrArg UInt8.toNat he
            rw [UInt8.toNat_ofNat'] at this
            have e92 : (92 : UInt8).toNat = 92 := rfl
            omega
        · exact big_piece l h hr
theorem endL_all : ∀ (n : Nat) (l u : List UInt8), l.length ≤ n → endL ((pcs l).flatMap quoteP ++ u) = (endL u).map (· + ((pcs l).flatMap quoteP).length) := by
  intro n
  induction n with
  | zero =>
    intro l u hl
    have : l = [] := List.eq_nil_of_length_eq_zero (by omega)
    subst this
    cases hh : endL u <;> simp [pcs_nil, hh]
  | succ n ih =>
    intro l u hl
    by_cases h : l = []
    · subst h; cases hh : endL u <;> simp [pcs_nil, hh]
    · obtain ⟨f1, f2, f3⟩ := decL_facts l h
      rw [pcs_cons l h, List.flatMap_cons, List.append_assoc, endL_piece l _ h, ih _ _ (by rw [List.length_drop]; omega), map_add, List.length_append, Nat.add_comm]
/-- A quoted text is one word of any line. -/
theorem words_quoted (p : Nat) (acc : List (List UInt8)) (l u : List UInt8) (hu : u.head?.getD 32 = 32) : wordsF p acc (quoteF l ++ u) = wordsF (p + (quoteF l).length) (acc ++ [l]) u := by
  have he : endL (((pcs l).flatMap quoteP ++ [34]) ++ u) = some (((pcs l).flatMap quoteP).length + 1) := by
    rw [List.append_assoc, endL_all l.length l _ (Nat.le_refl _), List.cons_append, List.nil_append, endL_quote]
    simp; omega
  have hlen : (quoteF l).length = ((pcs l).flatMap quoteP).length + 2 := by rw [quoteF_parts]; simp
  have hm : ((pcs l).flatMap quoteP ++ [34]).length = ((pcs l).flatMap quoteP).length + 1 := by simp
  have hd : ((((pcs l).flatMap quoteP ++ [34]) ++ u).drop (((pcs l).flatMap quoteP).length + 1)) = u := by
    rw [← hm, List.drop_left]
  have ht : ((((pcs l).flatMap quoteP ++ [34]) ++ u).take (((pcs l).flatMap quoteP).length + 1)) = (pcs l).flatMap quoteP ++ [34] := by
    rw [← hm, List.take_left]
  conv => lhs; rw [quoteF_parts, List.cons_append]
  rw [words_q3 p acc _ _ l he (by rw [hd]; exact hu) (by rw [ht, ← quoteF_parts]; exact unq_quote l), hd, hlen]
  congr 1
  omega
theorem words_right (l : List UInt8) : wordsF 0 [] ([97, 32] ++ quoteF l ++ [32, 98]) = .inr [[97], l, [98]] := by
  have e1 : ∀ p acc u, wordsF p acc (97 :: 32 :: u) = wordsF (p + 2) (acc ++ [[97]]) u := by
    intro p acc u
    rw [words_plain _ _ _ _ (by decide) (by decide) (by decide)]
    have e : (32 :: u).takeWhile (· ≠ (32 : UInt8)) = [] := by simp
    simp only [e]
    rw [if_pos wake_p2]
    simp only [List.length_nil, List.drop_zero]
    rw [words_space]
  have e0 : ([97, 32] ++ quoteF l ++ [32, 98] : List UInt8) = 97 :: 32 :: (quoteF l ++ [32, 98]) := rfl
  rw [e0, e1, words_quoted _ _ _ _ rfl, words_space, words_plain _ _ _ _ (by decide) (by decide) (by decide)]
  rw [if_pos (show plainF (98 :: List.takeWhile (· ≠ (32 : UInt8)) []) = true by decide +kernel)]
  simp only [List.takeWhile_nil]
  simp only [List.length_nil, List.drop_zero]
  rw [words_nil]
  rfl
end Go.Proofs.Ytpeedclcnfbppaa
