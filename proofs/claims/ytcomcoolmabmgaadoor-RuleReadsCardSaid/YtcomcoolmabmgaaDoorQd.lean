/-
  Runes at a place of a text, as the model decodes them, over lists of bytes.
-/
import Derived.Test.YtcomcoolmabmgaaDoorRep
import Derived.Laws.Runes
import Derived.Lib.OthersKept
namespace Go.Proofs.YtcomcoolmabmgaaDoor
set_option linter.unusedVariables false
set_option linter.unusedSimpArgs false

theorem get_bang (s : ByteArray) (i : Nat) : s.get! i = s.data.toList.getD i 0 := by
  obtain ⟨⟨l⟩⟩ := s
  simp [ByteArray.get!, List.getD]
  rfl

/-- Is byte k of l one that goes on with a rune? -/
def goOn (l : List UInt8) (k : Nat) : Bool := k < l.length && (l.getD k 0).toNat / 64 == 2
def decL (l : List UInt8) : Nat × Nat :=
  if (l.getD 0 0).toNat < 0x80 then ((l.getD 0 0).toNat, 1)
  else if (l.getD 0 0).toNat / 32 == 6 && goOn l 1 then
    if ((l.getD 0 0).toNat % 32) * 64 + (l.getD 1 0).toNat % 64 ≥ 0x80 then (((l.getD 0 0).toNat % 32) * 64 + (l.getD 1 0).toNat % 64, 2) else (0xFFFD, 1)
  else if (l.getD 0 0).toNat / 16 == 14 && goOn l 1 && goOn l 2 then
    if ((l.getD 0 0).toNat % 16) * 4096 + ((l.getD 1 0).toNat % 64) * 64 + (l.getD 2 0).toNat % 64 ≥ 0x800 && Utf8.valid (((l.getD 0 0).toNat % 16) * 4096 + ((l.getD 1 0).toNat % 64) * 64 + (l.getD 2 0).toNat % 64 : Nat) then (((l.getD 0 0).toNat % 16) * 4096 + ((l.getD 1 0).toNat % 64) * 64 + (l.getD 2 0).toNat % 64, 3) else (0xFFFD, 1)
  else if (l.getD 0 0).toNat / 8 == 30 && goOn l 1 && goOn l 2 && goOn l 3 then
    if ((l.getD 0 0).toNat % 8) * 262144 + ((l.getD 1 0).toNat % 64) * 4096 + ((l.getD 2 0).toNat % 64) * 64 + (l.getD 3 0).toNat % 64 ≥ 0x10000 && Utf8.valid (((l.getD 0 0).toNat % 8) * 262144 + ((l.getD 1 0).toNat % 64) * 4096 + ((l.getD 2 0).toNat % 64) * 64 + (l.getD 3 0).toNat % 64 : Nat) then (((l.getD 0 0).toNat % 8) * 262144 + ((l.getD 1 0).toNat % 64) * 4096 + ((l.getD 2 0).toNat % 64) * 64 + (l.getD 3 0).toNat % 64, 4) else (0xFFFD, 1)
  else (0xFFFD, 1)

theorem decode_drop (s : ByteArray) (i : Nat) : Utf8.decode s i = decL (s.data.toList.drop i) := by
  have hg : ∀ k, s.get! (i + k) = (s.data.toList.drop i).getD k 0 := by
    intro k
    rw [get_bang]
    simp [List.getD]
  have hc : ∀ k, decide (i + k < s.size) = decide (k < (s.data.toList.drop i).length) := by
    intro k
    have := size_list s
    simp only [List.length_drop, decide_eq_decide]
    omega
  unfold Utf8.decode decL goOn
  simp only [hg, hc, Utf8.runeError]

theorem goOn_lt {l : List UInt8} {k : Nat} (h : goOn l k = true) : k < l.length ∧ (l.getD k 0).toNat / 64 = 2 := by
  unfold goOn at h
  simpa using h

/-- The ways of a decoding. -/
theorem decL_ways (l : List UInt8) :
    ((l.getD 0 0).toNat < 128 ∧ decL l = ((l.getD 0 0).toNat, 1)) ∨
    ((l.getD 0 0).toNat / 32 = 6 ∧ 1 < l.length ∧ (l.getD 1 0).toNat / 64 = 2 ∧ 128 ≤ ((l.getD 0 0).toNat % 32) * 64 + (l.getD 1 0).toNat % 64 ∧ decL l = (((l.getD 0 0).toNat % 32) * 64 + (l.getD 1 0).toNat % 64, 2)) ∨
    ((l.getD 0 0).toNat / 16 = 14 ∧ 2 < l.length ∧ (l.getD 1 0).toNat / 64 = 2 ∧ (l.getD 2 0).toNat / 64 = 2 ∧
      2048 ≤ ((l.getD 0 0).toNat % 16) * 4096 + ((l.getD 1 0).toNat % 64) * 64 + (l.getD 2 0).toNat % 64 ∧ Utf8.valid (((l.getD 0 0).toNat % 16) * 4096 + ((l.getD 1 0).toNat % 64) * 64 + (l.getD 2 0).toNat % 64 : Nat) = true ∧
      decL l = (((l.getD 0 0).toNat % 16) * 4096 + ((l.getD 1 0).toNat % 64) * 64 + (l.getD 2 0).toNat % 64, 3)) ∨
    ((l.getD 0 0).toNat / 8 = 30 ∧ 3 < l.length ∧ (l.getD 1 0).toNat / 64 = 2 ∧ (l.getD 2 0).toNat / 64 = 2 ∧ (l.getD 3 0).toNat / 64 = 2 ∧
      65536 ≤ ((l.getD 0 0).toNat % 8) * 262144 + ((l.getD 1 0).toNat % 64) * 4096 + ((l.getD 2 0).toNat % 64) * 64 + (l.getD 3 0).toNat % 64 ∧ Utf8.valid (((l.getD 0 0).toNat % 8) * 262144 + ((l.getD 1 0).toNat % 64) * 4096 + ((l.getD 2 0).toNat % 64) * 64 + (l.getD 3 0).toNat % 64 : Nat) = true ∧
      decL l = (((l.getD 0 0).toNat % 8) * 262144 + ((l.getD 1 0).toNat % 64) * 4096 + ((l.getD 2 0).toNat % 64) * 64 + (l.getD 3 0).toNat % 64, 4)) ∨
    (128 ≤ (l.getD 0 0).toNat ∧ decL l = (65533, 1)) := by
  unfold decL
  by_cases c0 : (l.getD 0 0).toNat < 0x80
  · rw [if_pos c0]; exact .inl ⟨c0, rfl⟩
  · by_cases c1 : ((l.getD 0 0).toNat / 32 == 6 && goOn l 1) = true
    · rw [if_neg c0, if_pos c1]
      obtain ⟨e1, e2⟩ := (Bool.and_eq_true_iff).1 c1
      obtain ⟨e3, e4⟩ := goOn_lt e2
      by_cases c2 : ((l.getD 0 0).toNat % 32) * 64 + (l.getD 1 0).toNat % 64 ≥ 0x80
      · exact .inr (.inl ⟨by simpa using e1, e3, e4, c2, if_pos c2⟩)
      · exact .inr (.inr (.inr (.inr ⟨by omega, if_neg c2⟩)))
    · by_cases c2 : ((l.getD 0 0).toNat / 16 == 14 && goOn l 1 && goOn l 2) = true
      · rw [if_neg c0, if_neg c1, if_pos c2]
        obtain ⟨e1, e2⟩ := (Bool.and_eq_true_iff).1 c2
        obtain ⟨e1, e0⟩ := (Bool.and_eq_true_iff).1 e1
        obtain ⟨e3, e4⟩ := goOn_lt e2
        obtain ⟨e5, e6⟩ := goOn_lt e0
        by_cases c3 : (decide (((l.getD 0 0).toNat % 16) * 4096 + ((l.getD 1 0).toNat % 64) * 64 + (l.getD 2 0).toNat % 64 ≥ 0x800) && Utf8.valid (((l.getD 0 0).toNat % 16) * 4096 + ((l.getD 1 0).toNat % 64) * 64 + (l.getD 2 0).toNat % 64 : Nat)) = true
        · obtain ⟨v1, v2⟩ := (Bool.and_eq_true_iff).1 c3
          exact .inr (.inr (.inl ⟨by simpa using e1, e3, e6, e4, of_decide_eq_true v1, v2, if_pos c3⟩))
        · exact .inr (.inr (.inr (.inr ⟨by omega, if_neg c3⟩)))
      · by_cases c3 : ((l.getD 0 0).toNat / 8 == 30 && goOn l 1 && goOn l 2 && goOn l 3) = true
        · rw [if_neg c0, if_neg c1, if_neg c2, if_pos c3]
          obtain ⟨e1, e2⟩ := (Bool.and_eq_true_iff).1 c3
          obtain ⟨e1, e0⟩ := (Bool.and_eq_true_iff).1 e1
          obtain ⟨e1, e9⟩ := (Bool.and_eq_true_iff).1 e1
          obtain ⟨e3, e4⟩ := goOn_lt e2
          obtain ⟨e5, e6⟩ := goOn_lt e0
          obtain ⟨e7, e8⟩ := goOn_lt e9
          by_cases c4 : (decide (((l.getD 0 0).toNat % 8) * 262144 + ((l.getD 1 0).toNat % 64) * 4096 + ((l.getD 2 0).toNat % 64) * 64 + (l.getD 3 0).toNat % 64 ≥ 0x10000) && Utf8.valid (((l.getD 0 0).toNat % 8) * 262144 + ((l.getD 1 0).toNat % 64) * 4096 + ((l.getD 2 0).toNat % 64) * 64 + (l.getD 3 0).toNat % 64 : Nat)) = true
          · obtain ⟨v1, v2⟩ := (Bool.and_eq_true_iff).1 c4
            exact .inr (.inr (.inr (.inl ⟨by simpa using e1, e3, e8, e6, e4, of_decide_eq_true v1, v2, if_pos c4⟩)))
          · exact .inr (.inr (.inr (.inr ⟨by omega, if_neg c4⟩)))
        · rw [if_neg c0, if_neg c1, if_neg c2, if_neg c3]
          exact .inr (.inr (.inr (.inr ⟨by omega, rfl⟩)))

theorem decL_facts (l : List UInt8) (h : l ≠ []) : 1 ≤ (decL l).2 ∧ (decL l).2 ≤ l.length ∧ (decL l).1 < 2097152 := by
  have hl : 1 ≤ l.length := by
    cases l with
    | nil => exact absurd rfl h
    | cons a t => simp
  rcases decL_ways l with ⟨h1, e⟩ | ⟨h1, h2, h3, h4, e⟩ | ⟨h1, h2, h3, h4, h5, h6, e⟩ | ⟨h1, h2, h3, h4, h5, h6, h7, e⟩ | ⟨h1, e⟩ <;> rw [e] <;> simp only <;> omega

/-- Is the piece at the beginning a broken byte? -/
def brk (l : List UInt8) : Bool := (decL l).1 == 0xFFFD && !([239, 191, 189] : List UInt8).isPrefixOf l

theorem take_get (l : List UInt8) (n : Nat) (h : n ≤ l.length) : l.take n = (List.range n).map fun k => l.getD k 0 := by
  apply List.ext_getElem
  · simp; omega
  · intro i h1 h2
    simp at h1 h2 ⊢
    simp [List.getD, show i < l.length by omega]

theorem mkS_two (a b : UInt8) : (⟨#[a, b]⟩ : ByteArray) = mkS [a, b] := rfl
theorem mkS_three (a b c : UInt8) : (⟨#[a, b, c]⟩ : ByteArray) = mkS [a, b, c] := rfl
theorem mkS_four (a b c d : UInt8) : (⟨#[a, b, c, d]⟩ : ByteArray) = mkS [a, b, c, d] := rfl
theorem u8_of (n : Nat) (b : UInt8) (h : n = b.toNat) : UInt8.ofNat n = b := by subst h; simp

theorem goOn_of (l : List UInt8) (k : Nat) (h : k < l.length) (h2 : (l.getD k 0).toNat / 64 = 2) : goOn l k = true := by
  unfold goOn
  rw [Bool.and_eq_true_iff]
  exact ⟨decide_eq_true h, by rw [h2]; rfl⟩

theorem decL_fffd (t : List UInt8) : decL (239 :: 191 :: 189 :: t) = (65533, 3) := by
  have g1 : goOn (239 :: 191 :: 189 :: t) 1 = true := goOn_of _ _ (by simp) (by simp)
  have g2 : goOn (239 :: 191 :: 189 :: t) 2 = true := goOn_of _ _ (by simp) (by simp)
  have e0 : ((239 :: 191 :: 189 :: t : List UInt8).getD 0 0).toNat = 239 := by simp
  have e1 : ((239 :: 191 :: 189 :: t : List UInt8).getD 1 0).toNat = 191 := by simp
  have e2 : ((239 :: 191 :: 189 :: t : List UInt8).getD 2 0).toNat = 189 := by simp
  unfold decL
  rw [g1, g2, e0, e1, e2, if_neg (by decide), if_neg (by decide), if_pos (by decide), if_pos (by decide)]
theorem pre_fffd {l : List UInt8} (h : ([239, 191, 189] : List UInt8).isPrefixOf l = true) : decL l = (65533, 3) := by
  obtain ⟨t, rfl⟩ := List.isPrefixOf_iff_prefix.1 h
  exact decL_fffd t

theorem encode_valid (n : Nat) (h : Utf8.valid (n : Int) = true) : Utf8.encode (n : Int) =
    if n < 0x80 then ⟨#[UInt8.ofNat n]⟩
    else if n < 0x800 then ⟨#[UInt8.ofNat (0xC0 + n / 64), UInt8.ofNat (0x80 + n % 64)]⟩
    else if n < 0x10000 then ⟨#[UInt8.ofNat (0xE0 + n / 4096), UInt8.ofNat (0x80 + n / 64 % 64), UInt8.ofNat (0x80 + n % 64)]⟩
    else ⟨#[UInt8.ofNat (0xF0 + n / 262144), UInt8.ofNat (0x80 + n / 4096 % 64), UInt8.ofNat (0x80 + n / 64 % 64), UInt8.ofNat (0x80 + n % 64)]⟩ := by
  unfold Utf8.encode
  rw [if_pos h]
  rfl

theorem valid_low (n : Nat) (h : n < 55296) : Utf8.valid (n : Int) = true := by
  unfold Utf8.valid
  rw [Bool.or_eq_true_iff]
  exact .inl ((Bool.and_eq_true_iff).2 ⟨decide_eq_true (by omega), decide_eq_true (by omega)⟩)

/-- A piece that is not broken is its rune's encoding. -/
theorem enc_piece (l : List UInt8) (h : l ≠ []) (hb : brk l = false) : Utf8.encode ((decL l).1 : Int) = mkS (l.take (decL l).2) := by
  have hf := decL_facts l h
  rw [take_get l _ hf.2.1]
  have hb0 : (l.getD 0 0).toNat < 256 := (l.getD 0 0).toNat_lt
  have hb1 : (l.getD 1 0).toNat < 256 := (l.getD 1 0).toNat_lt
  have hb2 : (l.getD 2 0).toNat < 256 := (l.getD 2 0).toNat_lt
  have hb3 : (l.getD 3 0).toNat < 256 := (l.getD 3 0).toNat_lt
  rcases decL_ways l with ⟨h1, e⟩ | ⟨h1, h2, h3, h4, e⟩ | ⟨h1, h2, h3, h4, h5, h6, e⟩ | ⟨h1, h2, h3, h4, h5, h6, h7, e⟩ | ⟨h1, e⟩
  · rw [e]
    simp only
    rw [encode_valid _ (valid_low _ (by omega)), if_pos (by omega)]
    show mkS [UInt8.ofNat (l.getD 0 0).toNat] = mkS [l.getD 0 0]
    rw [u8_of _ (l.getD 0 0) rfl]
  · rw [e]
    simp only
    rw [encode_valid _ (valid_low _ (by omega)), if_neg (by omega), if_pos (by omega), mkS_two]
    show _ = mkS [l.getD 0 0, l.getD 1 0]
    rw [u8_of _ (l.getD 0 0) (by omega), u8_of _ (l.getD 1 0) (by omega)]
  · rw [e]
    simp only
    rw [encode_valid _ h6, if_neg (by omega), if_neg (by omega), if_pos (by omega), mkS_three]
    show _ = mkS [l.getD 0 0, l.getD 1 0, l.getD 2 0]
    rw [u8_of _ (l.getD 0 0) (by omega), u8_of _ (l.getD 1 0) (by omega), u8_of _ (l.getD 2 0) (by omega)]
  · rw [e]
    simp only
    rw [encode_valid _ h7, if_neg (by omega), if_neg (by omega), if_neg (by omega), mkS_four]
    show _ = mkS [l.getD 0 0, l.getD 1 0, l.getD 2 0, l.getD 3 0]
    rw [u8_of _ (l.getD 0 0) (by omega), u8_of _ (l.getD 1 0) (by omega), u8_of _ (l.getD 2 0) (by omega), u8_of _ (l.getD 3 0) (by omega)]
  · exfalso
    have hp : ([239, 191, 189] : List UInt8).isPrefixOf l = true := by
      unfold brk at hb
      rw [e] at hb
      simpa using hb
    rw [pre_fffd hp] at e
    cases e

theorem three (l : List UInt8) (h : 2 < l.length) : l = l.getD 0 0 :: l.getD 1 0 :: l.getD 2 0 :: l.drop 3 := by
  match l, h with
  | a :: b :: c :: t, _ => rfl

/-- A broken byte is one byte. -/
theorem brk_one (l : List UInt8) (hb : brk l = true) : decL l = (65533, 1) := by
  unfold brk at hb
  rw [Bool.and_eq_true_iff] at hb
  obtain ⟨e1, e2⟩ := hb
  have e1 : (decL l).1 = 65533 := by simpa using e1
  have e2 : ([239, 191, 189] : List UInt8).isPrefixOf l = false := by simpa using e2
  have hb0 : (l.getD 0 0).toNat < 256 := (l.getD 0 0).toNat_lt
  have hb1 : (l.getD 1 0).toNat < 256 := (l.getD 1 0).toNat_lt
  have hb2 : (l.getD 2 0).toNat < 256 := (l.getD 2 0).toNat_lt
  rcases decL_ways l with ⟨h1, e⟩ | ⟨h1, h2, h3, h4, e⟩ | ⟨h1, h2, h3, h4, h5, h6, e⟩ | ⟨h1, h2, h3, h4, h5, h6, h7, e⟩ | ⟨h1, e⟩
  · rw [e] at e1; simp only at e1; omega
  · rw [e] at e1; simp only at e1; omega
  · exfalso
    rw [e] at e1
    simp only at e1
    have f0 : l.getD 0 0 = 239 := UInt8.toNat_inj.1 (by show _ = 239; omega)
    have f1 : l.getD 1 0 = 191 := UInt8.toNat_inj.1 (by show _ = 191; omega)
    have f2 : l.getD 2 0 = 189 := UInt8.toNat_inj.1 (by show _ = 189; omega)
    have hl := three l h2
    rw [f0, f1, f2] at hl
    have : ([239, 191, 189] : List UInt8).isPrefixOf l = true := by rw [hl]; exact List.isPrefixOf_iff_prefix.2 ⟨l.drop 3, rfl⟩
    rw [this] at e2
    cases e2
  · rw [e] at e1; simp only at e1; omega
  · exact e
end Go.Proofs.YtcomcoolmabmgaaDoor
