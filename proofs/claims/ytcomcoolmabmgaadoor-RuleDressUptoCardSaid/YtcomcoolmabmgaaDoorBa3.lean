/-
  Qd, Pcs, N1, Rep3, Own, Box, N2, N3, Rep4, Rep5, Nm1, Tx: in one text.
-/
import Derived.Test.YtcomcoolmabmgaaDoorBa1
import Derived.Laws.Runes
import Derived.Lib.OthersKept
import Derived.Lib.Strings
import Derived.Lib.Slices
import Derived.Lib.Walk
import Derived.Lib.Bytealg
import Derived.Laws.RangeAny
import Derived.Test.YtcomcoolmabmgaaDoorBa2
import Derived.Lib.Join
import Derived.Lib.SplitLaws
import Derived.Lib.IndexBytes
namespace Go.Proofs.YtcomcoolmabmgaaDoor
set_option linter.unnecessarySimpa false
set_option linter.unusedVariables false
set_option linter.unusedSimpArgs false

theorem get_bang (s : ByteArray) (i : Nat) : s.get! i = s.data.toList.getD i 0 := by
  obtain ⟨⟨l⟩⟩ := s
  simp [ByteArray.get!, List.getD]
  rfl

/-- Is byte k of l one that goes on with a rune? -/
def goOn (l : List UInt8) (k : Nat) : Bool := k < l.length && (l.getD k 0).toNat / 64 == 2
def decL (l : List UInt8) : Nat × Nat :=
  if (l.getD 0 0).toNat < 0x80 then ((l.getD 0 0).toNat, 1)
  else if (l.getD 0 0).toNat / 32 == 6 && goOn l 1 then
    if ((l.getD 0 0).toNat % 32) * 64 + (l.getD 1 0).toNat % 64 ≥ 0x80 then (((l.getD 0 0).toNat % 32) * 64 + (l.getD 1 0).toNat % 64, 2) else (0xFFFD, 1)
  else if (l.getD 0 0).toNat / 16 == 14 && goOn l 1 && goOn l 2 then
    if ((l.getD 0 0).toNat % 16) * 4096 + ((l.getD 1 0).toNat % 64) * 64 + (l.getD 2 0).toNat % 64 ≥ 0x800 && Utf8.valid (((l.getD 0 0).toNat % 16) * 4096 + ((l.getD 1 0).toNat % 64) * 64 + (l.getD 2 0).toNat % 64 : Nat) then (((l.getD 0 0).toNat % 16) * 4096 + ((l.getD 1 0).toNat % 64) * 64 + (l.getD 2 0).toNat % 64, 3) else (0xFFFD, 1)
  else if (l.getD 0 0).toNat / 8 == 30 && goOn l 1 && goOn l 2 && goOn l 3 then
    if ((l.getD 0 0).toNat % 8) * 262144 + ((l.getD 1 0).toNat % 64) * 4096 + ((l.getD 2 0).toNat % 64) * 64 + (l.getD 3 0).toNat % 64 ≥ 0x10000 && Utf8.valid (((l.getD 0 0).toNat % 8) * 262144 + ((l.getD 1 0).toNat % 64) * 4096 + ((l.getD 2 0).toNat % 64) * 64 + (l.getD 3 0).toNat % 64 : Nat) then (((l.getD 0 0).toNat % 8) * 262144 + ((l.getD 1 0).toNat % 64) * 4096 + ((l.getD 2 0).toNat % 64) * 64 + (l.getD 3 0).toNat % 64, 4) else (0xFFFD, 1)
  else (0xFFFD, 1)

theorem decode_drop (s : ByteArray) (i : Nat) : Utf8.decode s i = decL (s.data.toList.drop i) := by
  have hg : ∀ k, s.get! (i + k) = (s.data.toList.drop i).getD k 0 := by
    intro k
    rw [get_bang]
    simp [List.getD]
  have hc : ∀ k, decide (i + k < s.size) = decide (k < (s.data.toList.drop i).length) := by
    intro k
    have := size_list s
    simp only [List.length_drop, decide_eq_decide]
    omega
  unfold Utf8.decode decL goOn
  simp only [hg, hc, Utf8.runeError]

theorem goOn_lt {l : List UInt8} {k : Nat} (h : goOn l k = true) : k < l.length ∧ (l.getD k 0).toNat / 64 = 2 := by
  unfold goOn at h
  simpa using h

/-- The ways of a decoding. -/
theorem decL_ways (l : List UInt8) :
    ((l.getD 0 0).toNat < 128 ∧ decL l = ((l.getD 0 0).toNat, 1)) ∨
    ((l.getD 0 0).toNat / 32 = 6 ∧ 1 < l.length ∧ (l.getD 1 0).toNat / 64 = 2 ∧ 128 ≤ ((l.getD 0 0).toNat % 32) * 64 + (l.getD 1 0).toNat % 64 ∧ decL l = (((l.getD 0 0).toNat % 32) * 64 + (l.getD 1 0).toNat % 64, 2)) ∨
    ((l.getD 0 0).toNat / 16 = 14 ∧ 2 < l.length ∧ (l.getD 1 0).toNat / 64 = 2 ∧ (l.getD 2 0).toNat / 64 = 2 ∧
      2048 ≤ ((l.getD 0 0).toNat % 16) * 4096 + ((l.getD 1 0).toNat % 64) * 64 + (l.getD 2 0).toNat % 64 ∧ Utf8.valid (((l.getD 0 0).toNat % 16) * 4096 + ((l.getD 1 0).toNat % 64) * 64 + (l.getD 2 0).toNat % 64 : Nat) = true ∧
      decL l = (((l.getD 0 0).toNat % 16) * 4096 + ((l.getD 1 0).toNat % 64) * 64 + (l.getD 2 0).toNat % 64, 3)) ∨
    ((l.getD 0 0).toNat / 8 = 30 ∧ 3 < l.length ∧ (l.getD 1 0).toNat / 64 = 2 ∧ (l.getD 2 0).toNat / 64 = 2 ∧ (l.getD 3 0).toNat / 64 = 2 ∧
      65536 ≤ ((l.getD 0 0).toNat % 8) * 262144 + ((l.getD 1 0).toNat % 64) * 4096 + ((l.getD 2 0).toNat % 64) * 64 + (l.getD 3 0).toNat % 64 ∧ Utf8.valid (((l.getD 0 0).toNat % 8) * 262144 + ((l.getD 1 0).toNat % 64) * 4096 + ((l.getD 2 0).toNat % 64) * 64 + (l.getD 3 0).toNat % 64 : Nat) = true ∧
      decL l = (((l.getD 0 0).toNat % 8) * 262144 + ((l.getD 1 0).toNat % 64) * 4096 + ((l.getD 2 0).toNat % 64) * 64 + (l.getD 3 0).toNat % 64, 4)) ∨
    (128 ≤ (l.getD 0 0).toNat ∧ decL l = (65533, 1)) := by
  unfold decL
  by_cases c0 : (l.getD 0 0).toNat < 0x80
  · rw [if_pos c0]; exact .inl ⟨c0, rfl⟩
  · by_cases c1 : ((l.getD 0 0).toNat / 32 == 6 && goOn l 1) = true
    · rw [if_neg c0, if_pos c1]
      obtain ⟨e1, e2⟩ := (Bool.and_eq_true_iff).1 c1
      obtain ⟨e3, e4⟩ := goOn_lt e2
      by_cases c2 : ((l.getD 0 0).toNat % 32) * 64 + (l.getD 1 0).toNat % 64 ≥ 0x80
      · exact .inr (.inl ⟨by simpa using e1, e3, e4, c2, if_pos c2⟩)
      · exact .inr (.inr (.inr (.inr ⟨by omega, if_neg c2⟩)))
    · by_cases c2 : ((l.getD 0 0).toNat / 16 == 14 && goOn l 1 && goOn l 2) = true
      · rw [if_neg c0, if_neg c1, if_pos c2]
        obtain ⟨e1, e2⟩ := (Bool.and_eq_true_iff).1 c2
        obtain ⟨e1, e0⟩ := (Bool.and_eq_true_iff).1 e1
        obtain ⟨e3, e4⟩ := goOn_lt e2
        obtain ⟨e5, e6⟩ := goOn_lt e0
        by_cases c3 : (decide (((l.getD 0 0).toNat % 16) * 4096 + ((l.getD 1 0).toNat % 64) * 64 + (l.getD 2 0).toNat % 64 ≥ 0x800) && Utf8.valid (((l.getD 0 0).toNat % 16) * 4096 + ((l.getD 1 0).toNat % 64) * 64 + (l.getD 2 0).toNat % 64 : Nat)) = true
        · obtain ⟨v1, v2⟩ := (Bool.and_eq_true_iff).1 c3
          exact .inr (.inr (.inl ⟨by simpa using e1, e3, e6, e4, of_decide_eq_true v1, v2, if_pos c3⟩))
        · exact .inr (.inr (.inr (.inr ⟨by omega, if_neg c3⟩)))
      · by_cases c3 : ((l.getD 0 0).toNat / 8 == 30 && goOn l 1 && goOn l 2 && goOn l 3) = true
        · rw [if_neg c0, if_neg c1, if_neg c2, if_pos c3]
          obtain ⟨e1, e2⟩ := (Bool.and_eq_true_iff).1 c3
          obtain ⟨e1, e0⟩ := (Bool.and_eq_true_iff).1 e1
          obtain ⟨e1, e9⟩ := (Bool.and_eq_true_iff).1 e1
          obtain ⟨e3, e4⟩ := goOn_lt e2
          obtain ⟨e5, e6⟩ := goOn_lt e0
          obtain ⟨e7, e8⟩ := goOn_lt e9
          by_cases c4 : (decide (((l.getD 0 0).toNat % 8) * 262144 + ((l.getD 1 0).toNat % 64) * 4096 + ((l.getD 2 0).toNat % 64) * 64 + (l.getD 3 0).toNat % 64 ≥ 0x10000) && Utf8.valid (((l.getD 0 0).toNat % 8) * 262144 + ((l.getD 1 0).toNat % 64) * 4096 + ((l.getD 2 0).toNat % 64) * 64 + (l.getD 3 0).toNat % 64 : Nat)) = true
          · obtain ⟨v1, v2⟩ := (Bool.and_eq_true_iff).1 c4
            exact .inr (.inr (.inr (.inl ⟨by simpa using e1, e3, e8, e6, e4, of_decide_eq_true v1, v2, if_pos c4⟩)))
          · exact .inr (.inr (.inr (.inr ⟨by omega, if_neg c4⟩)))
        · rw [if_neg c0, if_neg c1, if_neg c2, if_neg c3]
          exact .inr (.inr (.inr (.inr ⟨by omega, rfl⟩)))

theorem decL_facts (l : List UInt8) (h : l ≠ []) : 1 ≤ (decL l).2 ∧ (decL l).2 ≤ l.length ∧ (decL l).1 < 2097152 := by
  have hl : 1 ≤ l.length := by
    cases l with
    | nil => exact absurd rfl h
    | cons a t => simp
  rcases decL_ways l with ⟨h1, e⟩ | ⟨h1, h2, h3, h4, e⟩ | ⟨h1, h2, h3, h4, h5, h6, e⟩ | ⟨h1, h2, h3, h4, h5, h6, h7, e⟩ | ⟨h1, e⟩ <;> rw [e] <;> simp only <;> omega

/-- Is the piece at the beginning a broken byte? -/
def brk (l : List UInt8) : Bool := (decL l).1 == 0xFFFD && !([239, 191, 189] : List UInt8).isPrefixOf l

theorem take_get (l : List UInt8) (n : Nat) (h : n ≤ l.length) : l.take n = (List.range n).map fun k => l.getD k 0 := by
  apply List.ext_getElem
  · simp; omega
  · intro i h1 h2
    simp at h1 h2 ⊢
    simp [List.getD, show i < l.length by omega]

theorem mkS_two (a b : UInt8) : (⟨#[a, b]⟩ : ByteArray) = mkS [a, b] := rfl
theorem mkS_three (a b c : UInt8) : (⟨#[a, b, c]⟩ : ByteArray) = mkS [a, b, c] := rfl
theorem mkS_four (a b c d : UInt8) : (⟨#[a, b, c, d]⟩ : ByteArray) = mkS [a, b, c, d] := rfl
theorem u8_of (n : Nat) (b : UInt8) (h : n = b.toNat) : UInt8.ofNat n = b := by subst h; simp

theorem goOn_of (l : List UInt8) (k : Nat) (h : k < l.length) (h2 : (l.getD k 0).toNat / 64 = 2) : goOn l k = true := by
  unfold goOn
  rw [Bool.and_eq_true_iff]
  exact ⟨decide_eq_true h, by rw [h2]; rfl⟩

theorem decL_fffd (t : List UInt8) : decL (239 :: 191 :: 189 :: t) = (65533, 3) := by
  have g1 : goOn (239 :: 191 :: 189 :: t) 1 = true := goOn_of _ _ (by simp) (by simp)
  have g2 : goOn (239 :: 191 :: 189 :: t) 2 = true := goOn_of _ _ (by simp) (by simp)
  have e0 : ((239 :: 191 :: 189 :: t : List UInt8).getD 0 0).toNat = 239 := by simp
  have e1 : ((239 :: 191 :: 189 :: t : List UInt8).getD 1 0).toNat = 191 := by simp
  have e2 : ((239 :: 191 :: 189 :: t : List UInt8).getD 2 0).toNat = 189 := by simp
  unfold decL
  rw [g1, g2, e0, e1, e2, if_neg (by decide), if_neg (by decide), if_pos (by decide), if_pos (by decide)]
theorem pre_fffd {l : List UInt8} (h : ([239, 191, 189] : List UInt8).isPrefixOf l = true) : decL l = (65533, 3) := by
  obtain ⟨t, rfl⟩ := List.isPrefixOf_iff_prefix.1 h
  exact decL_fffd t

theorem encode_valid (n : Nat) (h : Utf8.valid (n : Int) = true) : Utf8.encode (n : Int) =
    if n < 0x80 then ⟨#[UInt8.ofNat n]⟩
    else if n < 0x800 then ⟨#[UInt8.ofNat (0xC0 + n / 64), UInt8.ofNat (0x80 + n % 64)]⟩
    else if n < 0x10000 then ⟨#[UInt8.ofNat (0xE0 + n / 4096), UInt8.ofNat (0x80 + n / 64 % 64), UInt8.ofNat (0x80 + n % 64)]⟩
    else ⟨#[UInt8.ofNat (0xF0 + n / 262144), UInt8.ofNat (0x80 + n / 4096 % 64), UInt8.ofNat (0x80 + n / 64 % 64), UInt8.ofNat (0x80 + n % 64)]⟩ := by
  unfold Utf8.encode
  rw [if_pos h]
  rfl

theorem valid_low (n : Nat) (h : n < 55296) : Utf8.valid (n : Int) = true := by
  unfold Utf8.valid
  rw [Bool.or_eq_true_iff]
  exact .inl ((Bool.and_eq_true_iff).2 ⟨decide_eq_true (by omega), decide_eq_true (by omega)⟩)

/-- A piece that is not broken is its rune's encoding. -/
theorem enc_piece (l : List UInt8) (h : l ≠ []) (hb : brk l = false) : Utf8.encode ((decL l).1 : Int) = mkS (l.take (decL l).2) := by
  have hf := decL_facts l h
  rw [take_get l _ hf.2.1]
  have hb0 : (l.getD 0 0).toNat < 256 := (l.getD 0 0).toNat_lt
  have hb1 : (l.getD 1 0).toNat < 256 := (l.getD 1 0).toNat_lt
  have hb2 : (l.getD 2 0).toNat < 256 := (l.getD 2 0).toNat_lt
  have hb3 : (l.getD 3 0).toNat < 256 := (l.getD 3 0).toNat_lt
  rcases decL_ways l with ⟨h1, e⟩ | ⟨h1, h2, h3, h4, e⟩ | ⟨h1, h2, h3, h4, h5, h6, e⟩ | ⟨h1, h2, h3, h4, h5, h6, h7, e⟩ | ⟨h1, e⟩
  · rw [e]
    simp only
    rw [encode_valid _ (valid_low _ (by omega)), if_pos (by omega)]
    show mkS [UInt8.ofNat (l.getD 0 0).toNat] = mkS [l.getD 0 0]
    rw [u8_of _ (l.getD 0 0) rfl]
  · rw [e]
    simp only
    rw [encode_valid _ (valid_low _ (by omega)), if_neg (by omega), if_pos (by omega), mkS_two]
    show _ = mkS [l.getD 0 0, l.getD 1 0]
    rw [u8_of _ (l.getD 0 0) (by omega), u8_of _ (l.getD 1 0) (by omega)]
  · rw [e]
    simp only
    rw [encode_valid _ h6, if_neg (by omega), if_neg (by omega), if_pos (by omega), mkS_three]
    show _ = mkS [l.getD 0 0, l.getD 1 0, l.getD 2 0]
    rw [u8_of _ (l.getD 0 0) (by omega), u8_of _ (l.getD 1 0) (by omega), u8_of _ (l.getD 2 0) (by omega)]
  · rw [e]
    simp only
    rw [encode_valid _ h7, if_neg (by omega), if_neg (by omega), if_neg (by omega), mkS_four]
    show _ = mkS [l.getD 0 0, l.getD 1 0, l.getD 2 0, l.getD 3 0]
    rw [u8_of _ (l.getD 0 0) (by omega), u8_of _ (l.getD 1 0) (by omega), u8_of _ (l.getD 2 0) (by omega), u8_of _ (l.getD 3 0) (by omega)]
  · exfalso
    have hp : ([239, 191, 189] : List UInt8).isPrefixOf l = true := by
      unfold brk at hb
      rw [e] at hb
      simpa using hb
    rw [pre_fffd hp] at e
    cases e

theorem three (l : List UInt8) (h : 2 < l.length) : l = l.getD 0 0 :: l.getD 1 0 :: l.getD 2 0 :: l.drop 3 := by
  match l, h with
  | a :: b :: c :: t, _ => rfl

/-- A broken byte is one byte. -/
theorem brk_one (l : List UInt8) (hb : brk l = true) : decL l = (65533, 1) := by
  unfold brk at hb
  rw [Bool.and_eq_true_iff] at hb
  obtain ⟨e1, e2⟩ := hb
  have e1 : (decL l).1 = 65533 := by simpa using e1
  have e2 : ([239, 191, 189] : List UInt8).isPrefixOf l = false := by simpa using e2
  have hb0 : (l.getD 0 0).toNat < 256 := (l.getD 0 0).toNat_lt
  have hb1 : (l.getD 1 0).toNat < 256 := (l.getD 1 0).toNat_lt
  have hb2 : (l.getD 2 0).toNat < 256 := (l.getD 2 0).toNat_lt
  rcases decL_ways l with ⟨h1, e⟩ | ⟨h1, h2, h3, h4, e⟩ | ⟨h1, h2, h3, h4, h5, h6, e⟩ | ⟨h1, h2, h3, h4, h5, h6, h7, e⟩ | ⟨h1, e⟩
  · rw [e] at e1; simp only at e1; omega
  · rw [e] at e1; simp only at e1; omega
  · exfalso
    rw [e] at e1
    simp only at e1
    have f0 : l.getD 0 0 = 239 := UInt8.toNat_inj.1 (by show _ = 239; omega)
    have f1 : l.getD 1 0 = 191 := UInt8.toNat_inj.1 (by show _ = 191; omega)
    have f2 : l.getD 2 0 = 189 := UInt8.toNat_inj.1 (by show _ = 189; omega)
    have hl := three l h2
    rw [f0, f1, f2] at hl
    have : ([239, 191, 189] : List UInt8).isPrefixOf l = true := by rw [hl]; exact List.isPrefixOf_iff_prefix.2 ⟨l.drop 3, rfl⟩
    rw [this] at e2
    cases e2
  · rw [e] at e1; simp only at e1; omega
  · exact e
end Go.Proofs.YtcomcoolmabmgaaDoor

namespace Go.Proofs.YtcomcoolmabmgaaDoor
set_option linter.unnecessarySimpa false
open Go.RowKit
set_option linter.unusedVariables false
set_option linter.unusedSimpArgs false

def pcsN : Nat → List UInt8 → List (Nat × Bool × List UInt8)
  | 0, _ => []
  | n + 1, l => match l with
    | [] => []
    | a :: t => ((decL (a :: t)).1, brk (a :: t), (a :: t).take (decL (a :: t)).2) :: pcsN n ((a :: t).drop (decL (a :: t)).2)
/-- The pieces: rune, broken or not, bytes. -/
def pcs (l : List UInt8) : List (Nat × Bool × List UInt8) := pcsN l.length l

theorem pcsN_fuel : ∀ (n : Nat) (l : List UInt8), l.length ≤ n → pcsN n l = pcs l := by
  intro n
  induction n using Nat.strongRecOn with
  | _ n ih =>
    intro l hl
    cases l with
    | nil => cases n <;> rfl
    | cons a t =>
      obtain ⟨f1, f2, f3⟩ := decL_facts (a :: t) (by simp)
      have hd : ((a :: t).drop (decL (a :: t)).2).length ≤ t.length := by rw [List.length_drop]; simp only [List.length_cons] at *; omega
      cases n with
      | zero => simp at hl
      | succ n =>
        have ht : t.length ≤ n := by simpa using hl
        have e1 : pcsN (n + 1) (a :: t) = ((decL (a :: t)).1, brk (a :: t), (a :: t).take (decL (a :: t)).2) :: pcsN n ((a :: t).drop (decL (a :: t)).2) := rfl
        have e2 : pcs (a :: t) = ((decL (a :: t)).1, brk (a :: t), (a :: t).take (decL (a :: t)).2) :: pcsN t.length ((a :: t).drop (decL (a :: t)).2) := rfl
        rw [e1, e2, ih n (by omega) _ (by omega)]
        rcases Nat.lt_or_ge t.length (n + 1) with h | h
        · rw [ih t.length (by omega) _ hd]
        · omega
theorem pcs_nil : pcs [] = [] := rfl
theorem pcs_cons (l : List UInt8) (h : l ≠ []) : pcs l = ((decL l).1, brk l, l.take (decL l).2) :: pcs (l.drop (decL l).2) := by
  cases l with
  | nil => exact absurd rfl h
  | cons a t =>
    obtain ⟨f1, f2, f3⟩ := decL_facts (a :: t) (by simp)
    have hd : ((a :: t).drop (decL (a :: t)).2).length ≤ t.length := by rw [List.length_drop]; simp only [List.length_cons] at *; omega
    have e2 : pcs (a :: t) = ((decL (a :: t)).1, brk (a :: t), (a :: t).take (decL (a :: t)).2) :: pcsN t.length ((a :: t).drop (decL (a :: t)).2) := rfl
    rw [e2, pcsN_fuel _ _ hd]

theorem Chg.iterAt {S : Nat → Prop} {a b : World} (h : Chg S a b) {k : Nat} (hk : a.heap.size ≤ k) (s : ByteArray) (pos : Nat) : Chg S a (b.iterAt k s pos) :=
  ⟨h.os, h.tape, h.output, by rw [Lib.iterAt_size]; exact h.size, fun i hi hs => by rw [Lib.iterAt_other b k i s pos (by omega)]; exact h.block i hi hs⟩

/-- May a piece not stand in a plain word? -/
theorem drop_ne {s : ByteArray} {pos : Nat} (h : pos < s.size) : s.data.toList.drop pos ≠ [] := by
  intro h0
  have := congrArg List.length h0
  rw [List.length_drop, size_list] at this
  simp at this
  omega
theorem extract_list (s : ByteArray) (i : Nat) : (s.extract i s.size).data.toList = s.data.toList.drop i := by
  rw [ByteArray.data_extract, Array.toList_extract, List.extract_eq_take_drop]
  rw [List.take_of_length_le]
  rw [List.length_drop, size_list]
  exact Nat.le_refl _
theorem ext3_list (s : ByteArray) (pos : Nat) : (s.extract pos (pos + 3)).toList = (s.data.toList.drop pos).take 3 := by
  rw [Lib.toList_data, ByteArray.data_extract, Array.toList_extract, List.extract_eq_take_drop]
  congr 1
  omega
theorem take3_pre (l : List UInt8) : (l.take 3 == [239, 191, 189]) = ([239, 191, 189] : List UInt8).isPrefixOf l := by
  rw [Bool.eq_iff_iff, beq_iff_eq, List.isPrefixOf_iff_prefix]
  constructor
  · intro h
    exact ⟨l.drop 3, by rw [← h, List.take_append_drop]⟩
  · rintro ⟨t, rfl⟩
    rfl


end Go.Proofs.YtcomcoolmabmgaaDoor

namespace Go.Proofs.YtcomcoolmabmgaaDoor
set_option linter.unnecessarySimpa false
set_option linter.unusedVariables false
set_option linter.unusedSimpArgs false

/-- A rune that may not stand in a name. -/
def ctlN (r : Nat) : Bool := decide (r < 32) || r == 127 || r == 47
def badN (p : Nat × Bool × List UInt8) : Bool := ctlN p.1 || p.2.1
/-- The place of the first piece that may not stand there. -/
def wrongAt (k : Nat) : List (Nat × Bool × List UInt8) → Option Nat
  | [] => none
  | p :: r => if badN p then some k else wrongAt (k + p.2.2.length) r
def spotF (l : List UInt8) : Int × Int :=
  if l = [] ∨ l = [46] ∨ l = [46, 46] then (140, 0)
  else if 32 < l.length then (3, 32)
  else match wrongAt 0 (pcs l) with
    | none => (0, 0)
    | some k => (140, (k : Int))
theorem wrong_cons (k : Nat) (l : List UInt8) (h : l ≠ []) : wrongAt k (pcs l) = if badN ((decL l).1, brk l, l.take (decL l).2) then some k else wrongAt (k + (decL l).2) (pcs (l.drop (decL l).2)) := by
  obtain ⟨f1, f2, f3⟩ := decL_facts l h
  have hk : (l.take (decL l).2).length = (decL l).2 := by rw [List.length_take]; omega
  rw [pcs_cons l h, wrongAt, hk]
theorem wrong_le : ∀ (n : Nat) (l : List UInt8) (k w : Nat), l.length ≤ n → wrongAt k (pcs l) = some w → k ≤ w ∧ w < k + l.length := by
  intro n
  induction n with
  | zero =>
    intro l k w hl h
    have : l = [] := List.eq_nil_of_length_eq_zero (by omega)
    subst this
    simp [pcs_nil, wrongAt] at h
  | succ n ih =>
    intro l k w hl h
    by_cases hn : l = []
    · subst hn; simp [pcs_nil, wrongAt] at h
    · obtain ⟨f1, f2, f3⟩ := decL_facts l hn
      rw [wrong_cons k l hn] at h
      split at h
      · cases h; have := List.length_pos_iff.2 hn; omega
      · have := ih (l.drop (decL l).2) (k + (decL l).2) w (by rw [List.length_drop]; omega) h
        rw [List.length_drop] at this
        omega
/-- A piece is broken just where its rune is U+FFFD and it is shorter than three bytes. -/
theorem brk_short (l : List UInt8) (h : l ≠ []) : brk l = ((decL l).1 == 65533 && decide ((decL l).2 < 3)) := by
  cases hb : brk l with
  | true =>
    have := brk_one l hb
    rw [this]; rfl
  | false =>
    unfold brk at hb
    by_cases hr : (decL l).1 = 65533
    · rw [hr] at hb
      have hp : ([239, 191, 189] : List UInt8).isPrefixOf l = true := by simpa using hb
      rw [pre_fffd hp]; rfl
    · have : ((decL l).1 == 65533) = false := by rw [beq_eq_false_iff_ne]; exact hr
      rw [this]; rfl
end Go.Proofs.YtcomcoolmabmgaaDoor

namespace Go.Proofs.YtcomcoolmabmgaaDoor
set_option linter.unnecessarySimpa false
open Go.RowKit
set_option linter.unusedVariables false
set_option linter.unusedSimpArgs false

section
variable {P : Program} {w : World}
theorem wp_app {o : Oper} {a : Act} {K : Act → World → Prop} {Q : Exit → Act → World → Prop} (s x : Operand) (t tx : TypeId)
    (ho : o.op = .call { callee := .builtin .append, args := #[s, x], argTypes := #[t, tx] })
    (base : Nat) (e : TypeId) (z : Value) (size bytes : Nat) (hinfo : (P.info? e).map (fun i => (i.zero, i.size, i.bytes)) = some (some z, size, bytes)) (ht : P.underlying t = some (.slice e))
    (hzs : z.cells.size = size) (hsz : 0 < size)
    (v xv : Value) (n m : Nat) (xs news : List Value) (hs : a.eval s = v) (hx : a.eval x = xv)
    (hown : w.ownsRow base e size v n xs) (hsrc : Src P size tx xv m news w)
    (hbytes : (n + m) * bytes ≤ 140737488355328) (h63 : n + m ≤ maxLen) (hbase : base ≤ w.heap.size)
    (h : ∀ v' w', w'.ownsRow base e size v' (n + m) (xs ++ news) → w.grownBy w' v.ownBlock → K (a.put o.dst v') w') : o.wp P a w K Q := by
  obtain ⟨i, hi, hz0, hz1, hz2⟩ := info_parts hinfo
  obtain ⟨v', w', hr, h2, h3⟩ := run_append_own_src (P := P) w base t tx o.type e i z size bytes ht hi hz0 hz1 hz2 hzs hsz v n xs hown xv m news hsrc hbytes h63 hbase
  unfold Oper.wp execOp
  simp only [ho, resolve, invoke, builtin, Sem.run_bind, Sem.run_pure, Result.andThen_ok, List.map_toArray, List.map_cons, List.map_nil, hs, hx, hr]
  exact h v' w' h2 h3
end

theorem Src.four {P : Program} {w : World} {tx e' t : TypeId} (hk : P.underlying tx = some (.slice e')) (a b c d : Value) (news : List Value) {w' : World} (hc : Chg No (w.alloc (.cells #[a, b, c, d] t)) w') (hn : news = [a, b, c, d]) (h1 : ∀ u ∈ news, u.oneCell' = true) :
    Src P 1 tx (.slice (some ⟨w.heap.size, 0, none⟩) 4 4) 4 news w' := by
  subst hn
  refine Src.ofSlice _ hk _ _ _ [a, b, c, d] (by simp) (fun j v hj => ?_) h1
  rw [Addr.add_lit, Nat.zero_add]
  match j, hj with
  | 0, hj => exact hc.cell (by rw [World.cell?_alloc_new]; simpa using hj) (fun x => x)
  | 1, hj => exact hc.cell (by rw [World.cell?_alloc_new]; simpa using hj) (fun x => x)
  | 2, hj => exact hc.cell (by rw [World.cell?_alloc_new]; simpa using hj) (fun x => x)
  | 3, hj => exact hc.cell (by rw [World.cell?_alloc_new]; simpa using hj) (fun x => x)
  | n + 4, hj => simp at hj
theorem Src.two {P : Program} {w : World} {tx e' t : TypeId} (hk : P.underlying tx = some (.slice e')) (a b : Value) (news : List Value) {w' : World} (hc : Chg No (w.alloc (.cells #[a, b] t)) w') (hn : news = [a, b]) (h1 : ∀ u ∈ news, u.oneCell' = true) :
    Src P 1 tx (.slice (some ⟨w.heap.size, 0, none⟩) 2 2) 2 news w' := by
  subst hn
  refine Src.ofSlice _ hk _ _ _ [a, b] (by simp) (fun j v hj => ?_) h1
  rw [Addr.add_lit, Nat.zero_add]
  match j, hj with
  | 0, hj => exact hc.cell (by rw [World.cell?_alloc_new]; simpa using hj) (fun x => x)
  | 1, hj => exact hc.cell (by rw [World.cell?_alloc_new]; simpa using hj) (fun x => x)
  | n + 2, hj => simp at hj

/-- A row of bytes of the call's own, in world w. -/
def Rows (base : Nat) (w : World) : Nat → Prop := fun k => base ≤ k ∧ ∃ c fz, w.heap[k]? = some (.cells c 5 fz)

theorem OwnB.cells {w : World} {base : Nat} {v : Value} {xs : List UInt8} (h : OwnB w base v xs) : ∀ k, v.ownBlock = some k → ∃ c fz, w.heap[k]? = some (.cells c 5 fz) := by
  intro k hk
  rcases h.2 with ⟨rfl, _⟩ | ⟨g, cap, cur, rfl, _, hg, _⟩
  · simp [Value.ownBlock] at hk
  · simp [Value.ownBlock] at hk
    subst hk
    exact ⟨cur, _, hg⟩

theorem Chg.rows {base : Nat} {a b c : World} {v : Value} {xs : List UInt8} (h : Chg (Rows base a) a b) (ho : OwnB b base v xs) (hg : b.grownBy c v.ownBlock) : Chg (Rows base a) a c := by
  refine h.grown hg (fun k hk => ?_)
  rcases Nat.lt_or_ge k a.heap.size with hlt | hge
  · right
    by_cases hR : Rows base a k
    · exact hR
    · have e := h.block k hlt hR
      obtain ⟨cc, fz, hc⟩ := ho.cells k hk
      rw [e] at hc
      exact ⟨(ho.block k hk).1, cc, fz, hc⟩
  · exact .inl hge

theorem Chg.iter {base : Nat} {a b : World} (h : Chg (Rows base a) a b) {k : Nat} {s : ByteArray} {pos : Nat} (hi : a.heap[k]? = some (.stringIter s pos)) : b.heap[k]? = some (.stringIter s pos) :=
  h.heap hi (fun hr => by obtain ⟨_, c, fz, hc⟩ := hr; rw [hi] at hc; cases hc)
theorem Chg.rowsNew {base : Nat} {w a b : World} (h0 : Chg No w a) (h : Chg (Rows base a) a b) (hb : w.heap.size ≤ base) : Chg No w b :=
  h0.trans h (fun i hi hr => by have := hr.1; omega)
end Go.Proofs.YtcomcoolmabmgaaDoor

namespace Go.Proofs.YtcomcoolmabmgaaDoor
set_option linter.unnecessarySimpa false
open Go.RowKit
set_option linter.unusedVariables false
set_option linter.unusedSimpArgs false

theorem OwnB.n {w : World} {base n : Nat} {v : Value} {xs : List UInt8} (h : OwnB w base v xs) (hl : xs.length = n) : w.ownsRow base 5 1 v n (u8s xs) := by subst hl; exact h
theorem OwnB.lit (w : World) (bs : List UInt8) (hb : bs.length ≤ maxLen) : OwnB (w.alloc (.cells (u8s bs).toArray 5)) w.heap.size (.slice (some ⟨w.heap.size, 0, none⟩) bs.length bs.length) bs :=
  ⟨by simp, .inr ⟨w.heap.size, bs.length, (u8s bs).toArray, rfl, Nat.le_refl _, heap_alloc_new w _, Nat.le_refl _, hb, by simp, by simp; exact List.take_of_length_le (by simp)⟩⟩
theorem OwnB.form {w : World} {base : Nat} {v : Value} {xs : List UInt8} (h : OwnB w base v xs) : ∃ A n c, v = .slice A n c ∧ Hid (xs.length = n) ∧ Hid (OwnB w base (.slice A n c) xs) := by
  obtain ⟨A, c, rfl, -, -⟩ := h.bytes.form
  exact ⟨A, _, c, rfl, rfl, h⟩
end Go.Proofs.YtcomcoolmabmgaaDoor

namespace Go.Proofs.YtcomcoolmabmgaaDoor
set_option linter.unnecessarySimpa false
open Go.RowKit
set_option linter.unusedVariables false
set_option linter.unusedSimpArgs false

/-- Block g holds v, of type t. -/
def Box (t : TypeId) (w : World) (g : Nat) (v : Value) : Prop := w.heap[g]? = some (.cells #[v] t (0, 0))
section
variable {t : TypeId} {w w' : World} {g : Nat} {v : Value}
theorem Box.lt (h : Box t w g v) : g < w.heap.size := (Array.getElem?_eq_some_iff.1 h).1
theorem Box.c (h : Box t w g v) : w.cell? ⟨g, 0, none⟩ = some v := by simp [World.cell?, show w.heap[g]? = _ from h]
theorem Box.fr (h : Box t w g v) : w.frozen? ⟨g, 0, none⟩ = false := by simp [World.frozen?, show w.heap[g]? = _ from h]
theorem Box.set (h : Box t w g v) (u : Value) : Box t (w.setCell ⟨g, 0, none⟩ u) g u := by
  unfold Box World.setCell
  simp [Array.getElem?_modify, show w.heap[g]? = _ from h]
theorem Box.chg {S : Nat → Prop} (h : Box t w g v) (hc : Chg S w w') (hs : ¬ S g) : Box t w' g v := hc.heap h hs
theorem Box.no (h : Box t w g v) (hc : Chg No w w') : Box t w' g v := h.chg hc (fun x => x)
theorem Box.put (h : Box t w g v) {k : Nat} (hk : g ≠ k) (o : Nat) (u : Value) : Box t (w.setCell ⟨k, o, none⟩ u) g v := h.chg (Chg.put w k o u) hk
theorem Box.new (w : World) (v : Value) (t : TypeId) : Box t (w.alloc (.cells #[v] t)) w.heap.size v := heap_alloc_new w _
/-- A row of bytes does not lie in a box of another type. -/
theorem OwnB.apart {base : Nat} {xs : List UInt8} {u : Value} (ho : OwnB w base v xs) (h : Box t w g u) (ht : t ≠ 5) : ∀ b, v.ownBlock = some b → ¬ One g b := by
  intro b hb hx
  have hx : b = g := hx
  subst hx
  obtain ⟨c, fz, hc⟩ := ho.cells b hb
  have := hc.symm.trans h
  simp only [Option.some.injEq, Obj.cells.injEq] at this
  exact ht this.2.1.symm
end
end Go.Proofs.YtcomcoolmabmgaaDoor

namespace Go.Proofs.YtcomcoolmabmgaaDoor
set_option linter.unnecessarySimpa false
open Go.RowKit
set_option linter.unusedVariables false
set_option linter.unusedSimpArgs false
set_option maxRecDepth 100000

theorem look_no (w : World) (gw ga gl : Nat) (e wr : Int) (ah la : Nat) (h1 : Box 3 w gw (.int .i64 wr)) (h2 : Box 21 w ga (.int .i32 (ah : Int))) (h3 : Box 3 w gl (.int .i64 (la : Int)))
    (he : 0 ≤ e ∧ e < 1000) (hl : la < 1000) (h : 0 ≤ wr ∨ ah ≠ 65533 ∨ 3 ≤ e - la) :
    Calls Tryd.prog 84 #[.int .i64 e, .pointer (some ⟨gw, 0, none⟩), .pointer (some ⟨ga, 0, none⟩), .pointer (some ⟨gl, 0, none⟩)] w fun r w' => r = .returned (.tuple #[]) ∧ w' = w := by
  have c1 := h1.c
  have c2 := h2.c
  have c3 := h3.c
  clear h1 h2 h3
  by_cases q1 : wr < 0
  · by_cases q2 : ah = 65533
    · have b2 : ((ah : Int) == 65533) = true := by rw [q2]; rfl
      have q3 : ¬ e - (la : Int) < 3 := by omega
      clear h q2
      go_enter Tryd.func84, Tryd.ntmps84
      go_wp2
      go_end0
      exact ⟨rfl, rfl⟩
    · have b2 : ((ah : Int) == 65533) = false := by simp; omega
      clear h q2
      go_enter Tryd.func84, Tryd.ntmps84
      go_wp2
      go_end0
      exact ⟨rfl, rfl⟩
  · clear h
    go_enter Tryd.func84, Tryd.ntmps84
    go_wp2
    go_end0
    exact ⟨rfl, rfl⟩
theorem look_yes (w : World) (gw ga gl : Nat) (e wr : Int) (ah la : Nat) (h1 : Box 3 w gw (.int .i64 wr)) (h2 : Box 21 w ga (.int .i32 (ah : Int))) (h3 : Box 3 w gl (.int .i64 (la : Int)))
    (he : 0 ≤ e ∧ e < 1000) (hl : la < 1000) (q1 : wr < 0) (q2 : ah = 65533) (q3 : e - la < 3) :
    Calls Tryd.prog 84 #[.int .i64 e, .pointer (some ⟨gw, 0, none⟩), .pointer (some ⟨ga, 0, none⟩), .pointer (some ⟨gl, 0, none⟩)] w fun r w' => r = .returned (.tuple #[]) ∧ w' = w.setCell ⟨gw, 0, none⟩ (.int .i64 (la : Int)) := by
  have c1 := h1.c
  have c2 := h2.c
  have c3 := h3.c
  have f1 := h1.fr
  have b2 : ((ah : Int) == 65533) = true := by rw [q2]; rfl
  clear h1 h2 h3 q2
  go_enter Tryd.func84, Tryd.ntmps84
  go_wp2
  go_end0
  exact ⟨rfl, rfl⟩
end Go.Proofs.YtcomcoolmabmgaaDoor

namespace Go.Proofs.YtcomcoolmabmgaaDoor
set_option linter.unnecessarySimpa false
open Go.RowKit
set_option linter.unusedVariables false
set_option linter.unusedSimpArgs false
set_option maxRecDepth 100000

def spotV (p : Int × Int) : Value := .agg #[.int .i64 p.1, .int .i64 p.2]
theorem bytes_ne {s : ByteArray} {l : List UInt8} (h : s.data.toList ≠ l) : (s.toList == l) = false := by
  rw [Lib.toList_data, beq_eq_false_iff_ne]; exact h

theorem Chg.iterOne (b : World) (k : Nat) (s : ByteArray) (pos : Nat) : Chg (One k) b (b.iterAt k s pos) :=
  ⟨rfl, rfl, rfl, by rw [Lib.iterAt_size]; exact Nat.le_refl _, fun i hi hs => Lib.iterAt_other b k i s pos hs⟩

theorem cellAt {W : World} {g : Nat} {cs : Array Value} {t : TypeId} {fz : Nat × Nat} (h : W.heap[g]? = some (.cells cs t fz)) (i : Nat) (u : Value) (hi : cs[i]? = some u) : W.cell? ⟨g, i, none⟩ = some u := by
  simp [World.cell?, h, hi]
theorem frzAt {W : World} {g : Nat} {cs : Array Value} {t : TypeId} (h : W.heap[g]? = some (.cells cs t (0, 0))) (i : Nat) : W.frozen? ⟨g, i, none⟩ = false := by
  simp [World.frozen?, h]
/-- The boxes of name.Check: its answer, last, wrong, ahead, and the place in the text. -/
structure NI (w wr : World) (s : ByteArray) (pos ah la : Nat) (wv : Int) : Prop where
  b2 : wr.heap[w.heap.size]? = some (.cells #[.int .i64 0, .int .i64 0] 26 (0, 0))
  b3 : Box 3 wr (w.heap.size + 1) (.int .i64 (la : Int))
  b4 : Box 3 wr (w.heap.size + 1 + 1) (.int .i64 wv)
  b5 : Box 21 wr (w.heap.size + 1 + 1 + 1) (.int .i32 (ah : Int))
  it : wr.heap[w.heap.size + 1 + 1 + 1 + 1]? = some (.stringIter s pos)
  c : Chg No w wr
theorem NI.start (w : World) (s : ByteArray) : NI w (((((w.alloc (.cells #[.int .i64 0, .int .i64 0] 26)).alloc (.cells #[.int .i64 0] 3)).alloc (.cells #[.int .i64 (-1)] 3)).alloc (.cells #[.int .i32 32] 21)).iter s 0) s 0 32 0 (-1) := by
  have A : ∀ (W : World) (o o' : Obj) (k : Nat), W.heap[k]? = some o → (W.alloc o').heap[k]? = some o := fun W o o' k h => ((Chg.refl No W).alloc o').heap h (fun x => x)
  have i2 := heap_alloc_new w (.cells #[.int .i64 0, .int .i64 0] 26)
  have i3 := heap_alloc_new (w.alloc (.cells #[.int .i64 0, .int .i64 0] 26)) (.cells #[.int .i64 0] 3)
  have i4 := heap_alloc_new ((w.alloc (.cells #[.int .i64 0, .int .i64 0] 26)).alloc (.cells #[.int .i64 0] 3)) (.cells #[.int .i64 (-1)] 3)
  have i5 := heap_alloc_new (((w.alloc (.cells #[.int .i64 0, .int .i64 0] 26)).alloc (.cells #[.int .i64 0] 3)).alloc (.cells #[.int .i64 (-1)] 3)) (.cells #[.int .i32 32] 21)
  have i6 := World.iter_heap ((((w.alloc (.cells #[.int .i64 0, .int .i64 0] 26)).alloc (.cells #[.int .i64 0] 3)).alloc (.cells #[.int .i64 (-1)] 3)).alloc (.cells #[.int .i32 32] 21)) s 0
  simp only [World.size_alloc] at i2 i3 i4 i5 i6
  exact ⟨A _ _ _ _ (A _ _ _ _ (A _ _ _ _ (A _ _ _ _ i2))), A _ _ _ _ (A _ _ _ _ (A _ _ _ _ i3)), A _ _ _ _ (A _ _ _ _ i4), A _ _ _ _ i5, i6, (((((Chg.refl No w).alloc _).alloc _).alloc _).alloc _).alloc _⟩
theorem NI.next {w wr : World} {s : ByteArray} {pos ah la : Nat} {wv : Int} (h : NI w wr s pos ah la wv) (q : Nat) : NI w (wr.iterAt (w.heap.size + 1 + 1 + 1 + 1) s q) s q ah la wv := by
  have hc := Chg.iterOne wr (w.heap.size + 1 + 1 + 1 + 1) s q
  exact ⟨hc.heap h.b2 (by show ¬ _ = _; omega), h.b3.chg hc (by show ¬ _ = _; omega), h.b4.chg hc (by show ¬ _ = _; omega), h.b5.chg hc (by show ¬ _ = _; omega), Lib.iterAt_heap wr _ s pos q h.it, h.c.one hc (.inl (by omega))⟩
theorem NI.wrong {w wr : World} {s : ByteArray} {pos ah la : Nat} {wv : Int} (h : NI w wr s pos ah la wv) (k : Int) : NI w (wr.setCell ⟨w.heap.size + 1 + 1, 0, none⟩ (.int .i64 k)) s pos ah la k := by
  have hc := Chg.put wr (w.heap.size + 1 + 1) 0 (.int .i64 k)
  exact ⟨hc.heap h.b2 (by show ¬ _ = _; omega), h.b3.chg hc (by show ¬ _ = _; omega), h.b4.set _, h.b5.chg hc (by show ¬ _ = _; omega), hc.heap h.it (by show ¬ _ = _; omega), h.c.one hc (.inl (by omega))⟩
theorem NI.last {w wr : World} {s : ByteArray} {pos ah la : Nat} {wv : Int} (h : NI w wr s pos ah la wv) (k : Nat) : NI w (wr.setCell ⟨w.heap.size + 1, 0, none⟩ (.int .i64 (k : Int))) s pos ah k wv := by
  have hc := Chg.put wr (w.heap.size + 1) 0 (.int .i64 (k : Int))
  exact ⟨hc.heap h.b2 (by show ¬ _ = _; omega), h.b3.set _, h.b4.chg hc (by show ¬ _ = _; omega), h.b5.chg hc (by show ¬ _ = _; omega), hc.heap h.it (by show ¬ _ = _; omega), h.c.one hc (.inl (by omega))⟩
theorem NI.ahead {w wr : World} {s : ByteArray} {pos ah la : Nat} {wv : Int} (h : NI w wr s pos ah la wv) (k : Nat) : NI w (wr.setCell ⟨w.heap.size + 1 + 1 + 1, 0, none⟩ (.int .i32 (k : Int))) s pos k la wv := by
  have hc := Chg.put wr (w.heap.size + 1 + 1 + 1) 0 (.int .i32 (k : Int))
  exact ⟨hc.heap h.b2 (by show ¬ _ = _; omega), h.b3.chg hc (by show ¬ _ = _; omega), h.b4.chg hc (by show ¬ _ = _; omega), h.b5.set _, hc.heap h.it (by show ¬ _ = _; omega), h.c.one hc (.inl (by omega))⟩
/-- The last: the answer is stored. -/
theorem NI.done {w wr : World} {s : ByteArray} {pos ah la : Nat} {wv : Int} (h : NI w wr s pos ah la wv) (a b : Value) : Chg No w ((wr.setCell ⟨w.heap.size, 0, none⟩ a).setCell ⟨w.heap.size, 1, none⟩ b) :=
  (h.c.one (Chg.put wr _ 0 a) (.inl (Nat.le_refl _))).one (Chg.put _ _ 1 b) (.inl (Nat.le_refl _))
theorem NI.hip {w wr : World} {s : ByteArray} {pos ah la : Nat} {wv : Int} (h : NI w wr s pos ah la wv) : wr.iterPos (w.heap.size + 1 + 1 + 1 + 1) = pos := by
  unfold World.iterPos; rw [h.it]

set_option maxHeartbeats 3200000 in
theorem check_calls (w : World) (s : ByteArray) (hs : s.size ≤ 9223372036854775807) :
    Calls Tryd.prog 68 #[.string s] w fun e w' => e = .returned (spotV (spotF s.data.toList)) ∧ Chg No w w' := by
  have hmf : ∀ (fn : Fn) (first cap : Array Value) (w : World), (Instr.makeFunc fn first cap).run Tryd.prog w = .ok (.func fn first cap) w := fun _ _ _ _ => rfl
  have HS := Lib.hid (size_list s)
  by_cases h0 : s.data.toList = [] ∨ s.data.toList = [46] ∨ s.data.toList = [46, 46]
  · have HF : Hid (spotF s.data.toList = (140, 0)) := by rw [Hid, spotF, if_pos h0]
    have HE : s = ⟨#[]⟩ ∨ s = ⟨#[46]⟩ ∨ s = ⟨#[46, 46]⟩ := by
      rw [← mkS_self s]
      rcases h0 with h | h | h <;> rw [h] <;> simp [mkS]
    clear h0
    rcases HE with rfl | rfl | rfl
    · go_enter Tryd.func68, Tryd.ntmps68
      go_wp2
      exact bodyPost_ret (v := spotV (140, 0)) (by simp [results, Tryd.results68, go_sem, spotV]) rfl ⟨by rw [HF.out], (Chg.refl No w).alloc _⟩
    · go_enter Tryd.func68, Tryd.ntmps68
      go_wp2
      exact bodyPost_ret (v := spotV (140, 0)) (by simp [results, Tryd.results68, go_sem, spotV]) rfl ⟨by rw [HF.out], (Chg.refl No w).alloc _⟩
    · go_enter Tryd.func68, Tryd.ntmps68
      go_wp2
      exact bodyPost_ret (v := spotV (140, 0)) (by simp [results, Tryd.results68, go_sem, spotV]) rfl ⟨by rw [HF.out], (Chg.refl No w).alloc _⟩
  · have n1 := bytes_ne (fun h => h0 (.inl h))
    have n2 := bytes_ne (fun h => h0 (.inr (.inl h)))
    have n3 := bytes_ne (fun h => h0 (.inr (.inr h)))
    by_cases h32 : 32 < s.size
    · have HF : Hid (spotF s.data.toList = (3, 32)) := by rw [Hid, spotF, if_neg h0, if_pos (by rw [HS.out]; exact h32)]
      have b32 : (32 : Int) < (s.size : Int) := by omega
      clear h0
      go_enter Tryd.func68, Tryd.ntmps68
      go_wp2
      exact bodyPost_ret (v := spotV (3, 32)) (by simp [results, Tryd.results68, go_sem, spotV]) rfl ⟨by rw [HF.out], (Chg.refl No w).alloc _⟩
    · have HF := Lib.hid (show spotF s.data.toList = _ by rw [spotF, if_neg h0, if_neg (by rw [HS.out]; exact h32)])
      have b32 : ¬ (32 : Int) < (s.size : Int) := by omega
      clear h0
      go_enter Tryd.func68, Tryd.ntmps68
      go_wp2
      go_loopw [] (fun wr => ∃ (pos ah la : Nat) (wv : Int), pos ≤ s.size ∧ la ≤ pos ∧ Hid (NI w wr s pos ah la wv) ∧ Hid (wv = if ctlN ah = true then (la : Int) else -1) ∧ Hid (pos = 0 → ah = 32) ∧ Hid (wrongAt 0 (pcs s.data.toList) = if (ctlN ah || (ah == 65533 && decide (pos - la < 3))) = true then some la else wrongAt pos (pcs (s.data.toList.drop pos)))) (fun wr => s.size - wr.iterPos (w.heap.size + 1 + 1 + 1 + 1))
      case atStart => exact ⟨0, 32, 0, -1, Nat.zero_le _, Nat.le_refl _, NI.start w s, rfl, fun _ => rfl, rfl⟩
      case round =>
        obtain ⟨pos, ah, la, wv, hpos, hla, HN, HV, H0, HU⟩ := hrel
        by_cases hp : pos < s.size
        · have hl := drop_ne hp
          obtain ⟨q1, q2, q3⟩ := decL_facts _ hl
          have HPC := Lib.hid (wrong_cons pos _ hl)
          have hnx := fun ty => Lib.run_next_any_at (P := Tryd.prog) wr (w.heap.size + 1 + 1 + 1 + 1) s pos ty HN.out.it hp
          rw [decode_drop] at hnx
          have hbs := brk_short _ hl
          rw [List.length_drop, HS.out] at q2
          rw [List.drop_drop] at HPC
          generalize decL (s.data.toList.drop pos) = D at *
          obtain ⟨r, k⟩ := D
          simp only at q1 q2 q3 hnx HPC hbs
          have HB := Lib.hid hbs
          have hip := HN.out.hip
          have HN1 := Lib.hid (HN.out.next (pos + k))
          clear hbs hl HN
          generalize brk (s.data.toList.drop pos) = bk at *
          generalize wr.iterAt (w.heap.size + 1 + 1 + 1 + 1) s (pos + k) = wn at *
          by_cases hA : ctlN ah = true
          · have hpp : 0 < pos := by rcases Nat.eq_zero_or_pos pos with h | h; (rw [H0.out h] at hA; cases hA); exact h
            have hv : wv = (la : Int) := by rw [HV.out, if_pos hA]
            have HW : Hid (wrongAt 0 (pcs s.data.toList) = some la) := by rw [Hid, HU.out, hA]; rfl
            subst hv
            clear hA HV HU HPC HB H0
            have c2a := cellAt HN1.out.b2 0 _ rfl
            have c2b := cellAt HN1.out.b2 1 _ rfl
            have f2 := frzAt HN1.out.b2
            have c3 := HN1.out.b3.c
            have f3 := HN1.out.b3.fr
            have c4 := HN1.out.b4.c
            have f4 := HN1.out.b4.fr
            have c5 := HN1.out.b5.c
            have f5 := HN1.out.b5.fr
            have i0 : (0 : Int) < (pos : Int) := by omega
            go_wp2_with fail
            clear c2a c2b f2 c3 c4 c5 f3 f4 f5
            refine (look_no _ _ _ _ (pos : Int) (la : Int) ah la HN1.out.b4 HN1.out.b5 HN1.out.b3 (by omega) (by omega) (.inl (by omega))).mono ?_
            rintro e w' ⟨rfl, rfl⟩
            have c2a := cellAt HN1.out.b2 0 _ rfl
            have c2b := cellAt HN1.out.b2 1 _ rfl
            have f2 := frzAt HN1.out.b2
            have c3 := HN1.out.b3.c
            have f3 := HN1.out.b3.fr
            have c4 := HN1.out.b4.c
            have f4 := HN1.out.b4.fr
            have c5 := HN1.out.b5.c
            have f5 := HN1.out.b5.fr
            go_wp2_with fail
            clear c2a c2b f2 c3 c4 c5 f3 f4 f5
            refine (look_no _ _ _ _ (s.size : Int) la _ _ HN1.out.b4 HN1.out.b5 HN1.out.b3 (by omega) (by omega) (.inl (by omega))).mono ?_
            rintro e w' ⟨rfl, rfl⟩
            have c2a := cellAt HN1.out.b2 0 _ rfl
            have c2b := cellAt HN1.out.b2 1 _ rfl
            have f2 := frzAt HN1.out.b2
            have c3 := HN1.out.b3.c
            have f3 := HN1.out.b3.fr
            have c4 := HN1.out.b4.c
            have f4 := HN1.out.b4.fr
            have c5 := HN1.out.b5.c
            have f5 := HN1.out.b5.fr
            go_wp2
            exact bodyPost_ret (v := spotV (140, (la : Int))) (by simp [results, Tryd.results68, go_sem, spotV, *]) rfl ⟨by rw [HF.out, HW.out], HN1.out.done _ _⟩
          · have hv : wv = -1 := by rw [HV.out, if_neg hA]
            have hA' : ctlN ah = false := by simpa using hA
            subst hv
            by_cases hB : ah = 65533 ∧ pos - la < 3
            · have hpp : 0 < pos := by rcases Nat.eq_zero_or_pos pos with h | h; (have := H0.out h; omega); exact h
              have HW : Hid (wrongAt 0 (pcs s.data.toList) = some la) := by rw [Hid, HU.out, hB.1]; simp [hB.2]
              have hq := hB.1
              have hq2 := hB.2
              clear hA hA' HV HU HPC HB H0 hB
              have c2a := cellAt HN1.out.b2 0 _ rfl
              have c2b := cellAt HN1.out.b2 1 _ rfl
              have f2 := frzAt HN1.out.b2
              have c3 := HN1.out.b3.c
              have f3 := HN1.out.b3.fr
              have c4 := HN1.out.b4.c
              have f4 := HN1.out.b4.fr
              have c5 := HN1.out.b5.c
              have f5 := HN1.out.b5.fr
              have i0 : (0 : Int) < (pos : Int) := by omega
              go_wp2_with fail
              clear c2a c2b f2 c3 c4 c5 f3 f4 f5
              refine (look_yes wn _ _ _ (pos : Int) (-1) ah la HN1.out.b4 HN1.out.b5 HN1.out.b3 (by omega) (by omega) (by omega) hq (by omega)).mono ?_
              rintro e w' ⟨rfl, rfl⟩
              have HN2 := Lib.hid (HN1.out.wrong (la : Int))
              generalize wn.setCell ⟨w.heap.size + 1 + 1, 0, none⟩ (.int .i64 (la : Int)) = wm at *
              have c2a := cellAt HN2.out.b2 0 _ rfl
              have c2b := cellAt HN2.out.b2 1 _ rfl
              have f2 := frzAt HN2.out.b2
              have c3 := HN2.out.b3.c
              have f3 := HN2.out.b3.fr
              have c4 := HN2.out.b4.c
              have f4 := HN2.out.b4.fr
              have c5 := HN2.out.b5.c
              have f5 := HN2.out.b5.fr
              go_wp2_with fail
              clear c2a c2b f2 c3 c4 c5 f3 f4 f5
              refine (look_no _ _ _ _ (s.size : Int) la _ _ HN2.out.b4 HN2.out.b5 HN2.out.b3 (by omega) (by omega) (.inl (by omega))).mono ?_
              rintro e w' ⟨rfl, rfl⟩
              have c2a := cellAt HN2.out.b2 0 _ rfl
              have c2b := cellAt HN2.out.b2 1 _ rfl
              have f2 := frzAt HN2.out.b2
              have c3 := HN2.out.b3.c
              have f3 := HN2.out.b3.fr
              have c4 := HN2.out.b4.c
              have f4 := HN2.out.b4.fr
              have c5 := HN2.out.b5.c
              have f5 := HN2.out.b5.fr
              go_wp2
              exact bodyPost_ret (v := spotV (140, (la : Int))) (by simp [results, Tryd.results68, go_sem, spotV, *]) rfl ⟨by rw [HF.out, HW.out], HN2.out.done _ _⟩
            · have HG : Hid ((ctlN ah || (ah == 65533 && decide (pos - la < 3))) = false) := by
                rw [Hid, hA', Bool.false_or]
                simp only [Bool.and_eq_false_iff, beq_eq_false_iff_ne, decide_eq_false_iff_not]
                by_cases h1 : ah = 65533
                · exact .inr fun h2 => hB ⟨h1, h2⟩
                · exact .inl h1
              have hno : 0 ≤ (-1 : Int) ∨ ah ≠ 65533 ∨ 3 ≤ (pos : Int) - la := by
                by_cases h1 : ah = 65533
                · have := fun h => hB ⟨h1, h⟩; omega
                · exact .inr (.inl h1)
              have HNW : Hid (wrongAt 0 (pcs s.data.toList) = if (ctlN r || (r == 65533 && decide (pos + k - pos < 3))) = true then some pos else wrongAt (pos + k) (pcs (s.data.toList.drop (pos + k)))) := by
                rw [Hid, HU.out, HG.out, if_neg (by simp), HPC.out, badN, HB.out, Nat.add_sub_cancel_left]
              clear hA hA' hB HV HU HPC HB HG
              by_cases hp0 : pos = 0
              · have i0 : ¬ (0 : Int) < (pos : Int) := by omega
                clear hp0
                by_cases hr1 : r < 32
                · skip
                  have j1 : (r : Int) < 32 := by omega
                  have HC : Hid (ctlN r = true) := by simp [Hid, ctlN, hr1]
                  clear hr1
                  have c2a := cellAt HN1.out.b2 0 _ rfl
                  have c2b := cellAt HN1.out.b2 1 _ rfl
                  have f2 := frzAt HN1.out.b2
                  have c3 := HN1.out.b3.c
                  have f3 := HN1.out.b3.fr
                  have c4 := HN1.out.b4.c
                  have f4 := HN1.out.b4.fr
                  have c5 := HN1.out.b5.c
                  have f5 := HN1.out.b5.fr
                  go_wp2
                  go_roundw
                  case rel => exact ⟨pos + k, r, pos, (pos : Int), by omega, by omega, (((HN1.out.last pos).ahead r).wrong (pos : Int)), by rw [Hid, HC.out]; rfl, fun h => by omega, HNW.out⟩
                  case measure => have h1 := (((HN1.out.last pos).ahead r).wrong (pos : Int)).hip; rw [hip, h1]; omega
      
                by_cases hr2 : r = 127
                · skip
                  have j1 : ¬ (r : Int) < 32 := by omega
                  have j2 : ((r : Int) == 127) = true := by rw [hr2]; rfl
                  have HC : Hid (ctlN r = true) := by rw [Hid, hr2]; rfl
                  clear hr1 hr2
                  have c2a := cellAt HN1.out.b2 0 _ rfl
                  have c2b := cellAt HN1.out.b2 1 _ rfl
                  have f2 := frzAt HN1.out.b2
                  have c3 := HN1.out.b3.c
                  have f3 := HN1.out.b3.fr
                  have c4 := HN1.out.b4.c
                  have f4 := HN1.out.b4.fr
                  have c5 := HN1.out.b5.c
                  have f5 := HN1.out.b5.fr
                  go_wp2
                  go_roundw
                  case rel => exact ⟨pos + k, r, pos, (pos : Int), by omega, by omega, (((HN1.out.last pos).ahead r).wrong (pos : Int)), by rw [Hid, HC.out]; rfl, fun h => by omega, HNW.out⟩
                  case measure => have h1 := (((HN1.out.last pos).ahead r).wrong (pos : Int)).hip; rw [hip, h1]; omega
      
                by_cases hr3 : r = 47
                · skip
                  have j1 : ¬ (r : Int) < 32 := by omega
                  have j2 : ((r : Int) == 127) = false := by simp; omega
                  have j3 : ((r : Int) == 47) = true := by rw [hr3]; rfl
                  have HC : Hid (ctlN r = true) := by rw [Hid, hr3]; rfl
                  clear hr1 hr2 hr3
                  have c2a := cellAt HN1.out.b2 0 _ rfl
                  have c2b := cellAt HN1.out.b2 1 _ rfl
                  have f2 := frzAt HN1.out.b2
                  have c3 := HN1.out.b3.c
                  have f3 := HN1.out.b3.fr
                  have c4 := HN1.out.b4.c
                  have f4 := HN1.out.b4.fr
                  have c5 := HN1.out.b5.c
                  have f5 := HN1.out.b5.fr
                  go_wp2
                  go_roundw
                  case rel => exact ⟨pos + k, r, pos, (pos : Int), by omega, by omega, (((HN1.out.last pos).ahead r).wrong (pos : Int)), by rw [Hid, HC.out]; rfl, fun h => by omega, HNW.out⟩
                  case measure => have h1 := (((HN1.out.last pos).ahead r).wrong (pos : Int)).hip; rw [hip, h1]; omega
      
                have j1 : ¬ (r : Int) < 32 := by omega
                have j2 : ((r : Int) == 127) = false := by simp; omega
                have j3 : ((r : Int) == 47) = false := by simp; omega
                have HC : Hid (ctlN r = false) := by simp [Hid, ctlN, hr1, hr2, hr3]
                clear hr1 hr2 hr3
                have c2a := cellAt HN1.out.b2 0 _ rfl
                have c2b := cellAt HN1.out.b2 1 _ rfl
                have f2 := frzAt HN1.out.b2
                have c3 := HN1.out.b3.c
                have f3 := HN1.out.b3.fr
                have c4 := HN1.out.b4.c
                have f4 := HN1.out.b4.fr
                have c5 := HN1.out.b5.c
                have f5 := HN1.out.b5.fr
                go_wp2
                go_roundw
                case rel => exact ⟨pos + k, r, pos, -1, by omega, by omega, ((HN1.out.last pos).ahead r), by rw [Hid, HC.out]; rfl, fun h => by omega, HNW.out⟩
                case measure => have h1 := ((HN1.out.last pos).ahead r).hip; rw [hip, h1]; omega
              · have i0 : (0 : Int) < (pos : Int) := by omega
                clear hp0
                by_cases hr1 : r < 32
                · skip
                  have j1 : (r : Int) < 32 := by omega
                  have HC : Hid (ctlN r = true) := by simp [Hid, ctlN, hr1]
                  clear hr1
                  have c2a := cellAt HN1.out.b2 0 _ rfl
                  have c2b := cellAt HN1.out.b2 1 _ rfl
                  have f2 := frzAt HN1.out.b2
                  have c3 := HN1.out.b3.c
                  have f3 := HN1.out.b3.fr
                  have c4 := HN1.out.b4.c
                  have f4 := HN1.out.b4.fr
                  have c5 := HN1.out.b5.c
                  have f5 := HN1.out.b5.fr
                  go_wp2_with fail
                  clear c2a c2b f2 c3 c4 c5 f3 f4 f5
                  refine (look_no wn _ _ _ (pos : Int) (-1) ah la HN1.out.b4 HN1.out.b5 HN1.out.b3 (by omega) (by omega) hno).mono ?_
                  rintro e w' ⟨rfl, rfl⟩
                  have c2a := cellAt HN1.out.b2 0 _ rfl
                  have c2b := cellAt HN1.out.b2 1 _ rfl
                  have f2 := frzAt HN1.out.b2
                  have c3 := HN1.out.b3.c
                  have f3 := HN1.out.b3.fr
                  have c4 := HN1.out.b4.c
                  have f4 := HN1.out.b4.fr
                  have c5 := HN1.out.b5.c
                  have f5 := HN1.out.b5.fr
                  go_wp2
                  go_roundw
                  case rel => exact ⟨pos + k, r, pos, (pos : Int), by omega, by omega, (((HN1.out.last pos).ahead r).wrong (pos : Int)), by rw [Hid, HC.out]; rfl, fun h => by omega, HNW.out⟩
                  case measure => have h1 := (((HN1.out.last pos).ahead r).wrong (pos : Int)).hip; rw [hip, h1]; omega
      
                by_cases hr2 : r = 127
                · skip
                  have j1 : ¬ (r : Int) < 32 := by omega
                  have j2 : ((r : Int) == 127) = true := by rw [hr2]; rfl
                  have HC : Hid (ctlN r = true) := by rw [Hid, hr2]; rfl
                  clear hr1 hr2
                  have c2a := cellAt HN1.out.b2 0 _ rfl
                  have c2b := cellAt HN1.out.b2 1 _ rfl
                  have f2 := frzAt HN1.out.b2
                  have c3 := HN1.out.b3.c
                  have f3 := HN1.out.b3.fr
                  have c4 := HN1.out.b4.c
                  have f4 := HN1.out.b4.fr
                  have c5 := HN1.out.b5.c
                  have f5 := HN1.out.b5.fr
                  go_wp2_with fail
                  clear c2a c2b f2 c3 c4 c5 f3 f4 f5
                  refine (look_no wn _ _ _ (pos : Int) (-1) ah la HN1.out.b4 HN1.out.b5 HN1.out.b3 (by omega) (by omega) hno).mono ?_
                  rintro e w' ⟨rfl, rfl⟩
                  have c2a := cellAt HN1.out.b2 0 _ rfl
                  have c2b := cellAt HN1.out.b2 1 _ rfl
                  have f2 := frzAt HN1.out.b2
                  have c3 := HN1.out.b3.c
                  have f3 := HN1.out.b3.fr
                  have c4 := HN1.out.b4.c
                  have f4 := HN1.out.b4.fr
                  have c5 := HN1.out.b5.c
                  have f5 := HN1.out.b5.fr
                  go_wp2
                  go_roundw
                  case rel => exact ⟨pos + k, r, pos, (pos : Int), by omega, by omega, (((HN1.out.last pos).ahead r).wrong (pos : Int)), by rw [Hid, HC.out]; rfl, fun h => by omega, HNW.out⟩
                  case measure => have h1 := (((HN1.out.last pos).ahead r).wrong (pos : Int)).hip; rw [hip, h1]; omega
      
                by_cases hr3 : r = 47
                · skip
                  have j1 : ¬ (r : Int) < 32 := by omega
                  have j2 : ((r : Int) == 127) = false := by simp; omega
                  have j3 : ((r : Int) == 47) = true := by rw [hr3]; rfl
                  have HC : Hid (ctlN r = true) := by rw [Hid, hr3]; rfl
                  clear hr1 hr2 hr3
                  have c2a := cellAt HN1.out.b2 0 _ rfl
                  have c2b := cellAt HN1.out.b2 1 _ rfl
                  have f2 := frzAt HN1.out.b2
                  have c3 := HN1.out.b3.c
                  have f3 := HN1.out.b3.fr
                  have c4 := HN1.out.b4.c
                  have f4 := HN1.out.b4.fr
                  have c5 := HN1.out.b5.c
                  have f5 := HN1.out.b5.fr
                  go_wp2_with fail
                  clear c2a c2b f2 c3 c4 c5 f3 f4 f5
                  refine (look_no wn _ _ _ (pos : Int) (-1) ah la HN1.out.b4 HN1.out.b5 HN1.out.b3 (by omega) (by omega) hno).mono ?_
                  rintro e w' ⟨rfl, rfl⟩
                  have c2a := cellAt HN1.out.b2 0 _ rfl
                  have c2b := cellAt HN1.out.b2 1 _ rfl
                  have f2 := frzAt HN1.out.b2
                  have c3 := HN1.out.b3.c
                  have f3 := HN1.out.b3.fr
                  have c4 := HN1.out.b4.c
                  have f4 := HN1.out.b4.fr
                  have c5 := HN1.out.b5.c
                  have f5 := HN1.out.b5.fr
                  go_wp2
                  go_roundw
                  case rel => exact ⟨pos + k, r, pos, (pos : Int), by omega, by omega, (((HN1.out.last pos).ahead r).wrong (pos : Int)), by rw [Hid, HC.out]; rfl, fun h => by omega, HNW.out⟩
                  case measure => have h1 := (((HN1.out.last pos).ahead r).wrong (pos : Int)).hip; rw [hip, h1]; omega
      
                have j1 : ¬ (r : Int) < 32 := by omega
                have j2 : ((r : Int) == 127) = false := by simp; omega
                have j3 : ((r : Int) == 47) = false := by simp; omega
                have HC : Hid (ctlN r = false) := by simp [Hid, ctlN, hr1, hr2, hr3]
                clear hr1 hr2 hr3
                have c2a := cellAt HN1.out.b2 0 _ rfl
                have c2b := cellAt HN1.out.b2 1 _ rfl
                have f2 := frzAt HN1.out.b2
                have c3 := HN1.out.b3.c
                have f3 := HN1.out.b3.fr
                have c4 := HN1.out.b4.c
                have f4 := HN1.out.b4.fr
                have c5 := HN1.out.b5.c
                have f5 := HN1.out.b5.fr
                go_wp2_with fail
                clear c2a c2b f2 c3 c4 c5 f3 f4 f5
                refine (look_no wn _ _ _ (pos : Int) (-1) ah la HN1.out.b4 HN1.out.b5 HN1.out.b3 (by omega) (by omega) hno).mono ?_
                rintro e w' ⟨rfl, rfl⟩
                have c2a := cellAt HN1.out.b2 0 _ rfl
                have c2b := cellAt HN1.out.b2 1 _ rfl
                have f2 := frzAt HN1.out.b2
                have c3 := HN1.out.b3.c
                have f3 := HN1.out.b3.fr
                have c4 := HN1.out.b4.c
                have f4 := HN1.out.b4.fr
                have c5 := HN1.out.b5.c
                have f5 := HN1.out.b5.fr
                go_wp2
                go_roundw
                case rel => exact ⟨pos + k, r, pos, -1, by omega, by omega, ((HN1.out.last pos).ahead r), by rw [Hid, HC.out]; rfl, fun h => by omega, HNW.out⟩
                case measure => have h1 := ((HN1.out.last pos).ahead r).hip; rw [hip, h1]; omega
        · have hnx := fun ty => Lib.run_next_end_at (P := Tryd.prog) wr (w.heap.size + 1 + 1 + 1 + 1) s pos ty HN.out.it hp
          have HE : Hid (s.data.toList.drop pos = []) := by rw [Hid]; exact List.drop_of_length_le (by rw [HS.out]; omega)
          have hps : pos = s.size := by omega
          subst hps
          by_cases hA : ctlN ah = true
          · have hv : wv = (la : Int) := by rw [HV.out, if_pos hA]
            have HW : Hid (wrongAt 0 (pcs s.data.toList) = some la) := by rw [Hid, HU.out, hA]; rfl
            subst hv
            clear hA HV HU H0
            have c2a := cellAt HN.out.b2 0 _ rfl
            have c2b := cellAt HN.out.b2 1 _ rfl
            have f2 := frzAt HN.out.b2
            have c3 := HN.out.b3.c
            have f3 := HN.out.b3.fr
            have c4 := HN.out.b4.c
            have f4 := HN.out.b4.fr
            have c5 := HN.out.b5.c
            have f5 := HN.out.b5.fr
            go_wp2_with fail
            clear c2a c2b f2 c3 c4 c5 f3 f4 f5
            refine (look_no _ _ _ _ (s.size : Int) la _ _ HN.out.b4 HN.out.b5 HN.out.b3 (by omega) (by omega) (.inl (by omega))).mono ?_
            rintro e w' ⟨rfl, rfl⟩
            have c2a := cellAt HN.out.b2 0 _ rfl
            have c2b := cellAt HN.out.b2 1 _ rfl
            have f2 := frzAt HN.out.b2
            have c3 := HN.out.b3.c
            have f3 := HN.out.b3.fr
            have c4 := HN.out.b4.c
            have f4 := HN.out.b4.fr
            have c5 := HN.out.b5.c
            have f5 := HN.out.b5.fr
            go_wp2
            exact bodyPost_ret (v := spotV (140, (la : Int))) (by simp [results, Tryd.results68, go_sem, spotV, *]) rfl ⟨by rw [HF.out, HW.out], HN.out.done _ _⟩
          · have hv : wv = -1 := by rw [HV.out, if_neg hA]
            have hA' : ctlN ah = false := by simpa using hA
            subst hv
            by_cases hB : ah = 65533 ∧ s.size - la < 3
            · have HW : Hid (wrongAt 0 (pcs s.data.toList) = some la) := by rw [Hid, HU.out, hB.1]; simp [hB.2]
              have hq := hB.1
              have hq2 := hB.2
              clear hA hA' HV HU H0 hB
              have c2a := cellAt HN.out.b2 0 _ rfl
              have c2b := cellAt HN.out.b2 1 _ rfl
              have f2 := frzAt HN.out.b2
              have c3 := HN.out.b3.c
              have f3 := HN.out.b3.fr
              have c4 := HN.out.b4.c
              have f4 := HN.out.b4.fr
              have c5 := HN.out.b5.c
              have f5 := HN.out.b5.fr
              go_wp2_with fail
              clear c2a c2b f2 c3 c4 c5 f3 f4 f5
              refine (look_yes wr _ _ _ (s.size : Int) (-1) ah la HN.out.b4 HN.out.b5 HN.out.b3 (by omega) (by omega) (by omega) hq (by omega)).mono ?_
              rintro e w' ⟨rfl, rfl⟩
              have HN2 := Lib.hid (HN.out.wrong (la : Int))
              generalize wr.setCell ⟨w.heap.size + 1 + 1, 0, none⟩ (.int .i64 (la : Int)) = wm at *
              have c2a := cellAt HN2.out.b2 0 _ rfl
              have c2b := cellAt HN2.out.b2 1 _ rfl
              have f2 := frzAt HN2.out.b2
              have c3 := HN2.out.b3.c
              have f3 := HN2.out.b3.fr
              have c4 := HN2.out.b4.c
              have f4 := HN2.out.b4.fr
              have c5 := HN2.out.b5.c
              have f5 := HN2.out.b5.fr
              go_wp2
              exact bodyPost_ret (v := spotV (140, (la : Int))) (by simp [results, Tryd.results68, go_sem, spotV, *]) rfl ⟨by rw [HF.out, HW.out], HN2.out.done _ _⟩
            · have hno : 0 ≤ (-1 : Int) ∨ ah ≠ 65533 ∨ 3 ≤ (s.size : Int) - la := by
                by_cases h1 : ah = 65533
                · have := fun h => hB ⟨h1, h⟩; omega
                · exact .inr (.inl h1)
              have HW : Hid (wrongAt 0 (pcs s.data.toList) = none) := by
                rw [Hid, HU.out, hA', Bool.false_or, HE.out]
                by_cases h1 : ah = 65533
                · have h2 : ¬ s.size - la < 3 := fun h => hB ⟨h1, h⟩
                  simp [h2, pcs_nil, wrongAt]
                · simp [h1, pcs_nil, wrongAt]
              clear hA hA' hB HV HU H0
              have c2a := cellAt HN.out.b2 0 _ rfl
              have c2b := cellAt HN.out.b2 1 _ rfl
              have f2 := frzAt HN.out.b2
              have c3 := HN.out.b3.c
              have f3 := HN.out.b3.fr
              have c4 := HN.out.b4.c
              have f4 := HN.out.b4.fr
              have c5 := HN.out.b5.c
              have f5 := HN.out.b5.fr
              go_wp2_with fail
              clear c2a c2b f2 c3 c4 c5 f3 f4 f5
              refine (look_no wr _ _ _ (s.size : Int) (-1) ah la HN.out.b4 HN.out.b5 HN.out.b3 (by omega) (by omega) hno).mono ?_
              rintro e w' ⟨rfl, rfl⟩
              have c2a := cellAt HN.out.b2 0 _ rfl
              have c2b := cellAt HN.out.b2 1 _ rfl
              have f2 := frzAt HN.out.b2
              have c3 := HN.out.b3.c
              have f3 := HN.out.b3.fr
              have c4 := HN.out.b4.c
              have f4 := HN.out.b4.fr
              have c5 := HN.out.b5.c
              have f5 := HN.out.b5.fr
              go_wp2
              exact bodyPost_ret (v := spotV (0, 0)) (by simp [results, Tryd.results68, go_sem, spotV, *]) rfl ⟨by rw [HF.out, HW.out], HN.out.done _ _⟩
end Go.Proofs.YtcomcoolmabmgaaDoor

namespace Go.Proofs.YtcomcoolmabmgaaDoor
set_option linter.unnecessarySimpa false
open Go.RowKit
set_option linter.unusedVariables false
set_option linter.unusedSimpArgs false

section append
variable {P : Program} (w : World)
/-- append of whatever source onto a row of the call's own. -/
theorem run_append_own_src2 (base : Nat) (t tx ty e : TypeId) (i : TypeInfo) (z : Value) (size bytes : Nat) (ht : P.underlying t = some (.slice e)) (hi : P.info? e = some i) (hz : i.zero = some z)
    (hsize : i.size = size) (hby : i.bytes = bytes) (hzs : z.cells.size = size) (hsz : 0 < size)
    (v : Value) (n : Nat) (xs : List Value) (hown : w.ownsRow base e size v n xs)
    (x : Value) (m : Nat) (news : List Value) (hs : Src P size tx x m news w)
    (hbytes : (n + m) * bytes ≤ 140737488355328) (h63 : n + m ≤ maxLen) (hbase : base ≤ w.heap.size) :
    ∃ v' w', (Builtin.append_ #[t, tx] ty #[v, x]).run P w = .ok v' w' ∧ w'.ownsRow base e size v' (n + m) (xs ++ news) ∧ w.grownBy w' v.ownBlock ∧ (v'.ownBlock = v.ownBlock ∨ v'.ownBlock = some w.heap.size) := by
  subst hsize
  subst hby
  have hsmall : n + m ≤ 9223372036854775807 := by simp only [maxLen] at h63; omega
  have hl := hs.newsLen
  have hlen : (xs ++ news).length = (n + m) * i.size := by rw [List.length_append, hown.1, hl, Nat.add_mul]
  obtain ⟨A, c, hv, hfirst⟩ := ownsRow_first (P := P) w hown
  subst hv
  by_cases hroom : n + m ≤ c
  · rcases hown.2 with ⟨he, rfl⟩ | ⟨g, cap, cur, he, hbg, hg, hnc, hcm, hcs, htake⟩
    · simp only [Value.slice.injEq] at he
      obtain ⟨rfl, -, rfl⟩ := he
      obtain rfl : m = 0 := by omega
      have hn : news = [] := List.eq_nil_of_length_eq_zero (by simpa using hl)
      subst hn
      have hx : xs = [] := List.eq_nil_of_length_eq_zero (by simpa using hown.1)
      subst hx
      refine ⟨.slice none 0 0, w, ?_, World.ownsRow_nil w base e i.size, ⟨rfl, rfl, rfl, Nat.le_refl _, fun _ _ _ => rfl⟩, .inl rfl⟩
      rcases hs.kind with ⟨e', hk⟩ | hk <;> simp [Builtin.append_, run_underlying ht, run_underlying hk, sizeOf, typeInfo, hi, hs.len, hs.cells]
    · simp only [Value.slice.injEq, true_and] at he
      obtain ⟨rfl, rfl⟩ := he
      have hfit : n * i.size + news.length ≤ cur.size := by rw [hl, hcs, ← Nat.add_mul]; exact Nat.mul_le_mul_right _ hroom
      have hst := run_storeCells_at P g (n * i.size) e news 0 cur w hg (by simpa using hfit) hs.one
      simp only [Nat.add_zero] at hst
      refine ⟨.slice (some ⟨g, 0, none⟩) (n + m) c, w.setRow g (cur.toList.take (n * i.size) ++ news ++ cur.toList.drop (n * i.size + news.length)).toArray, ?_, ?_, ?_, .inl rfl⟩
      · rcases hs.kind with ⟨e', hk⟩ | hk <;> simp [Builtin.append_, run_underlying ht, run_underlying hk, sizeOf, typeInfo, hi, hs.len, hroom, hs.cells, Addr.add_lit, hst]
      · refine ⟨hlen, .inr ⟨g, c, _, rfl, hbg, setRow_heap w g cur _ e _ hg, hroom, hcm, ?_, ?_⟩⟩
        · simp only [List.size_toArray, List.length_append, List.length_take, List.length_drop, Array.length_toList]
          have hms : (n + m) * i.size ≤ c * i.size := Nat.mul_le_mul_right _ hroom
          rw [Nat.add_mul] at hms
          omega
        · rw [htake, ← hlen]
          exact List.take_left
      · exact ⟨rfl, rfl, rfl, by simp [World.setRow], fun k _ hk => setRow_other w g k _ (fun e => hk (by simp [Value.ownBlock, e]))⟩
  · refine ⟨_, _, run_append_grow_src (P := P) w t tx ty e i z ht hi hz A n c xs hfirst x m news hs (by omega) (by omega) (growslice_fits (by omega) hbytes), ?_, ?_, .inr rfl⟩
    · have hge := grownCap_ge w (n + m) c e
      have hcm : grownCap w (n + m) c e ≤ maxLen := grownCap_le_maxLen w (n + m) c e h63
      refine ⟨hlen, .inr ⟨w.heap.size, _, _, rfl, hbase, heap_alloc_new w.drew _, hge, hcm, ?_, ?_⟩⟩
      · simp only [Array.size_append, List.size_toArray, size_zeroCells, hzs, hlen, ← Nat.add_mul]
        congr 1
        omega
      · simp only [Array.toList_append]
        rw [← hlen]
        exact List.take_left
    · exact ⟨rfl, rfl, rfl, by simp, fun k hk _ => heap_alloc_old w.drew _ hk⟩

end append

section
variable {P : Program} {w : World}
theorem wp_app2 {o : Oper} {a : Act} {K : Act → World → Prop} {Q : Exit → Act → World → Prop} (s x : Operand) (t tx : TypeId)
    (ho : o.op = .call { callee := .builtin .append, args := #[s, x], argTypes := #[t, tx] })
    (base : Nat) (e : TypeId) (z : Value) (size bytes : Nat) (hinfo : (P.info? e).map (fun i => (i.zero, i.size, i.bytes)) = some (some z, size, bytes)) (ht : P.underlying t = some (.slice e))
    (hzs : z.cells.size = size) (hsz : 0 < size)
    (v xv : Value) (n m : Nat) (xs news : List Value) (hs : a.eval s = v) (hx : a.eval x = xv)
    (hown : w.ownsRow base e size v n xs) (hsrc : Src P size tx xv m news w)
    (hbytes : (n + m) * bytes ≤ 140737488355328) (h63 : n + m ≤ maxLen) (hbase : base ≤ w.heap.size)
    (h : ∀ v' w', w'.ownsRow base e size v' (n + m) (xs ++ news) → w.grownBy w' v.ownBlock → (v'.ownBlock = v.ownBlock ∨ v'.ownBlock = some w.heap.size) → K (a.put o.dst v') w') : o.wp P a w K Q := by
  obtain ⟨i, hi, hz0, hz1, hz2⟩ := info_parts hinfo
  obtain ⟨v', w', hr, h2, h3, h4⟩ := run_append_own_src2 (P := P) w base t tx o.type e i z size bytes ht hi hz0 hz1 hz2 hzs hsz v n xs hown xv m news hsrc hbytes h63 hbase
  unfold Oper.wp execOp
  simp only [ho, resolve, invoke, builtin, Sem.run_bind, Sem.run_pure, Result.andThen_ok, List.map_toArray, List.map_cons, List.map_nil, hs, hx, hr]
  exact h v' w' h2 h3 h4
end
/-- A row that is the other's, or a new one. -/
def From (w : World) (v v' : Value) : Prop := ∀ b, v'.ownBlock = some b → v.ownBlock = some b ∨ w.heap.size ≤ b
theorem From.refl (w : World) (v : Value) : From w v v := fun b hb => .inl hb
theorem From.trans {w w' : World} {v v' v'' : Value} (h : From w v v') (hs : w.heap.size ≤ w'.heap.size) (h' : From w' v' v'') : From w v v'' := by
  intro b hb
  rcases h' b hb with e | e
  · exact h b e
  · exact .inr (Nat.le_trans hs e)
theorem From.ofApp {w : World} {v v' : Value} (h : v'.ownBlock = v.ownBlock ∨ v'.ownBlock = some w.heap.size) : From w v v' := by
  intro b hb
  rcases h with e | e
  · exact .inl (e ▸ hb)
  · rw [hb] at e; cases e; exact .inr (Nat.le_refl _)
end Go.Proofs.YtcomcoolmabmgaaDoor

namespace Go.Proofs.YtcomcoolmabmgaaDoor
set_option linter.unnecessarySimpa false
open Go.RowKit
set_option linter.unusedVariables false
set_option linter.unusedSimpArgs false

theorem ownsRow_cells {w : World} {base size n : Nat} {e : TypeId} {v : Value} {xs : List Value} (h : w.ownsRow base e size v n xs) : ∀ k, v.ownBlock = some k → ∃ c fz, w.heap[k]? = some (.cells c e fz) := by
  intro k hk
  rcases h.2 with ⟨rfl, _⟩ | ⟨g, cap, cur, rfl, _, hg, _⟩
  · simp [Value.ownBlock] at hk
  · simp [Value.ownBlock] at hk
    subst hk
    exact ⟨cur, _, hg⟩
theorem ownsRow_chg {S : Nat → Prop} {w w' : World} {base size n : Nat} {e : TypeId} {v : Value} {xs : List Value} (h : w.ownsRow base e size v n xs) (hc : Chg S w w') (hs : ∀ b, v.ownBlock = some b → ¬ S b) : w'.ownsRow base e size v n xs := by
  obtain ⟨h1, h2⟩ := h
  refine ⟨h1, h2.imp id ?_⟩
  rintro ⟨g, cap, cur, rfl, hg, hh, r⟩
  exact ⟨g, cap, cur, rfl, hg, hc.heap hh (hs g rfl), r⟩
theorem ownsRow_form {w : World} {base size n : Nat} {e : TypeId} {v : Value} {xs : List Value} (h : w.ownsRow base e size v n xs) : ∃ A c, v = .slice A n c := by
  rcases h.2 with ⟨rfl, rfl⟩ | ⟨g, cap, cur, rfl, _⟩
  · exact ⟨_, _, rfl⟩
  · exact ⟨_, _, rfl⟩
section
variable {P : Program} {w : World}
theorem wpList_app2 {ops : Array Oper} {rest : List Oper} {o : Oper} {a : Act} {Q : Exit → Act → World → Prop} (hgd : o.guard = none) (s x : Operand) (t tx : TypeId)
    (ho : o.op = .call { callee := .builtin .append, args := #[s, x], argTypes := #[t, tx] })
    (base : Nat) (e : TypeId) (z : Value) (size bytes : Nat) (hinfo : (P.info? e).map (fun i => (i.zero, i.size, i.bytes)) = some (some z, size, bytes)) (ht : P.underlying t = some (.slice e))
    (hzs : z.cells.size = size) (hsz : 0 < size)
    (v xv : Value) (n m : Nat) (xs news : List Value) (hs : a.eval s = v) (hx : a.eval x = xv)
    (hown : w.ownsRow base e size v n xs) (hsrc : Src P size tx xv m news w)
    (hbytes : (n + m) * bytes ≤ 140737488355328) (h63 : n + m ≤ maxLen) (hbase : base ≤ w.heap.size)
    (h : ∀ v' w', w'.ownsRow base e size v' (n + m) (xs ++ news) → w.grownBy w' v.ownBlock → (v'.ownBlock = v.ownBlock ∨ v'.ownBlock = some w.heap.size) → wpList P ops Q rest (a.put o.dst v') w') : wpList P ops Q (o :: rest) a w := by
  refine wpList_plain hgd fun _ hK => ?_
  exact wp_app2 s x t tx ho base e z size bytes hinfo ht hzs hsz v xv n m xs news hs hx hown hsrc hbytes h63 hbase (fun v' w' h1 h2 h3 => hK _ _ (h v' w' h1 h2 h3))
end

end Go.Proofs.YtcomcoolmabmgaaDoor

namespace Go.Proofs.YtcomcoolmabmgaaDoor
set_option linter.unnecessarySimpa false
open Go.RowKit
set_option linter.unusedVariables false
set_option linter.unusedSimpArgs false
set_option maxRecDepth 100000

/-- A text cut at each stroke. -/
def spl : List UInt8 → List UInt8 → List (List UInt8)
  | acc, [] => [acc]
  | acc, b :: r => if b = 47 then acc :: spl [] r else spl (acc ++ [b]) r
def partsL (p : List UInt8) : List (List UInt8) := if p = [] then [] else spl [] p
def joinL (l : List (List UInt8)) : List UInt8 := Lib.join l [47]
/-- x ahead of the first piece. -/
def ahead (x : List UInt8) : List (List UInt8) → List (List UInt8)
  | [] => []
  | h :: t => (x ++ h) :: t
theorem spl_ahead : ∀ (r acc : List UInt8), spl acc r = ahead acc (spl [] r) := by
  intro r
  induction r with
  | nil => intro acc; simp [spl, ahead]
  | cons b r ih =>
    intro acc
    by_cases h : b = 47
    · simp [spl, h, ahead]
    · simp only [spl, if_neg h, List.nil_append]
      rw [ih (acc ++ [b]), ih [b]]
      cases spl [] r <;> simp [ahead]
theorem spl_ne (acc r : List UInt8) : spl acc r ≠ [] := by
  induction r generalizing acc with
  | nil => simp [spl]
  | cons b r ih =>
    rw [spl]
    split
    · simp
    · exact ih _
theorem splitK_spl (s : List UInt8) : Lib.splitK [47] 0 (Lib.count s [47]) s = spl [] s := by
  have hstep : ∀ (b : UInt8) (l : List UInt8) (k : Nat), b ≠ 47 → Lib.splitK [47] 0 k (b :: l) = ahead [b] (Lib.splitK [47] 0 k l) := by
    intro b l k hb
    cases k with
    | zero => rfl
    | succ k =>
      have hi : Lib.index (b :: l) [47] = if Lib.index l [47] == -1 then -1 else Lib.index l [47] + 1 := by
        have hp : ([47] : List UInt8).isPrefixOf (b :: l) = false := by simp [List.isPrefixOf, Ne.symm hb]
        rw [Lib.index, hp]; simp
      have hge := Lib.index_ge l [47]
      rw [Lib.splitK, Lib.splitK, hi]
      by_cases hm : Lib.index l [47] = -1
      · rw [hm]; rfl
      · obtain ⟨i, hi2⟩ : ∃ i : Nat, Lib.index l [47] = i := ⟨(Lib.index l [47]).toNat, by omega⟩
        have h1 : ((Lib.index l [47]) == -1) = false := beq_eq_false_iff_ne.2 hm
        have h2 : ((Lib.index l [47] + 1) == -1) = false := beq_eq_false_iff_ne.2 (by omega)
        simp only [h1, Bool.false_eq_true, if_false, h2]
        rw [hi2]
        have e1 : ((i : Int) + 1).toNat = i + 1 := by omega
        have e2 : ((i : Int)).toNat = i := by omega
        rw [e1, e2]
        simp [ahead]
  induction s with
  | nil => rfl
  | cons b l ih =>
    by_cases h : b = 47
    · subst h
      have hi : Lib.index (47 :: l) [47] = 0 := by rw [Lib.index]; simp [List.isPrefixOf]
      rw [Lib.count_cons_eq, Nat.add_comm, Lib.splitK, hi]
      simp [spl]
      exact ih
    · rw [Lib.count_cons_ne b 47 l h, hstep b l _ h, ih]
      simp only [spl, if_neg h, List.nil_append]
      rw [spl_ahead l [b]]
theorem join_cons2 (x : List UInt8) (r : List (List UInt8)) : joinL (x :: r) = x ++ Lib.joinTail [47] r := Lib.join_cons x r [47]
theorem joinTail_cons (y : List UInt8) (r : List (List UInt8)) : Lib.joinTail [47] (y :: r) = 47 :: (y ++ Lib.joinTail [47] r) := by simp [Lib.joinTail]
theorem join_ahead (x : List UInt8) (l : List (List UInt8)) (h : l ≠ []) : joinL (ahead x l) = x ++ joinL l := by
  cases l with
  | nil => exact absurd rfl h
  | cons y r => rw [ahead, join_cons2, join_cons2, List.append_assoc]
theorem join_spl (s : List UInt8) : joinL (spl [] s) = s := by
  induction s with
  | nil => rfl
  | cons b l ih =>
    by_cases h : b = 47
    · subst h
      simp only [spl, if_true]
      rw [join_cons2]
      have hne := spl_ne [] l
      generalize spl [] l = m at *
      cases m with
      | nil => exact absurd rfl hne
      | cons y r => rw [joinTail_cons, ← join_cons2, ih]; rfl
    · simp only [spl, if_neg h, List.nil_append]
      rw [spl_ahead, join_ahead _ _ (spl_ne _ _), ih]; rfl
theorem join_parts (p : List UInt8) : joinL (partsL p) = p := by
  unfold partsL
  split
  · rename_i h; subst h; rfl
  · exact join_spl p
/-- Pieces without a stroke come back. -/
theorem spl_flat (x : List UInt8) (hx : (47 : UInt8) ∉ x) : ∀ acc, spl acc x = [acc ++ x] := by
  induction x with
  | nil => intro acc; simp [spl]
  | cons b r ih =>
    intro acc
    have hb : b ≠ 47 := by rintro rfl; exact hx (by simp)
    rw [spl, if_neg hb, ih (fun h => hx (by simp [h]))]
    simp
theorem spl_app (x : List UInt8) (hx : (47 : UInt8) ∉ x) (r : List UInt8) : ∀ acc, spl acc (x ++ 47 :: r) = (acc ++ x) :: spl [] r := by
  induction x with
  | nil => intro acc; simp [spl]
  | cons b y ih =>
    intro acc
    have hb : b ≠ 47 := by rintro rfl; exact hx (by simp)
    rw [List.cons_append, spl, if_neg hb, ih (fun h => hx (by simp [h]))]
    simp
theorem spl_join : ∀ (l : List (List UInt8)), l ≠ [] → (∀ x ∈ l, (47 : UInt8) ∉ x) → spl [] (joinL l) = l := by
  intro l
  induction l with
  | nil => intro h; exact absurd rfl h
  | cons x r ih =>
    intro _ hx
    cases r with
    | nil => rw [show joinL [x] = x from Lib.join_one x [47], spl_flat x (hx x (by simp))]; simp
    | cons y r =>
      rw [join_cons2, joinTail_cons, ← join_cons2, spl_app x (hx x (by simp)), ih (by simp) (fun z hz => hx z (by simp [hz]))]
      simp
theorem spl_pieces : ∀ (s acc : List UInt8), (47 : UInt8) ∉ acc → ∀ x ∈ spl acc s, (47 : UInt8) ∉ x := by
  intro s
  induction s with
  | nil => intro acc h x hx; simp [spl] at hx; subst hx; exact h
  | cons b r ih =>
    intro acc h x hx
    rw [spl] at hx
    split at hx
    · rcases List.mem_cons.1 hx with rfl | hx
      · exact h
      · exact ih [] (by simp) x hx
    · rename_i hb
      exact ih (acc ++ [b]) (by simp [h]; exact fun e => hb e.symm) x hx
theorem spl_len : ∀ (s acc : List UInt8), (spl acc s).length ≤ s.length + 1 := by
  intro s
  induction s with
  | nil => intro acc; simp [spl]
  | cons b r ih =>
    intro acc
    rw [spl]
    split
    · simp only [List.length_cons]; have := ih []; omega
    · simp only [List.length_cons]; have := ih (acc ++ [b]); omega
theorem parts_len (p : List UInt8) : (partsL p).length ≤ p.length + 1 := by
  unfold partsL
  split
  · simp
  · exact spl_len p []

/-- Rows of texts of the call's own. -/
def OwnS (w : World) (base : Nat) (v : Value) (n : Nat) (l : List (List UInt8)) : Prop := w.ownsRow base 9 1 v n (l.map strv)
theorem OwnS.sl {w : World} {base : Nat} {A : Option Addr} {n c : Nat} {l : List (List UInt8)} (h : OwnS w base (.slice A n c) n l) (hl : l.length = n) : Sl strv w (.slice A n c) l := by
  subst hl; exact Holds.ofOwn h
theorem OwnS.lit (w : World) (l : List (List UInt8)) (hb : l.length ≤ maxLen) : OwnS (w.alloc (.cells (l.map strv).toArray 9)) w.heap.size (.slice (some ⟨w.heap.size, 0, none⟩) l.length l.length) l.length l :=
  ⟨by simp, .inr ⟨w.heap.size, l.length, (l.map strv).toArray, rfl, Nat.le_refl _, heap_alloc_new w _, Nat.le_refl _, hb, by simp, by simp; exact List.take_of_length_le (by simp)⟩⟩
theorem split_calls (w : World) (s : ByteArray) (hs : s.size < 4294967281) :
    Calls Tryd.prog 83 #[.string s, .string ⟨#[47]⟩] w fun e w' => e = .returned (.slice (some ⟨w.heap.size, 0, none⟩) (spl [] s.data.toList).length (spl [] s.data.toList).length) ∧ w' = w.alloc (.cells ((spl [] s.data.toList).map strv).toArray 9) := by
  have h1 : 1 ≤ (⟨#[47]⟩ : ByteArray).size := by decide
  have hle := Lib.countB_le ⟨#[47]⟩ h1 s.size s (Nat.le_refl _)
  have hlen := Lib.splitB_all ⟨#[47]⟩ h1 0 _ s rfl
  have hI : ∀ (x : ByteArray) (c : Array Value), x.size ≤ s.size → Calls Tryd.prog 106 #[.string x, .string ⟨#[47]⟩] (w.alloc (.cells c 9)) fun e w' => e = .returned (.int .i64 (Lib.indexB x ⟨#[47]⟩)) ∧ w' = w.alloc (.cells c 9) := by
    intro x c _
    have := Tryd.strings_Index_one x 47 (w.alloc (.cells c 9))
    rw [← Lib.index_one] at this
    exact this
  have hC : Calls Tryd.prog 105 #[.string s, .string ⟨#[47]⟩] w fun e w' => e = .returned (.int .i64 (Lib.countB s ⟨#[47]⟩)) ∧ w' = w := by
    have := Tryd.strings_Count_one s 47 w
    rw [Lib.countByte, ← Lib.count_one] at this
    exact this
  have c := Any.strings_genSplit_core Tryd.lays221 (by kernel_rfl) s ⟨#[47]⟩ 0 (-1) (Lib.countB s ⟨#[47]⟩ + 1) w hs h1 (Nat.zero_le _) hI hC (by decide) (by decide) (by rw [if_pos (by decide)]; omega)
  rw [Nat.add_sub_cancel, hlen] at c
  have e2 : Lib.cellsOf (Lib.splitB ⟨#[47]⟩ 0 (Lib.countB s ⟨#[47]⟩) s) (Lib.countB s ⟨#[47]⟩ + 1) = ((Lib.splitB ⟨#[47]⟩ 0 (Lib.countB s ⟨#[47]⟩) s).map Value.string).toArray := by rw [← hlen]; exact Lib.cellsOf_full _
  have e3 : (Lib.splitB ⟨#[47]⟩ 0 (Lib.countB s ⟨#[47]⟩) s).map Value.string = (spl [] s.data.toList).map strv := by
    rw [← splitK_spl]
    have := Lib.splitB_data ⟨#[47]⟩ 0 (Lib.countB s ⟨#[47]⟩) s
    have h4 : (Lib.splitK [47] 0 (Lib.count s.data.toList [47]) s.data.toList) = (Lib.splitB ⟨#[47]⟩ 0 (Lib.countB s ⟨#[47]⟩) s).map (·.data.toList) := this.symm
    rw [h4, List.map_map]
    refine List.map_congr_left fun x _ => ?_
    show Value.string x = strv x.data.toList
    rw [strv, mkS_self]
  have e4 : (spl [] s.data.toList).length = Lib.countB s ⟨#[47]⟩ + 1 := by
    have := congrArg List.length e3
    rw [List.length_map, List.length_map, hlen] at this
    exact this.symm
  rw [e2, e3] at c
  have hc : Calls Tryd.prog 95 #[.string s, .string ⟨#[47]⟩, .int .i64 0, .int .i64 (-1)] w fun e w' => e = .returned (.slice (some ⟨w.heap.size, 0, none⟩) (Lib.countB s ⟨#[47]⟩ + 1) (Lib.countB s ⟨#[47]⟩ + 1)) ∧ w' = w.alloc (.cells ((spl [] s.data.toList).map strv).toArray 9) := c
  rw [e4]
  have HC := Lib.hid hc
  clear c hc e2 e3 e4 hlen hle hI hC h1
  generalize Lib.countB s ⟨#[47]⟩ + 1 = n at *
  generalize ((spl [] s.data.toList).map strv).toArray = arr at *
  go_enter Tryd.func83, Tryd.ntmps83
  go_wp2_with (go_at_call 95; refine HC.out.mono ?_; rintro e w' ⟨rfl, hw⟩; rw [hw])
  go_ret
  exact ⟨rfl, rfl⟩
/-- What parts answers: the pieces, in memory of their own. -/
def PartsR (w w' : World) (e : Ending) (l : List (List UInt8)) : Prop := ∃ A n c, e = .returned (.slice A n c) ∧ l.length = n ∧ OwnS w' w.heap.size (.slice A n c) n l ∧ Chg No w w'
theorem parts_calls (w : World) (s : ByteArray) (hs : s.size < 4294967281) : Calls Tryd.prog 67 #[.string s] w fun e w' => PartsR w w' e (partsL s.data.toList) := by
  by_cases h0 : s.data.toList = []
  · have hs0 : s = ⟨#[]⟩ := by rw [← mkS_self s, h0]; rfl
    subst hs0
    go_enter Tryd.func67, Tryd.ntmps67
    go_wp2
    go_ret
    exact ⟨none, 0, 0, rfl, rfl, World.ownsRow_nil _ _ _ _, Chg.refl _ _⟩
  · have hsb : (s.toList == []) = false := bytes_ne h0
    have hse : s.toList.isEmpty = false := by rw [Lib.toList_data]; cases h : s.data.toList with | nil => exact absurd h h0 | cons => rfl
    have hP : partsL s.data.toList = spl [] s.data.toList := if_neg h0
    have hlen : (spl [] s.data.toList).length ≤ maxLen := by have := spl_len s.data.toList []; have := size_list s; unfold maxLen; omega
    have HC := Lib.hid (split_calls w s hs)
    have HP := Lib.hid hP
    have HO := Lib.hid (OwnS.lit w (spl [] s.data.toList) hlen)
    clear hP h0 hlen
    rw [HP.out]
    generalize spl [] s.data.toList = l at *
    generalize hll : l.length = n at *
    have HL := Lib.hid hll
    clear hll
    have HCH : Hid (Chg No w (w.alloc (.cells (l.map strv).toArray 9))) := (Chg.refl No w).alloc _
    generalize w.alloc (.cells (l.map strv).toArray 9) = w1 at *
    go_enter Tryd.func67, Tryd.ntmps67
    go_wp2_with fail
    refine HC.out.mono ?_
    rintro e w' ⟨rfl, hw⟩
    obtain rfl := hw
    go_wp2
    go_ret
    exact ⟨_, _, _, rfl, HL.out, HO.out, HCH.out⟩
theorem refparts_calls (w : World) (s : ByteArray) (hs : s.size < 4294967281) : Calls Tryd.prog 81 #[.string s] w fun e w' => PartsR w w' e (partsL s.data.toList) := by
  by_cases h0 : s.data.toList = []
  · have hs0 : s = ⟨#[]⟩ := by rw [← mkS_self s, h0]; rfl
    subst hs0
    go_enter Tryd.func81, Tryd.ntmps81
    go_wp2
    go_ret
    exact ⟨none, 0, 0, rfl, rfl, World.ownsRow_nil _ _ _ _, Chg.refl _ _⟩
  · have hsb : (s.toList == []) = false := bytes_ne h0
    have hse : s.toList.isEmpty = false := by rw [Lib.toList_data]; cases h : s.data.toList with | nil => exact absurd h h0 | cons => rfl
    have hP : partsL s.data.toList = spl [] s.data.toList := if_neg h0
    have hlen : (spl [] s.data.toList).length ≤ maxLen := by have := spl_len s.data.toList []; have := size_list s; unfold maxLen; omega
    have HC := Lib.hid (split_calls w s hs)
    have HP := Lib.hid hP
    have HO := Lib.hid (OwnS.lit w (spl [] s.data.toList) hlen)
    clear hP h0 hlen
    rw [HP.out]
    generalize spl [] s.data.toList = l at *
    generalize hll : l.length = n at *
    have HL := Lib.hid hll
    clear hll
    have HCH : Hid (Chg No w (w.alloc (.cells (l.map strv).toArray 9))) := (Chg.refl No w).alloc _
    generalize w.alloc (.cells (l.map strv).toArray 9) = w1 at *
    go_enter Tryd.func81, Tryd.ntmps81
    go_wp2_with fail
    refine HC.out.mono ?_
    rintro e w' ⟨rfl, hw⟩
    obtain rfl := hw
    go_wp2
    go_ret
    exact ⟨_, _, _, rfl, HL.out, HO.out, HCH.out⟩
end Go.Proofs.YtcomcoolmabmgaaDoor

namespace Go.Proofs.YtcomcoolmabmgaaDoor
set_option linter.unnecessarySimpa false
open Go.RowKit
set_option linter.unusedVariables false
set_option linter.unusedSimpArgs false
set_option maxRecDepth 100000

set_option maxHeartbeats 1000000 in
theorem hasprefix_calls (s p : ByteArray) (w : World) :
    Calls Tryd.prog 58 #[.string s, .string p] w fun e w' => e = .returned (.bool (Lib.hasPrefix s.data.toList p.data.toList)) ∧ w = w' := by
  rw [← Lib.hasPrefix_of_take, ← Lib.size_eq, ← Lib.size_eq]
  go_enter Tryd.func58, Tryd.ntmps58
  go_wp2
  · rename_i h
    go_ret
    refine ⟨?_, rfl⟩
    show Ending.returned (Value.bool ((s.extract 0 p.size).toList == p.toList)) = _
    rw [Lib.extract_toList, Lib.toList_data]
    simp [h]
  · rename_i h
    go_ret
    refine ⟨?_, rfl⟩
    show Ending.returned (Value.bool false) = _
    simp [h]
theorem fffd_calls (s : ByteArray) (i : Nat) (h : (decL (s.data.toList.drop i)).1 = 65533) (w : World) :
    Calls Tryd.prog 58 #[.string (s.extract i s.size), .string ⟨#[239, 191, 189]⟩] w fun e w' => e = .returned (.bool (!brk (s.data.toList.drop i))) ∧ w = w' := by
  have := hasprefix_calls (s.extract i s.size) ⟨#[239, 191, 189]⟩ w
  have e : (!brk (s.data.toList.drop i)) = Lib.hasPrefix (s.extract i s.size).data.toList [239, 191, 189] := by
    rw [extract_list]
    unfold brk Lib.hasPrefix
    rw [h]
    simp
  rw [e]
  exact this


set_option maxHeartbeats 3200000 in
theorem refspot_calls (w : World) (s : ByteArray) (hs : s.size ≤ 9223372036854775807) :
    Calls Tryd.prog 82 #[.string s] w fun e w' => e = .returned (spotV (spotF s.data.toList)) ∧ Chg No w w' := by
  have HS := Lib.hid (size_list s)
  by_cases h0 : s.data.toList = [] ∨ s.data.toList = [46] ∨ s.data.toList = [46, 46]
  · have HF : Hid (spotF s.data.toList = (140, 0)) := by rw [Hid, spotF, if_pos h0]
    have HE : s = ⟨#[]⟩ ∨ s = ⟨#[46]⟩ ∨ s = ⟨#[46, 46]⟩ := by
      rw [← mkS_self s]
      rcases h0 with h | h | h <;> rw [h] <;> simp [mkS]
    clear h0
    rcases HE with rfl | rfl | rfl
    · go_enter Tryd.func82, Tryd.ntmps82
      go_wp2
      exact bodyPost_ret (v := spotV (140, 0)) (by simp [results, Tryd.results82, go_sem, spotV]) rfl ⟨by rw [HF.out], (Chg.refl No w).alloc _⟩
    · go_enter Tryd.func82, Tryd.ntmps82
      go_wp2
      exact bodyPost_ret (v := spotV (140, 0)) (by simp [results, Tryd.results82, go_sem, spotV]) rfl ⟨by rw [HF.out], (Chg.refl No w).alloc _⟩
    · go_enter Tryd.func82, Tryd.ntmps82
      go_wp2
      exact bodyPost_ret (v := spotV (140, 0)) (by simp [results, Tryd.results82, go_sem, spotV]) rfl ⟨by rw [HF.out], (Chg.refl No w).alloc _⟩
  · have n1 := bytes_ne (fun h => h0 (.inl h))
    have n2 := bytes_ne (fun h => h0 (.inr (.inl h)))
    have n3 := bytes_ne (fun h => h0 (.inr (.inr h)))
    by_cases h32 : 32 < s.size
    · have HF : Hid (spotF s.data.toList = (3, 32)) := by rw [Hid, spotF, if_neg h0, if_pos (by rw [HS.out]; exact h32)]
      have b32 : (32 : Int) < (s.size : Int) := by omega
      clear h0
      go_enter Tryd.func82, Tryd.ntmps82
      go_wp2
      exact bodyPost_ret (v := spotV (3, 32)) (by simp [results, Tryd.results82, go_sem, spotV]) rfl ⟨by rw [HF.out], (Chg.refl No w).alloc _⟩
    · have HF := Lib.hid (show spotF s.data.toList = _ by rw [spotF, if_neg h0, if_neg (by rw [HS.out]; exact h32)])
      have b32 : ¬ (32 : Int) < (s.size : Int) := by omega
      clear h0
      go_enter Tryd.func82, Tryd.ntmps82
      go_wp2
      go_loopw [] (fun wr => ∃ pos : Nat, pos ≤ s.size ∧ Hid (wr.heap[(w.heap.size + 1)]? = some (.stringIter s pos)) ∧ Hid (wrongAt 0 (pcs s.data.toList) = wrongAt pos (pcs (s.data.toList.drop pos))) ∧ Hid (wr.heap[w.heap.size]? = some (.cells #[.int .i64 0, .int .i64 0] 26)) ∧ Hid (Chg No w wr)) (fun wr => s.size - wr.iterPos (w.heap.size + 1))
      case atStart =>
        refine ⟨0, Nat.zero_le _, ?_, rfl, (Chg.refl No (w.alloc (.cells #[.int .i64 0, .int .i64 0] 26))).alloc _ |>.heap (heap_alloc_new w _) (fun x => x), ((Chg.refl No w).alloc _).alloc _⟩
        have := World.iter_heap (w.alloc (.cells #[.int .i64 0, .int .i64 0] 26)) s 0
        rwa [World.size_alloc] at this
      case round =>
        obtain ⟨pos, hpos, HI, HU, HX, HC⟩ := hrel
        by_cases hp : pos < s.size
        · have hl := drop_ne hp
          obtain ⟨f1, f2, f3⟩ := decL_facts _ hl
          have HPC := Lib.hid (wrong_cons pos _ hl)
          have hnx := fun ty => Lib.run_next_any_at (P := Tryd.prog) wr (w.heap.size + 1) s pos ty HI.out hp
          rw [decode_drop] at hnx
          have HFF := Lib.hid (fun h w => fffd_calls s pos h w)
          have HBR : Hid ((decL (s.data.toList.drop pos)).1 ≠ 65533 → brk (s.data.toList.drop pos) = false) := fun h => by unfold brk; simp [h]
          rw [List.length_drop, HS.out] at f2
          rw [List.drop_drop] at HPC
          generalize decL (s.data.toList.drop pos) = D at *
          obtain ⟨r, k⟩ := D
          simp only at f1 f2 f3 hnx HPC HFF HBR
          have HC1 : Hid (Chg No w (wr.iterAt (w.heap.size + 1) s (pos + k))) := Chg.iterAt HC.out (by omega) _ _
          have HI1 : Hid ((wr.iterAt (w.heap.size + 1) s (pos + k)).heap[(w.heap.size + 1)]? = some (.stringIter s (pos + k))) := Lib.iterAt_heap wr (w.heap.size + 1) s pos (pos + k) HI.out
          have hip : wr.iterPos (w.heap.size + 1) = pos := iterPos_of HI.out
          have hip2 : (wr.iterAt (w.heap.size + 1) s (pos + k)).iterPos (w.heap.size + 1) = pos + k := iterPos_of HI1.out
          have HX1 : Hid ((wr.iterAt (w.heap.size + 1) s (pos + k)).heap[w.heap.size]? = some (.cells #[.int .i64 0, .int .i64 0] 26)) := (Chg.iterOne wr (w.heap.size + 1) s (pos + k)).heap HX.out (fun h => by have h : w.heap.size = w.heap.size + 1 := h; omega)
          generalize brk (s.data.toList.drop pos) = bk at *
          generalize (s.data.toList.drop pos).take k = bs at *
          clear hl
          generalize wr.iterAt (w.heap.size + 1) s (pos + k) = wn at *
          have hps : (pos : Int) ≤ (s.size : Int) := by omega
          have c0 := cellAt HX1.out 0 _ rfl
          have c1 := cellAt HX1.out 1 _ rfl
          have f0 := frzAt HX1.out 0
          have f1' := frzAt HX1.out 1
          by_cases hr : r = 65533
          · have hb2 : ((r : Int) == 65533) = true := by rw [hr]; rfl
            have HFR := Lib.hid (fun w => HFF.out hr w)
            have HR := Lib.hid hr
            have hb3 : ¬ (r : Int) < 32 := by omega
            have hb4 : ((r : Int) == 127) = false := by rw [hr]; rfl
            have hb5 : ((r : Int) == 47) = false := by rw [hr]; rfl
            clear hr HFF HBR
            cases bk with
            | true =>
              go_wp2_with fail
              refine (HFR.out _).mono ?_
              rintro e w' ⟨rfl, rfl⟩
              have HW : Hid (wrongAt 0 (pcs s.data.toList) = some pos) := by rw [Hid, HU.out, HPC.out]; simp [badN]
              have e0 := World.cell?_setCell_same wn ⟨w.heap.size, 0, none⟩ (.int .i64 140) c0
              go_wp2
              exact bodyPost_ret (v := spotV (140, (pos : Int))) (by simp [results, Tryd.results82, go_sem, spotV, c0, c1]) rfl ⟨by rw [HF.out, HW.out], (HC1.out.setCell (.inl (Nat.le_refl _)) _).setCell (.inl (Nat.le_refl _)) _⟩
            | false =>
              go_wp2_with fail
              refine (HFR.out _).mono ?_
              rintro e w' ⟨rfl, rfl⟩
              have HN : Hid (wrongAt 0 (pcs s.data.toList) = wrongAt (pos + k) (pcs (s.data.toList.drop (pos + k)))) := by rw [Hid, HU.out, HPC.out]; simp [badN, ctlN, HR.out]
              go_wp2
              go_roundw
              case rel => exact ⟨pos + k, by omega, HI1.out, HN.out, HX1.out, HC1.out⟩
              case measure => rw [hip, hip2]; omega
          · have hb2 : ((r : Int) == 65533) = false := by simp; omega
            have HBK := Lib.hid (HBR.out hr)
            clear HFF HBR
            by_cases hc : ctlN r = true
            · have HCT := Lib.hid hc
              by_cases h32 : r < 32
              · have hb3 : (r : Int) < 32 := by omega
                clear hc hr
                have HW : Hid (wrongAt 0 (pcs s.data.toList) = some pos) := by rw [Hid, HU.out, HPC.out]; simp [badN, HCT.out]
                have e0 := World.cell?_setCell_same wn ⟨w.heap.size, 0, none⟩ (.int .i64 140) c0
                go_wp2
                exact bodyPost_ret (v := spotV (140, (pos : Int))) (by simp [results, Tryd.results82, go_sem, spotV, c0, c1]) rfl ⟨by rw [HF.out, HW.out], (HC1.out.setCell (.inl (Nat.le_refl _)) _).setCell (.inl (Nat.le_refl _)) _⟩
              · have hb3 : ¬ (r : Int) < 32 := by omega
                by_cases h127 : r = 127
                · have hb4 : ((r : Int) == 127) = true := by rw [h127]; rfl
                  clear hc hr
                  have HW : Hid (wrongAt 0 (pcs s.data.toList) = some pos) := by rw [Hid, HU.out, HPC.out]; simp [badN, HCT.out]
                  have e0 := World.cell?_setCell_same wn ⟨w.heap.size, 0, none⟩ (.int .i64 140) c0
                  go_wp2
                  exact bodyPost_ret (v := spotV (140, (pos : Int))) (by simp [results, Tryd.results82, go_sem, spotV, c0, c1]) rfl ⟨by rw [HF.out, HW.out], (HC1.out.setCell (.inl (Nat.le_refl _)) _).setCell (.inl (Nat.le_refl _)) _⟩
                · have hb4 : ((r : Int) == 127) = false := by simp; omega
                  have hb5 : ((r : Int) == 47) = true := by
                    simp only [ctlN, Bool.or_eq_true, decide_eq_true_eq, beq_iff_eq] at hc
                    rw [beq_iff_eq]; omega
                  clear hc hr h127
                  have HW : Hid (wrongAt 0 (pcs s.data.toList) = some pos) := by rw [Hid, HU.out, HPC.out]; simp [badN, HCT.out]
                  have e0 := World.cell?_setCell_same wn ⟨w.heap.size, 0, none⟩ (.int .i64 140) c0
                  go_wp2
                  exact bodyPost_ret (v := spotV (140, (pos : Int))) (by simp [results, Tryd.results82, go_sem, spotV, c0, c1]) rfl ⟨by rw [HF.out, HW.out], (HC1.out.setCell (.inl (Nat.le_refl _)) _).setCell (.inl (Nat.le_refl _)) _⟩
            · have HCT : Hid (ctlN r = false) := by simpa [Hid] using hc
              simp only [ctlN, Bool.or_eq_true, decide_eq_true_eq, beq_iff_eq, not_or] at hc
              have hb3 : ¬ (r : Int) < 32 := by omega
              have hb4 : ((r : Int) == 127) = false := by rw [beq_eq_false_iff_ne]; omega
              have hb5 : ((r : Int) == 47) = false := by rw [beq_eq_false_iff_ne]; omega
              clear hc hr
              have HN : Hid (wrongAt 0 (pcs s.data.toList) = wrongAt (pos + k) (pcs (s.data.toList.drop (pos + k)))) := by rw [Hid, HU.out, HPC.out]; simp [badN, HCT.out, HBK.out]
              go_wp2
              go_roundw
              case rel => exact ⟨pos + k, by omega, HI1.out, HN.out, HX1.out, HC1.out⟩
              case measure => rw [hip, hip2]; omega
        · have hnx := fun ty => Lib.run_next_end_at (P := Tryd.prog) wr (w.heap.size + 1) s pos ty HI.out hp
          have HE : Hid (s.data.toList.drop pos = []) := by rw [Hid]; exact List.drop_of_length_le (by rw [HS.out]; omega)
          have c0 := cellAt HX.out 0 _ rfl
          have c1 := cellAt HX.out 1 _ rfl
          have f0 := frzAt HX.out 0
          have f1 := frzAt HX.out 1
          have HW : Hid (wrongAt 0 (pcs s.data.toList) = none) := by rw [Hid, HU.out, HE.out]; rfl
          go_wp2
          exact bodyPost_ret (v := spotV (0, 0)) (by simp [results, Tryd.results82, go_sem, spotV, c0, c1]) rfl ⟨by rw [HF.out, HW.out], (HC.out.setCell (.inl (Nat.le_refl _)) _).setCell (.inl (Nat.le_refl _)) _⟩
end Go.Proofs.YtcomcoolmabmgaaDoor

