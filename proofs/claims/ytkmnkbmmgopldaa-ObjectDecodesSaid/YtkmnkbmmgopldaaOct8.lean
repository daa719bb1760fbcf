/-
  Contracts of octet's PutWord, PutText, Hex, Unhex.
-/
import Derived.Test.YtkmnkbmmgopldaaOct7
namespace Go.Proofs.Ytkmnkbmmgopldaa
open Go.RowKit
set_option linter.unusedVariables false
set_option linter.unusedSimpArgs false

/-- A number's wide form. -/
def wide (x : Nat) : List UInt8 := (List.range 8).map fun j => UInt8.ofNat (x / 256 ^ (7 - j))
theorem wide_len (x : Nat) : (wide x).length = 8 := by simp [wide]
theorem wide_take (x k : Nat) (hk : k < 8) : (wide x).take (k + 1) = (wide x).take k ++ [UInt8.ofNat (x / 256 ^ (7 - k))] := by
  rw [List.take_succ_eq_append_getElem (by rw [wide_len]; exact hk)]
  simp [wide]

theorem wide_byte (x k : Nat) (hk : k < 8) : ((UInt8.ofNat (x / 256 ^ (7 - k))).toNat : Int) = (x : Int) / 2 ^ (56 - 8 * k) % 256 := by
  have e : (2 : Nat) ^ (56 - 8 * k) = 256 ^ (7 - k) := by
    rw [show 56 - 8 * k = 8 * (7 - k) by omega, Nat.pow_mul]
  rw [UInt8.toNat_ofNat', ← e]
  simp

set_option maxRecDepth 100000 in
set_option maxHeartbeats 800000 in
theorem putword_calls (w : World) (A : Option Addr) (n c : Nat) (bs : List UInt8) (h : Bytes w (.slice A n c) bs) (hl : bs.length = n) (x : Nat) (xv : Int) (hxv : xv = (x : Int)) (hx64 : x < 18446744073709551616) (hx : n ≤ 140737488355318) :
    Calls Try.prog 54 #[.slice A n c, .int .u64 xv] w fun e w' => ∃ v, e = .returned v ∧ OwnB w' w.heap.size v (bs ++ wide x) ∧ Chg No w w' := by
  subst hxv
  have H := Lib.hid h
  have HL := Lib.hid hl
  clear h hl
  go_enter Try.func54, Try.ntmps54
  go_wp2_with fail
  refine (clone_any _ _ _ _ _ H.out (by omega)).mono ?_
  rintro e w1 ⟨v1, rfl, hown1, hc1⟩
  have HO1 := Lib.hid hown1
  have HC1 := Lib.hid hc1
  clear hown1 hc1
  go_wp2
  go_loopw [5, 6] (fun v s wr => ∃ k : Nat, k ≤ 8 ∧ s = .int .i64 (56 - 8 * (k : Int)) ∧ Hid (OwnB wr w.heap.size v (bs ++ (wide x).take k)) ∧ Hid (Chg No w wr)) (fun _ s _ => (intOf s + 8).toNat)
  case atStart => exact ⟨0, by omega, by simp, by simpa [Hid] using HO1.out, HC1.out⟩
  case round =>
    obtain ⟨k, hk, rfl, HO, HC⟩ := hrel
    have HLen : Hid (bs.length + 8 ≤ 140737488355328) := by have := HL.out; simp only [Hid]; omega
    by_cases hb : k < 8
    · have HT := Lib.hid (wide_take x k hb)
      have hs0 : 0 ≤ 56 - 8 * (k : Int) := by omega
      have HV := Lib.hid (wide_byte x k hb)
      have hsz : w.heap.size ≤ wr.heap.size := HC.out.size
      go_wp2_with (at_builtin; go_loud (refine wpList_app _ rfl (.tmp 13) (.tmp 18) 38 38 rfl w.heap.size 5 (.int .u8 0) 1 1 infoU8 Try.underlying38 rfl (by decide) u5 (.slice (some ⟨wr.heap.size, 0, none⟩) 1 1) (bs ++ (wide x).take k).length 1 (u8s (bs ++ (wide x).take k)) [.int .u8 ((x : Int) / 2 ^ (56 - 8 * k) % 256)] rfl rfl ?own ?src ?b1 ?b2 ?b3 ?_; (case own => exact HO.out.alloc _); (case src => exact Src.one Try.underlying38 _ rfl); (case b1 => simp only [List.length_append, List.length_take]; have := HLen.out; omega); (case b2 => unfold maxLen; simp only [List.length_append, List.length_take]; have := HLen.out; omega); (case b3 => simp; omega); intro v' w' hown hg))
      go_roundw
      case rel =>
        refine ⟨k + 1, by omega, by go_num, ?_, ?_⟩
        · refine OwnB.of hown ?_
          rw [HT.out, ← List.append_assoc]; exact u8s_snoc _ _ _ HV.out
        · exact (HC.out.alloc _).grown hg (fun k hk => .inl (HO.out.block k hk).1)
      case measure => simp [intOf]; omega
    · go_wp2
      go_ret
      have : k = 8 := by omega
      subst this
      have := HO.out
      rw [List.take_of_length_le (by rw [wide_len]; omega)] at this
      exact ⟨_, rfl, this, HC.out⟩

set_option maxHeartbeats 400000 in
theorem puttext_calls (w : World) (A : Option Addr) (n c : Nat) (bs : List UInt8) (h : Bytes w (.slice A n c) bs) (hl : bs.length = n) (s : ByteArray) (hx : n + s.size ≤ 140737488355318) :
    Calls Try.prog 56 #[.slice A n c, .string s] w fun e w' => ∃ v, e = .returned v ∧ OwnB w' w.heap.size v (bs ++ (leb s.size ++ s.data.toList)) ∧ Chg No w w' := by
  have H := Lib.hid h
  have HL := Lib.hid hl
  clear h hl
  go_enter Try.func56, Try.ntmps56
  go_wp2_with fail
  refine (putuint_calls _ _ _ _ bs H.out HL.out s.size _ rfl (by omega) (by omega)).mono ?_
  rintro e w1 ⟨v1, rfl, hown1, hc1⟩
  have HO1 := Lib.hid hown1
  have HC1 := Lib.hid hc1
  have hsz := hc1.size
  have hlen := leb_len10 s.size (by omega)
  have HLen := Lib.hid hlen
  clear hown1 hc1 hlen
  go_wp2_with (at_builtin; go_loud (refine wpList_app _ rfl (.tmp 9) (.tmp 10) 38 9 rfl w.heap.size 5 (.int .u8 0) 1 1 infoU8 Try.underlying38 rfl (by decide) v1 (.string s) (bs ++ leb s.size).length s.size (u8s (bs ++ leb s.size)) (u8s s.data.toList) rfl rfl ?own ?src ?b1 ?b2 ?b3 ?_; (case own => exact HO1.out); (case src => exact Src.ofText Try.underlying9 s); (case b1 => simp only [List.length_append]; have := HLen.out; have := HL.out; omega); (case b2 => unfold maxLen; simp only [List.length_append]; have := HLen.out; have := HL.out; omega); (case b3 => omega); intro v' w' hown hg))
  go_ret
  exact ⟨_, rfl, .of hown (by rw [← u8s_append, List.append_assoc]), HC1.out.grown hg (fun k hk => .inl (HO1.out.block k hk).1)⟩

/-- A digit. -/
def hexd (d : Nat) : UInt8 := UInt8.ofNat (if d < 10 then 48 + d else 87 + d)
/-- A number in sixteen digits. -/
def hexF (x : Nat) : List UInt8 := (List.range 16).map fun j => hexd (x / 16 ^ (15 - j) % 16)

theorem digits_get : ∀ (q : Nat) (h : q < 16), ((⟨#[48, 49, 50, 51, 52, 53, 54, 55, 56, 57, 97, 98, 99, 100, 101, 102]⟩ : ByteArray)[q]'h).toNat = (hexd q).toNat := by decide
theorem and15_u64 (y : Nat) (h : y < 18446744073709551616) : bits .and .u64 (y : Int) 15 = ((y % 16 : Nat) : Int) := by
  have := and_u64 y 15 h (by decide)
  rw [show ((15 : Nat) : Int) = 15 from rfl] at this
  rw [this, show 15 = 2 ^ 4 - 1 from rfl, Nat.and_two_pow_sub_one_eq_mod]

end Go.Proofs.Ytkmnkbmmgopldaa
