/-
  Contracts of octet.number.
-/
import Derived.Test.YtkmnkbmmgopldaaOct3
import Derived.Test.YtkmnkbmmgopldaaNum
namespace Go.Proofs.Ytkmnkbmmgopldaa
open Go.RowKit
set_option linter.unusedVariables false
set_option linter.unusedSimpArgs false

def numF : Nat → Nat → List UInt8 → Nat × Nat × Int
  | _, _, [] => (0, 0, 110)
  | i, x, c :: t =>
    if i = 9 ∧ 1 < c.toNat ∨ 0 < i ∧ c.toNat = 0 then (0, 0, 8)
    else if c.toNat < 128 then (x + c.toNat % 128 * 128 ^ i, i + 1, 0) else numF (i + 1) (x + c.toNat % 128 * 128 ^ i) t

theorem numF_bad (i x : Nat) (c : UInt8) (t : List UInt8) (h : i = 9 ∧ 1 < c.toNat ∨ 0 < i ∧ c.toNat = 0) : numF i x (c :: t) = (0, 0, 8) := by
  rw [numF, if_pos h]
theorem numF_last (i x : Nat) (c : UInt8) (t : List UInt8) (h : ¬ (i = 9 ∧ 1 < c.toNat ∨ 0 < i ∧ c.toNat = 0)) (hc : c.toNat < 128) : numF i x (c :: t) = (x + c.toNat % 128 * 128 ^ i, i + 1, 0) := by
  rw [numF, if_neg h, if_pos hc]
theorem numF_more (i x : Nat) (c : UInt8) (t : List UInt8) (h : ¬ (i = 9 ∧ 1 < c.toNat ∨ 0 < i ∧ c.toNat = 0)) (hc : ¬ c.toNat < 128) : numF i x (c :: t) = numF (i + 1) (x + c.toNat % 128 * 128 ^ i) t := by
  rw [numF, if_neg h, if_neg hc]
theorem acc_lt (k y u : Nat) (hy : y < 128 ^ k) : y + u % 128 * 128 ^ k < 128 ^ (k + 1) := by
  have h2 : u % 128 ≤ 127 := by omega
  have := Nat.mul_le_mul_right (128 ^ k) h2
  rw [Nat.pow_succ]; omega
theorem ret3 {a b c a' b' c' : Int} (h1 : a = a') (h2 : b = b') (h3 : c = c') : Ending.returned (.tuple #[.int .u64 a, .int .i64 b, .int .i64 c]) = .returned (.tuple #[.int .u64 a', .int .i64 b', .int .i64 c']) := by rw [h1, h2, h3]

set_option maxRecDepth 100000 in
set_option maxHeartbeats 800000 in
theorem number_calls (w : World) (A : Option Addr) (n c : Nat) (xs : List UInt8) (h : Bytes w (.slice A n c) xs) (hl : xs.length = n) (hx : n ≤ 140737488355328) :
    Calls Try.prog 78 #[.slice A n c] w fun e w' => e = .returned (.tuple #[.int .u64 ((numF 0 0 xs).1 : Int), .int .i64 ((numF 0 0 xs).2.1 : Int), .int .i64 (numF 0 0 xs).2.2]) ∧ w = w' := by
  have H := Lib.hid h
  have HL := Lib.hid hl
  clear h hl
  go_enter Try.func78, Try.ntmps78
  go_wp2
  go_loop [5, 10] (fun x i => ∃ k y : Nat, k ≤ n ∧ k ≤ 9 ∧ y < 128 ^ k ∧ i = .int .i64 (k : Int) ∧ x = .int .u64 (y : Int) ∧ Hid (numF 0 0 xs = numF k y (xs.drop k))) (fun _ i => n - (intOf i).toNat)
  case atStart => exact ⟨0, 0, by omega, by omega, by simp, rfl, rfl, rfl⟩
  case round =>
    obtain ⟨k, y, hk, hk9, hy, rfl, rfl, HN⟩ := hrel
    by_cases hlt : k < n
    · obtain ⟨b, o, rfl, hcell⟩ := H.out.addr (by rw [HL.out]; omega)
      have hc := hcell k (by rw [HL.out]; exact hlt)
      have hd : xs.drop k = xs[k]'(by rw [HL.out]; exact hlt) :: xs.drop (k + 1) := List.drop_eq_getElem_cons (by rw [HL.out]; exact hlt)
      generalize xs[k]'(by rw [HL.out]; exact hlt) = u at hc hd
      have HD := Lib.hid hd
      have hu : u.toNat < 256 := u.toNat_lt
      clear hcell hd
      by_cases hbad : k = 9 ∧ 1 < u.toNat ∨ 0 < k ∧ u.toNat = 0
      · have HB := Lib.hid (numF_bad k y u (xs.drop (k + 1)) hbad)
        by_cases h9 : k = 9
        · subst h9
          by_cases hu1 : 1 < u.toNat
          · clear hbad
            go_wp2
            go_ret3
            exact ⟨by rw [HN.out, HD.out, HB.out]; rfl, rfl⟩
          · have hz : ((u.toNat : Int) == 0) = true := by simp; omega
            clear hbad
            go_wp2
            go_ret3
            exact ⟨by rw [HN.out, HD.out, HB.out]; rfl, rfl⟩
        · have hz : ((u.toNat : Int) == 0) = true := by simp; omega
          have hk0 : 0 < k := by omega
          clear hbad
          go_wp2
          go_ret3
          exact ⟨by rw [HN.out, HD.out, HB.out]; rfl, rfl⟩
      · have HO := Lib.hid (shl_or k y u.toNat hk9 hy hu (by omega))
        by_cases hu1 : u.toNat < 128
        · have HB := Lib.hid (numF_last k y u (xs.drop (k + 1)) hbad hu1)
          by_cases h9 : k = 9
          · subst h9
            have hz : ((u.toNat : Int) == 0) = false := by simp; omega
            have h1 : u.toNat ≤ 1 := by omega
            have HO9 : Hid (bits .or .u64 (y : Int) (IntKind.u64.wrap (IntKind.u64.wrap (bits .and .u8 (u.toNat : Int) 127) * 9223372036854775808)) = ((y + u.toNat % 128 * 128 ^ 9 : Nat) : Int)) := shl_or_9 y u.toNat hy hu h1
            clear hbad
            go_wp2
            go_ret3
            exact ⟨by rw [HN.out, HD.out, HB.out]; exact ret3 HO9.out rfl rfl, rfl⟩
          · by_cases hk0 : 0 < k
            · have hz : ((u.toNat : Int) == 0) = false := by simp; omega
              clear hbad
              go_wp2
              go_ret3
              exact ⟨by rw [HN.out, HD.out, HB.out]; exact ret3 HO.out (by simp) rfl, rfl⟩
            · clear hbad
              go_wp2
              go_ret3
              exact ⟨by rw [HN.out, HD.out, HB.out]; exact ret3 HO.out (by simp) rfl, rfl⟩
        · have HB := Lib.hid (numF_more k y u (xs.drop (k + 1)) hbad hu1)
          have hk9' : k < 9 := by
            rcases Nat.lt_or_ge k 9 with h | h
            · exact h
            · exact absurd (Or.inl ⟨by omega, by omega⟩) hbad
          have h0 : ((u.toNat : Int) == 0) = false := by simp; omega
          have HBAD := Lib.hid hbad
          clear hbad
          go_wp2
          all_goals go_round
          all_goals first
            | (case rel => exact ⟨k + 1, _, hlt, hk9', acc_lt k y u.toNat hy, by go_num, by rw [HO.out], by rw [Hid, HN.out, HD.out, HB.out]⟩)
            | (case measure => simp [intOf]; omega)
    · have : k = n := by omega
      subst this
      have HB := Lib.hid (show numF k y (xs.drop k) = (0, 0, 110) by rw [List.drop_of_length_le (by rw [HL.out]; omega)]; rfl)
      go_wp2
      go_ret3
      exact ⟨by rw [HN.out, HB.out]; rfl, rfl⟩
end Go.Proofs.Ytkmnkbmmgopldaa
