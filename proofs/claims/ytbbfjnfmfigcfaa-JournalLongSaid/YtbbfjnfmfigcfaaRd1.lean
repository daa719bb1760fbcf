/-
  Contracts of the reference's Reader: refused, End; Number.
-/
import Derived.Test.YtbbfjnfmfigcfaaOct6
namespace Go.Proofs.Ytbbfjnfmfigcfaa
open Go.RowKit
set_option linter.unusedVariables false
set_option linter.unusedSimpArgs false

theorem scale_step (k : Nat) (hk : k < 9) : IntKind.u64.wrap (((128 ^ k : Nat) : Int) * 128) = ((128 ^ (k + 1) : Nat) : Int) := by
  have h := pow128_le (k + 1) (by omega)
  have e : (((128 ^ k : Nat) : Int) * 128) = ((128 ^ (k + 1) : Nat) : Int) := by rw [Nat.pow_succ]; simp
  rw [e, wrap_u64_nat _ (by omega)]
theorem scale_add (k y u : Nat) (hk : k ≤ 9) (hy : y < 128 ^ k) (hu : u < 256) (h9 : k = 9 → u ≤ 1) :
    IntKind.u64.wrap ((y : Int) + IntKind.u64.wrap (((u : Int) % 128) * ((128 ^ k : Nat) : Int))) = ((y + u % 128 * 128 ^ k : Nat) : Int) := by
  have e : (u : Int) % 128 = ((u % 128 : Nat) : Int) := by simp
  rw [e]
  have hb : y + u % 128 * 128 ^ k < 18446744073709551616 := by
    rcases Nat.lt_or_ge k 9 with h | h
    · have h1 := acc_lt k y u hy
      have h2 := pow128_le (k + 1) (by omega)
      omega
    · have h9' : k = 9 := by omega
      have hu1 := h9 h9'
      subst h9'
      have h3 : (128 : Nat) ^ 9 = 9223372036854775808 := by decide
      have h4 : u % 128 ≤ 1 := by omega
      have := Nat.mul_le_mul_right (128 ^ 9) h4
      omega
  have e2 : ((u % 128 : Nat) : Int) * ((128 ^ k : Nat) : Int) = ((u % 128 * 128 ^ k : Nat) : Int) := by simp
  rw [e2, wrap_u64_nat _ (by omega)]
  have e3 : (y : Int) + ((u % 128 * 128 ^ k : Nat) : Int) = ((y + u % 128 * 128 ^ k : Nat) : Int) := by simp
  rw [e3, wrap_u64_nat _ hb]

set_option maxRecDepth 100000 in
set_option maxHeartbeats 800000 in
theorem rnumber_calls (w : World) (A : Option Addr) (n c : Nat) (xs : List UInt8) (h : Bytes w (.slice A n c) xs) (hl : xs.length = n) (hx : n ≤ 140737488355328) :
    Calls Try.prog 23 #[.slice A n c] w fun e w' => e = .returned (.tuple #[.int .u64 ((numF 0 0 xs).1 : Int), .int .i64 ((numF 0 0 xs).2.1 : Int), .int .i64 (numF 0 0 xs).2.2]) ∧ w = w' := by
  have H := Lib.hid h
  have HL := Lib.hid hl
  clear h hl
  go_enter Try.func23, Try.ntmps23
  go_wp2
  go_loop [5, 6, 7] (fun x s i => ∃ (k y : Nat) (z : Int), k ≤ n ∧ k ≤ 9 ∧ y < 128 ^ k ∧ i = .int .i64 (k : Int) ∧ x = .int .u64 (y : Int) ∧ s = .int .u64 z ∧ Hid (z = ((128 ^ k : Nat) : Int)) ∧ Hid (numF 0 0 xs = numF k y (xs.drop k))) (fun _ _ i => n - (intOf i).toNat)
  case atStart => exact ⟨0, 0, 1, by omega, by omega, by simp, rfl, rfl, rfl, rfl, rfl⟩
  case round =>
    obtain ⟨k, y, z, hk, hk9, hy, rfl, rfl, rfl, HZ, HN⟩ := hrel
    by_cases hlt : k < n
    · obtain ⟨b, o, rfl, hcell⟩ := H.out.addr (by rw [HL.out]; omega)
      have hc := hcell k (by rw [HL.out]; exact hlt)
      have hd : xs.drop k = xs[k]'(by rw [HL.out]; exact hlt) :: xs.drop (k + 1) := List.drop_eq_getElem_cons (by rw [HL.out]; exact hlt)
      generalize xs[k]'(by rw [HL.out]; exact hlt) = u at hc hd
      have HD := Lib.hid hd
      have hu : u.toNat < 256 := u.toNat_lt
      clear hcell hd
      by_cases hbad : k = 9 ∧ 1 < u.toNat ∨ 0 < k ∧ u.toNat = 0
      · have HB := Lib.hid (numF_bad k y u (xs.drop (k + 1)) hbad)
        by_cases h9 : k = 9
        · subst h9
          by_cases hu1 : 1 < u.toNat
          · clear hbad
            go_wp2
            go_ret3
            exact ⟨by rw [HN.out, HD.out, HB.out]; rfl, rfl⟩
          · have hz : ((u.toNat : Int) == 0) = true := by simp; omega
            clear hbad
            go_wp2
            go_ret3
            exact ⟨by rw [HN.out, HD.out, HB.out]; rfl, rfl⟩
        · have hz : ((u.toNat : Int) == 0) = true := by simp; omega
          have hk0 : 0 < k := by omega
          clear hbad
          go_wp2
          go_ret3
          exact ⟨by rw [HN.out, HD.out, HB.out]; rfl, rfl⟩
      · have HO : Hid (IntKind.u64.wrap ((y : Int) + IntKind.u64.wrap (((u.toNat : Int) % 128) * z)) = ((y + u.toNat % 128 * 128 ^ k : Nat) : Int)) := by rw [Hid, HZ.out]; exact scale_add k y u.toNat hk9 hy hu (by omega)
        have h0 : k = 0 ∨ ((u.toNat : Int) == 0) = false := by simp; omega
        by_cases hu1 : u.toNat < 128
        · have HB := Lib.hid (numF_last k y u (xs.drop (k + 1)) hbad hu1)
          by_cases h9 : k = 9
          · subst h9
            have hz : ((u.toNat : Int) == 0) = false := by simp; omega
            have h1 : u.toNat ≤ 1 := by omega
            clear hbad h0
            go_wp2
            go_ret3
            exact ⟨by rw [HN.out, HD.out, HB.out]; exact ret3 HO.out rfl rfl, rfl⟩
          · by_cases hk0 : 0 < k
            · have hz : ((u.toNat : Int) == 0) = false := by simp; omega
              clear hbad h0
              go_wp2
              go_ret3
              exact ⟨by rw [HN.out, HD.out, HB.out]; exact ret3 HO.out (by simp) rfl, rfl⟩
            · clear hbad h0
              go_wp2
              go_ret3
              exact ⟨by rw [HN.out, HD.out, HB.out]; exact ret3 HO.out (by simp) rfl, rfl⟩
        · have HB := Lib.hid (numF_more k y u (xs.drop (k + 1)) hbad hu1)
          have hk9' : k < 9 := by
            rcases Nat.lt_or_ge k 9 with h | h
            · exact h
            · exact absurd (Or.inl ⟨by omega, by omega⟩) hbad
          have h0' : ((u.toNat : Int) == 0) = false := by simp; omega
          have HBAD := Lib.hid hbad
          clear hbad h0
          go_wp2
          all_goals go_round
          all_goals first
            | (case rel => exact ⟨k + 1, _, _, hlt, hk9', acc_lt k y u.toNat hy, by go_num, by rw [HO.out], rfl, by rw [Hid, HZ.out]; exact scale_step k hk9', by rw [Hid, HN.out, HD.out, HB.out]⟩)
            | (case measure => simp [intOf]; omega)
    · have : k = n := by omega
      subst this
      have HB := Lib.hid (show numF k y (xs.drop k) = (0, 0, 110) by rw [List.drop_of_length_le (by rw [HL.out]; omega)]; rfl)
      go_wp2
      go_ret3
      exact ⟨by rw [HN.out, HB.out]; rfl, rfl⟩
end Go.Proofs.Ytbbfjnfmfigcfaa
