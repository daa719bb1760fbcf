/-
  Contracts of the reference espalierref01: Hash, digit, Unhex, Hex.
-/
import Derived.Test.YtikfplfhndhjbaaOct9
namespace Go.Proofs.Ytikfplfhndhjbaa
open Go.RowKit
set_option linter.unusedVariables false
set_option linter.unusedSimpArgs false

set_option maxHeartbeats 800000 in
theorem refhash_calls (w : World) (A : Option Addr) (n c : Nat) (xs : List UInt8) (h : Bytes w (.slice A n c) xs) (hl : xs.length = n) (hx : n ≤ 140737488355328) :
    Calls Try.prog 26 #[.slice A n c] w fun e w' => e = .returned (.int .u64 (hashF xs : Int)) ∧ w = w' := by
  have H := Lib.hid h
  have HL := Lib.hid hl
  clear h hl
  go_enter Try.func26, Try.ntmps26
  go_wp2
  go_loop [3, 4] (fun x i => ∃ k : Nat, k ≤ n ∧ i = .int .i64 (k : Int) ∧ x = .int .u64 (((xs.take k).foldl hstep 14695981039346656037 : Nat) : Int)) (fun _ i => n - (intOf i).toNat)
  case atStart => exact ⟨0, by omega, rfl, rfl⟩
  case round =>
    obtain ⟨k, hk, rfl, rfl⟩ := hrel
    by_cases hlt : k < n
    · obtain ⟨b, o, rfl, hcell⟩ := H.out.addr (by rw [HL.out]; omega)
      have hc := hcell k (by rw [HL.out]; exact hlt)
      have HT := Lib.hid (foldl_take hstep 14695981039346656037 xs k (by rw [HL.out]; exact hlt))
      have HB := Lib.hid (hash_foldl_lt (xs.take k) 14695981039346656037 (by decide))
      generalize xs[k]'(by rw [HL.out]; exact hlt) = u at hc HT
      have hu : u.toNat < 256 := u.toNat_lt
      clear hcell
      generalize hy : (xs.take k).foldl hstep 14695981039346656037 = y at *
      have HY := Lib.hid hy
      clear hy
      go_wp2
      go_round
      case rel => exact ⟨k + 1, hlt, by go_num, by rw [HT.out]; exact congrArg (Value.int .u64) (hstep_wrap y u HB.out)⟩
      case measure => simp [intOf]; omega
    · have : k = n := by omega
      subst this
      have HF : Hid ((xs.take k).foldl hstep 14695981039346656037 = hashF xs) := by rw [List.take_of_length_le (by rw [HL.out]; exact Nat.le_refl _)]; rfl
      go_wp2
      go_ret
      exact ⟨by rw [← HF.out]; rfl, rfl⟩

theorem retu {a b : Int} (h : a = b) : Ending.returned (.int .u64 a) = .returned (.int .u64 b) := by rw [h]
set_option maxHeartbeats 400000 in
theorem digit_calls (w : World) (c : Nat) (cv : Int) (hcv : cv = (c : Int)) (hc : c < 256) :
    Calls Try.prog 43 #[.int .u8 cv] w fun e w' => e = .returned (.int .u64 (((hexv c).getD 16 : Nat) : Int)) ∧ w = w' := by
  subst hcv
  by_cases h1 : 48 ≤ c ∧ c ≤ 57
  · have HV := Lib.hid (show hexv c = some (c - 48) by rw [hexv, if_pos h1])
    obtain ⟨h1, h2⟩ := h1
    go_enter Try.func43, Try.ntmps43
    go_wp2
    go_ret
    exact ⟨by rw [HV.out]; exact retu (by simp; omega), rfl⟩
  · by_cases h2 : 97 ≤ c ∧ c ≤ 102
    · have HV := Lib.hid (show hexv c = some (c - 87) by rw [hexv, if_neg h1, if_pos h2])
      clear h1
      obtain ⟨h1, h2⟩ := h2
      go_enter Try.func43, Try.ntmps43
      go_wp2
      go_ret
      exact ⟨by rw [HV.out]; exact retu (by simp; omega), rfl⟩
    · have HV := Lib.hid (show hexv c = none by rw [hexv, if_neg h1, if_neg h2])
      have hc : c < 48 ∨ 57 < c ∧ c < 97 ∨ 102 < c := by omega
      clear h1 h2
      rcases hc with hc | ⟨hc, hc2⟩ | hc
      all_goals go_enter Try.func43, Try.ntmps43
      all_goals go_wp2
      all_goals go_ret
      all_goals exact ⟨by rw [HV.out]; rfl, rfl⟩

def unhexB (xs : List UInt8) : Ending := match unhexF xs with
  | none => .returned (.tuple #[.int .u64 0, .bool false])
  | some x => .returned (.tuple #[.int .u64 (x : Int), .bool true])
theorem unhexB_none {xs : List UInt8} (h : unhexF xs = none) : unhexB xs = .returned (.tuple #[.int .u64 0, .bool false]) := by simp [unhexB, h]
theorem unhexB_some {xs : List UInt8} {x : Nat} (h : unhexF xs = some x) : unhexB xs = .returned (.tuple #[.int .u64 (x : Int), .bool true]) := by simp [unhexB, h]

set_option maxRecDepth 100000 in
set_option maxHeartbeats 800000 in
theorem refunhex_calls (w : World) (s : ByteArray) (hs : s.size ≤ 9223372036854775807) :
    Calls Try.prog 24 #[.string s] w fun e w' => e = unhexB s.data.toList ∧ w = w' := by
  have hsl := size_list s
  by_cases h16 : s.size = 16
  · have HF : Hid (unhexF s.data.toList = unhexGo 0 s.data.toList) := by simp only [Hid, unhexF]; rw [if_pos (by omega)]
    have HS := Lib.hid hsl
    have H16 := Lib.hid h16
    have hb : ((s.size : Int) != 16) = false := by simp; omega
    clear hsl
    go_enter Try.func24, Try.ntmps24
    go_wp2
    go_loop [4, 5] (fun x i => ∃ k y : Nat, k ≤ 16 ∧ i = .int .i64 (k : Int) ∧ x = .int .u64 (y : Int) ∧ y < 16 ^ k ∧ Hid (unhexGo 0 s.data.toList = unhexGo y (s.data.toList.drop k))) (fun _ i => 16 - (intOf i).toNat)
    case atStart => exact ⟨0, 0, by omega, rfl, rfl, by simp, rfl⟩
    case round =>
      obtain ⟨k, y, hk, rfl, rfl, hy, HG⟩ := hrel
      by_cases hlt : k < 16
      · have hd : s.data.toList.drop k = s[k]'(by omega) :: s.data.toList.drop (k + 1) := List.drop_eq_getElem_cons (by rw [HS.out]; omega)
        have HD := Lib.hid hd
        have hks : k < s.size := by omega
        have hp := pow16_lt k (by omega)
        have hy2 : y < 1152921504606846976 := by omega
        have hu : (s[k]'(by omega)).toNat < 256 := (s[k]'(by omega)).toNat_lt
        clear hd hp
        have hacc : ∀ d, d < 16 → y * 16 + d < 16 ^ (k + 1) := fun d hd => by rw [Nat.pow_succ]; omega
        have HACC := Lib.hid hacc
        have HDG := Lib.hid (digit_calls w (s[k]'(by omega)).toNat _ rfl hu)
        clear hacc
        cases hv : hexv (s[k]'(by omega)).toNat with
        | some d =>
          have hd16 := hexv_lt hv
          have HV := Lib.hid hv
          rw [hv] at HDG
          clear hv
          simp only [Option.getD_some] at HDG
          go_wp2_with (go_at_call 43; refine HDG.out.mono ?_; rintro e w' ⟨rfl, rfl⟩)
          go_round
          case rel => exact ⟨k + 1, y * 16 + d, hlt, by go_num, by go_num, HACC.out _ hd16, by rw [Hid, HG.out, HD.out, unhexGo_ok _ _ _ _ HV.out]⟩
          case measure => simp [intOf]; omega
        | none =>
          have HR := Lib.hid (unhexB_none (show unhexF s.data.toList = none by rw [HF.out, HG.out, HD.out, unhexGo_bad _ _ _ hv]))
          rw [hv] at HDG
          clear hv
          simp only [Option.getD_none] at HDG
          go_wp2_with (go_at_call 43; refine HDG.out.mono ?_; rintro e w' ⟨rfl, rfl⟩)
          go_ret2
          exact ⟨by rw [HR.out]; rfl, rfl⟩
      · have : k = 16 := by omega
        subst this
        have HR := Lib.hid (unhexB_some (show unhexF s.data.toList = some y by rw [HF.out, HG.out, List.drop_of_length_le (by rw [HS.out]; omega)]; rfl))
        go_wp2
        go_ret2
        exact ⟨by rw [HR.out]; rfl, rfl⟩
  · have hb : ((s.size : Int) != 16) = true := by simp; omega
    have HR := Lib.hid (unhexB_none (show unhexF s.data.toList = none by rw [unhexF, if_neg (by omega)]))
    clear hsl
    go_enter Try.func24, Try.ntmps24
    go_wp2
    go_ret2
    exact ⟨by rw [HR.out]; rfl, rfl⟩
end Go.Proofs.Ytikfplfhndhjbaa
