/-
  Contract of octet.Unhex.
-/
import Derived.Test.YtikfplfhndhjbaaOct8
namespace Go.Proofs.Ytikfplfhndhjbaa
open Go.RowKit
set_option linter.unusedVariables false
set_option linter.unusedSimpArgs false

/-- What a digit says. -/
def hexv (c : Nat) : Option Nat := if 48 ≤ c ∧ c ≤ 57 then some (c - 48) else if 97 ≤ c ∧ c ≤ 102 then some (c - 87) else none
theorem hexv_lt {c d : Nat} (h : hexv c = some d) : d < 16 := by
  unfold hexv at h
  split at h
  · cases h; omega
  · split at h
    · cases h; omega
    · cases h
def unhexGo (x : Nat) : List UInt8 → Option Nat
  | [] => some x
  | c :: t => match hexv c.toNat with
    | none => none
    | some d => unhexGo (x * 16 + d) t
/-- The number of sixteen digits. -/
def unhexF (xs : List UInt8) : Option Nat := if xs.length = 16 then unhexGo 0 xs else none
theorem unhexGo_bad (x : Nat) (c : UInt8) (t : List UInt8) (h : hexv c.toNat = none) : unhexGo x (c :: t) = none := by simp [unhexGo, h]
theorem unhexGo_ok (x d : Nat) (c : UInt8) (t : List UInt8) (h : hexv c.toNat = some d) : unhexGo x (c :: t) = unhexGo (x * 16 + d) t := by simp [unhexGo, h]

def unhexR (xs : List UInt8) : Ending := match unhexF xs with
  | none => .returned (.tuple #[.int .u64 0, .int .i64 8])
  | some x => .returned (.tuple #[.int .u64 (x : Int), .int .i64 0])
theorem unhexR_none {xs : List UInt8} (h : unhexF xs = none) : unhexR xs = .returned (.tuple #[.int .u64 0, .int .i64 8]) := by simp [unhexR, h]
theorem unhexR_some {xs : List UInt8} {x : Nat} (h : unhexF xs = some x) : unhexR xs = .returned (.tuple #[.int .u64 (x : Int), .int .i64 0]) := by simp [unhexR, h]
theorem shl4_or (y d : Nat) (hy : y < 1152921504606846976) (hd : d < 16) (dv : Int) (hdv : dv = (d : Int)) : bits .or .u64 ((y : Int) * 16) dv = ((y * 16 + d : Nat) : Int) := by
  subst hdv
  have e : (y : Int) * 16 = ((y * 16 : Nat) : Int) := by simp
  rw [e, or_u64 _ _ (by omega) (by omega), Nat.or_comm]
  have := or_add y d 4 (by simpa using hd)
  simp only [Nat.reducePow] at this
  rw [this, Nat.add_comm]
theorem pow16_lt (k : Nat) (h : k ≤ 15) : 16 ^ k ≤ 1152921504606846976 := by
  have := Nat.pow_le_pow_right (n := 16) (by decide) h
  exact Nat.le_trans this (by decide)

set_option maxRecDepth 100000 in
set_option maxHeartbeats 800000 in
theorem unhex_calls (w : World) (s : ByteArray) (hs : s.size ≤ 9223372036854775807) :
    Calls Try.prog 23 #[.string s] w fun e w' => e = unhexR s.data.toList ∧ w = w' := by
  have hsl := size_list s
  by_cases h16 : s.size = 16
  · have HF : Hid (unhexF s.data.toList = unhexGo 0 s.data.toList) := by simp only [Hid, unhexF]; rw [if_pos (by omega)]
    have HS := Lib.hid hsl
    have H16 := Lib.hid h16
    have hb : ((s.size : Int) != 16) = false := by simp; omega
    clear hsl
    go_enter Try.func23, Try.ntmps23
    go_wp2
    go_loop [4, 5] (fun x i => ∃ k y : Nat, k ≤ 16 ∧ i = .int .i64 (k : Int) ∧ x = .int .u64 (y : Int) ∧ y < 16 ^ k ∧ Hid (unhexGo 0 s.data.toList = unhexGo y (s.data.toList.drop k))) (fun _ i => 16 - (intOf i).toNat)
    case atStart => exact ⟨0, 0, by omega, rfl, rfl, by simp, rfl⟩
    case round =>
      obtain ⟨k, y, hk, rfl, rfl, hy, HG⟩ := hrel
      by_cases hlt : k < 16
      · have hd : s.data.toList.drop k = s[k]'(by omega) :: s.data.toList.drop (k + 1) := List.drop_eq_getElem_cons (by rw [HS.out]; omega)
        have HD := Lib.hid hd
        have hks : k < s.size := by omega
        have hp := pow16_lt k (by omega)
        have hy2 : y < 1152921504606846976 := by omega
        have hu : (s[k]'(by omega)).toNat < 256 := (s[k]'(by omega)).toNat_lt
        clear hd hp
        have hacc : ∀ d, d < 16 → y * 16 + d < 16 ^ (k + 1) := fun d hd => by rw [Nat.pow_succ]; omega
        have HACC := Lib.hid hacc
        clear hacc
        by_cases hd1 : 48 ≤ (s[k]'(by omega)).toNat ∧ (s[k]'(by omega)).toNat ≤ 57
        · have HV := Lib.hid (show hexv (s[k]'(by omega)).toNat = some ((s[k]'(by omega)).toNat - 48) by rw [hexv, if_pos hd1])
          obtain ⟨hd1, hd2⟩ := hd1
          go_wp2
          go_round
          case rel => exact ⟨k + 1, _, hlt, by go_num, congrArg (Value.int .u64) (shl4_or y _ hy2 (hexv_lt HV.out) _ (by omega)), HACC.out _ (hexv_lt HV.out), by rw [Hid, HG.out, HD.out, unhexGo_ok _ _ _ _ HV.out]⟩
          case measure => simp [intOf]; omega
        · by_cases hd2 : 97 ≤ (s[k]'(by omega)).toNat ∧ (s[k]'(by omega)).toNat ≤ 102
          · have HV := Lib.hid (show hexv (s[k]'(by omega)).toNat = some ((s[k]'(by omega)).toNat - 87) by rw [hexv, if_neg hd1, if_pos hd2])
            clear hd1
            obtain ⟨hd1, hd2⟩ := hd2
            go_wp2
            go_round
            case rel => exact ⟨k + 1, _, hlt, by go_num, congrArg (Value.int .u64) (shl4_or y _ hy2 (hexv_lt HV.out) _ (by omega)), HACC.out _ (hexv_lt HV.out), by rw [Hid, HG.out, HD.out, unhexGo_ok _ _ _ _ HV.out]⟩
            case measure => simp [intOf]; omega
          · have HV := Lib.hid (show hexv (s[k]'(by omega)).toNat = none by rw [hexv, if_neg hd1, if_neg hd2])
            have HR := Lib.hid (unhexR_none (show unhexF s.data.toList = none by rw [HF.out, HG.out, HD.out, unhexGo_bad _ _ _ HV.out]))
            have hc : (s[k]'(by omega)).toNat < 48 ∨ 57 < (s[k]'(by omega)).toNat ∧ (s[k]'(by omega)).toNat < 97 ∨ 102 < (s[k]'(by omega)).toNat := by omega
            clear hd1 hd2
            rcases hc with hc | ⟨hc, hc2⟩ | hc
            all_goals go_wp2
            all_goals go_ret2
            all_goals exact ⟨by rw [HR.out]; rfl, rfl⟩
      · have : k = 16 := by omega
        subst this
        have HR := Lib.hid (unhexR_some (show unhexF s.data.toList = some y by rw [HF.out, HG.out, List.drop_of_length_le (by rw [HS.out]; omega)]; rfl))
        go_wp2
        go_ret2
        exact ⟨by rw [HR.out]; rfl, rfl⟩
  · have hb : ((s.size : Int) != 16) = true := by simp; omega
    have HR := Lib.hid (unhexR_none (show unhexF s.data.toList = none by rw [unhexF, if_neg (by omega)]))
    clear hsl
    go_enter Try.func23, Try.ntmps23
    go_wp2
    go_ret2
    exact ⟨by rw [HR.out]; rfl, rfl⟩
end Go.Proofs.Ytikfplfhndhjbaa
