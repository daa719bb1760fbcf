/-
  Contract of octet.Unhex.
-/
import Derived.Test.YtkmnkbmmgopldaaOct8
namespace Go.Proofs.Ytkmnkbmmgopldaa
open Go.RowKit
set_option linter.unusedVariables false
set_option linter.unusedSimpArgs false

/-- What a digit says. -/
def hexv (c : Nat) : Option Nat := if 48 ≤ c ∧ c ≤ 57 then some (c - 48) else if 97 ≤ c ∧ c ≤ 102 then some (c - 87) else none
theorem hexv_lt {c d : Nat} (h : hexv c = some d) : d < 16 := by
  unfold hexv at h
  split at h
  · cases h; omega
  · split at h
    · cases h; omega
    · cases h
def unhexGo (x : Nat) : List UInt8 → Option Nat
  | [] => some x
  | c :: t => match hexv c.toNat with
    | none => none
    | some d => unhexGo (x * 16 + d) t
/-- The number of sixteen digits. -/
def unhexF (xs : List UInt8) : Option Nat := if xs.length = 16 then unhexGo 0 xs else none
theorem unhexGo_bad (x : Nat) (c : UInt8) (t : List UInt8) (h : hexv c.toNat = none) : unhexGo x (c :: t) = none := by simp [unhexGo, h]
theorem unhexGo_ok (x d : Nat) (c : UInt8) (t : List UInt8) (h : hexv c.toNat = some d) : unhexGo x (c :: t) = unhexGo (x * 16 + d) t := by simp [unhexGo, h]

def unhexR (xs : List UInt8) : Ending := match unhexF xs with
  | none => .returned (.tuple #[.int .u64 0, .int .i64 8])
  | some x => .returned (.tuple #[.int .u64 (x : Int), .int .i64 0])
theorem unhexR_none {xs : List UInt8} (h : unhexF xs = none) : unhexR xs = .returned (.tuple #[.int .u64 0, .int .i64 8]) := by simp [unhexR, h]
theorem unhexR_some {xs : List UInt8} {x : Nat} (h : unhexF xs = some x) : unhexR xs = .returned (.tuple #[.int .u64 (x : Int), .int .i64 0]) := by simp [unhexR, h]
theorem shl4_or (y d : Nat) (hy : y < 1152921504606846976) (hd : d < 16) (dv : Int) (hdv : dv = (d : Int)) : bits .or .u64 ((y : Int) * 16) dv = ((y * 16 + d : Nat) : Int) := by
  subst hdv
  have e : (y : Int) * 16 = ((y * 16 : Nat) : Int) := by simp
  rw [e, or_u64 _ _ (by omega) (by omega), Nat.or_comm]
  have := or_add y d 4 (by simpa using hd)
  simp only [Nat.reducePow] at this
  rw [this, Nat.add_comm]
theorem pow16_lt (k : Nat) (h : k ≤ 15) : 16 ^ k ≤ 1152921504606846976 := by
  have := Nat.pow_le_pow_right (n := 16) (by decide) h
  exact Nat.le_trans this (by decide)

end Go.Proofs.Ytkmnkbmmgopldaa
