/-
  Contracts of the reference espalierref01: Hash, digit, Unhex, Hex.
-/
import Derived.Test.YtkmnkbmmgopldaaOct9
namespace Go.Proofs.Ytkmnkbmmgopldaa
open Go.RowKit
set_option linter.unusedVariables false
set_option linter.unusedSimpArgs false

set_option maxHeartbeats 800000 in
theorem refhash_calls (w : World) (A : Option Addr) (n c : Nat) (xs : List UInt8) (h : Bytes w (.slice A n c) xs) (hl : xs.length = n) (hx : n ≤ 140737488355328) :
    Calls Try.prog 58 #[.slice A n c] w fun e w' => e = .returned (.int .u64 (hashF xs : Int)) ∧ w = w' := by
  have H := Lib.hid h
  have HL := Lib.hid hl
  clear h hl
  go_enter Try.func58, Try.ntmps58
  go_wp2
  go_loop [3, 4] (fun x i => ∃ k : Nat, k ≤ n ∧ i = .int .i64 (k : Int) ∧ x = .int .u64 (((xs.take k).foldl hstep 14695981039346656037 : Nat) : Int)) (fun _ i => n - (intOf i).toNat)
  case atStart => exact ⟨0, by omega, rfl, rfl⟩
  case round =>
    obtain ⟨k, hk, rfl, rfl⟩ := hrel
    by_cases hlt : k < n
    · obtain ⟨b, o, rfl, hcell⟩ := H.out.addr (by rw [HL.out]; omega)
      have hc := hcell k (by rw [HL.out]; exact hlt)
      have HT := Lib.hid (foldl_take hstep 14695981039346656037 xs k (by rw [HL.out]; exact hlt))
      have HB := Lib.hid (hash_foldl_lt (xs.take k) 14695981039346656037 (by decide))
      generalize xs[k]'(by rw [HL.out]; exact hlt) = u at hc HT
      have hu : u.toNat < 256 := u.toNat_lt
      clear hcell
      generalize hy : (xs.take k).foldl hstep 14695981039346656037 = y at *
      have HY := Lib.hid hy
      clear hy
      go_wp2
      go_round
      case rel => exact ⟨k + 1, hlt, by go_num, by rw [HT.out]; exact congrArg (Value.int .u64) (hstep_wrap y u HB.out)⟩
      case measure => simp [intOf]; omega
    · have : k = n := by omega
      subst this
      have HF : Hid ((xs.take k).foldl hstep 14695981039346656037 = hashF xs) := by rw [List.take_of_length_le (by rw [HL.out]; exact Nat.le_refl _)]; rfl
      go_wp2
      go_ret
      exact ⟨by rw [← HF.out]; rfl, rfl⟩

theorem retu {a b : Int} (h : a = b) : Ending.returned (.int .u64 a) = .returned (.int .u64 b) := by rw [h]
def unhexB (xs : List UInt8) : Ending := match unhexF xs with
  | none => .returned (.tuple #[.int .u64 0, .bool false])
  | some x => .returned (.tuple #[.int .u64 (x : Int), .bool true])
theorem unhexB_none {xs : List UInt8} (h : unhexF xs = none) : unhexB xs = .returned (.tuple #[.int .u64 0, .bool false]) := by simp [unhexB, h]
theorem unhexB_some {xs : List UInt8} {x : Nat} (h : unhexF xs = some x) : unhexB xs = .returned (.tuple #[.int .u64 (x : Int), .bool true]) := by simp [unhexB, h]

end Go.Proofs.Ytkmnkbmmgopldaa
