/-
  The law's own 'wakes': it answers true, whatever the memory.
-/
import Derived.Test.YtikfplfhndhjbaaOct6
import Derived.Test.YtikfplfhndhjbaaOct9
import Derived.Lib.SlBytesConst
namespace Go.Proofs.Ytikfplfhndhjbaa
open Go.RowKit
set_option linter.unusedVariables false
set_option linter.unusedSimpArgs false

theorem Bytes.lit {w : World} {xs : List UInt8} {t : TypeId} (n : Nat) (hn : n = xs.length) (hm : n ≤ maxLen) : Bytes (w.alloc (.cells (u8s xs).toArray t)) (.slice (some ⟨w.heap.size, 0, none⟩) n n) xs := by
  subst hn
  refine ⟨_, _, rfl, Nat.le_refl _, hm, fun _ => ⟨w.heap.size, 0, rfl, fun j u hj => ?_⟩⟩
  rw [Nat.zero_add, World.cell?_alloc_new]
  simpa using hj

theorem Bytes.litMark {w : World} {xs : List UInt8} {t : TypeId} {m : Nat × Nat} (n c : Nat) (hn : n = xs.length) (hc : n ≤ c) (hm : c ≤ maxLen) : Bytes (w.alloc (.cells (u8s xs).toArray t m)) (.slice (some ⟨w.heap.size, 0, none⟩) n c) xs := by
  subst hn
  refine ⟨_, _, rfl, hc, hm, fun _ => ⟨w.heap.size, 0, rfl, fun j u hj => ?_⟩⟩
  rw [Nat.zero_add]
  unfold World.cell? World.alloc
  simpa using hj

set_option maxRecDepth 100000 in
set_option maxHeartbeats 800000 in
theorem wakes_calls (w : World) : Calls Try.prog 10 #[] w fun e w' => e = .returned (.bool true) ∧ Chg No w w' := by
  have kc := fun (w : World) (C : Array Value) (n c : Nat) => Lib.run_convert_bytes_const (P := Try.prog) w 22 5 C n c Try.underlying22 Try.underlying5
  go_enter Try.func10, Try.ntmps10
  go_wp2_with fail
  refine (read_calls _ _ _ _ [7, 172, 2] (Bytes.lit 3 rfl (by unfold maxLen; omega)) (by omega)).mono ?_
  rintro e w' ⟨w1, v, rfl, rfl, hown, hc⟩
  have hsz : w.heap.size < w1.heap.size := by have := hc.size; simp at this; omega
  obtain ⟨d, hd, hr⟩ := RdrAt.made hown (by simp; omega)
  have hd' : w.heap.size < d := by simp at hd; omega
  have HC : Hid (Chg No w (w1.alloc (.cells #[.bool true, v, .int .i64 0] 70))) := (((Chg.refl No w).alloc _).no hc).alloc _
  clear hown hc hd
  generalize hgw : w1.heap.size = g at *
  generalize w1.alloc (.cells #[.bool true, v, .int .i64 0] 70) = w2 at *
  clear hgw
  go_wp2_with fail
  refine (byte_calls _ _ d _ hr).mono ?_
  rintro e w3 ⟨rfl, hr3, hc3⟩
  rw [show rByte ⟨[7, 172, 2], 0⟩ = (7, ⟨[172, 2], 0⟩) from rfl] at *
  have HC3 : Hid (Chg No w w3) := HC.out.one hc3 (.inl (by omega))
  clear hc3 hr HC
  go_wp2_with fail
  refine (uint_calls _ _ d _ hr3 (by simp)).mono ?_
  rintro e w4 ⟨rfl, hr4, hc4⟩
  rw [show rUint ⟨[172, 2], 0⟩ = (300, ⟨[], 0⟩) from by decide] at *
  have HC4 : Hid (Chg No w w4) := HC3.out.one hc4 (.inl (by omega))
  clear hc4 hr3 HC3
  go_wp2_with fail
  refine (end_calls _ _ d _ hr4).mono ?_
  rintro e w5 ⟨rfl, rfl⟩
  rw [show rEnd ⟨[], 0⟩ = 0 from rfl] at *
  go_wp2_with fail
  refine (hash_calls _ _ _ _ [97] (Bytes.litMark 1 1 rfl (Nat.le_refl _) (by unfold maxLen; omega)) rfl (by omega)).mono ?_
  rintro e w6 ⟨rfl, rfl⟩
  have hh : ((hashF [97] : Nat) : Int) = 12638187200555641996 := by decide +kernel
  rw [hh]
  go_wp2
  go_ret
  exact ⟨rfl, HC4.out.alloc _⟩
end Go.Proofs.Ytikfplfhndhjbaa
