/-
  The walk of OctetHashes: any bytes, any number, any text as digits.
-/
import Derived.Test.YtikfplfhndhjbaaLaw01w
import Derived.Test.YtikfplfhndhjbaaRef1b
namespace Go.Proofs.Ytikfplfhndhjbaa
open Go.RowKit
set_option linter.unusedVariables false
set_option linter.unusedSimpArgs false

theorem unhexGo_lt (xs : List UInt8) : ∀ (x y : Nat), unhexGo x xs = some y → y < (x + 1) * 16 ^ xs.length := by
  induction xs with
  | nil => intro x y h; simp [unhexGo] at h; subst h; simp
  | cons c t ih =>
    intro x y h
    simp only [unhexGo] at h
    cases hv : hexv c.toNat with
    | none => rw [hv] at h; simp at h
    | some d =>
      rw [hv] at h
      have h1 := ih _ _ h
      have h2 := hexv_lt hv
      have h3 : (x * 16 + d + 1) * 16 ^ t.length ≤ ((x + 1) * 16) * 16 ^ t.length := Nat.mul_le_mul_right _ (by omega)
      simp only [List.length_cons, Nat.pow_succ]
      rw [Nat.mul_comm (16 ^ t.length) 16, ← Nat.mul_assoc]
      omega

set_option maxRecDepth 100000 in
set_option maxHeartbeats 800000 in
theorem octetHashes_core (A0 : Option Addr) (n0 c0 : Nat) (xs : List UInt8) (x : Nat) (hx : x < 18446744073709551616) (s : ByteArray) (hs : s.size ≤ 140737488351232) (w : World) (hb : Bytes w (.slice A0 n0 c0) xs) (hl : xs.length = n0) (hn : n0 ≤ 140737488351232) :
    Calls Try.prog 5 #[.slice A0 n0 c0, .int .u64 (x : Int), .string s] w fun e w' => e = .returned (.bool true) ∧ Chg No w w' := by
  have HB := Lib.hid hb
  have HL := Lib.hid hl
  have HN := Lib.hid hn
  have HX := Lib.hid hx
  clear hb hl hn hx
  have h64 : s.size ≤ 9223372036854775807 := by omega
  cases hu : unhexF s.data.toList with
  | none =>
    have HU1 := Lib.hid (unhexR_none hu)
    have HU2 := Lib.hid (unhexB_none hu)
    clear hu
    go_enter Try.func5, Try.ntmps5
    go_wp2_with fail
    refine (wakes_calls _).mono ?_
    rintro e w1 ⟨rfl, hc1⟩
    have HC1 := Lib.hid hc1
    clear hc1
    go_wp2_with fail
    refine (unhex_calls _ _ h64).mono ?_
    rintro e w' ⟨rfl, rfl⟩
    rw [HU1.out]
    go_wp2_with fail
    refine (refunhex_calls _ _ h64).mono ?_
    rintro e w' ⟨rfl, rfl⟩
    rw [HU2.out]
    go_wp2_with fail
    refine (hash_calls _ _ _ _ xs (HB.out.no HC1.out) HL.out (by have := HN.out; omega)).mono ?_
    rintro e w' ⟨rfl, rfl⟩
    go_wp2_with fail
    refine (refhash_calls _ _ _ _ xs (HB.out.no HC1.out) HL.out (by have := HN.out; omega)).mono ?_
    rintro e w' ⟨rfl, rfl⟩
    go_wp2_with fail
    refine (hex_calls _ x _ rfl HX.out).mono ?_
    rintro e w2 ⟨rfl, hc2⟩
    have HC2 := Lib.hid hc2
    clear hc2
    go_wp2_with fail
    refine (refhex_calls _ x _ rfl HX.out).mono ?_
    rintro e w3 ⟨rfl, hc3⟩
    have HC3 := Lib.hid hc3
    clear hc3
    go_wp2_with fail
    refine (wakes_calls _).mono ?_
    rintro e w4 ⟨rfl, hc4⟩
    have HC4 := Lib.hid hc4
    clear hc4
    go_wp2
    go_ret
    exact ⟨rfl, ((HC1.out.no HC2.out).no HC3.out).no HC4.out⟩
  | some y =>
    have HU1 := Lib.hid (unhexR_some hu)
    have HU2 := Lib.hid (unhexB_some hu)
    clear hu
    go_enter Try.func5, Try.ntmps5
    go_wp2_with fail
    refine (wakes_calls _).mono ?_
    rintro e w1 ⟨rfl, hc1⟩
    have HC1 := Lib.hid hc1
    clear hc1
    go_wp2_with fail
    refine (unhex_calls _ _ h64).mono ?_
    rintro e w' ⟨rfl, rfl⟩
    rw [HU1.out]
    go_wp2_with fail
    refine (refunhex_calls _ _ h64).mono ?_
    rintro e w' ⟨rfl, rfl⟩
    rw [HU2.out]
    go_wp2_with fail
    refine (hash_calls _ _ _ _ xs (HB.out.no HC1.out) HL.out (by have := HN.out; omega)).mono ?_
    rintro e w' ⟨rfl, rfl⟩
    go_wp2_with fail
    refine (refhash_calls _ _ _ _ xs (HB.out.no HC1.out) HL.out (by have := HN.out; omega)).mono ?_
    rintro e w' ⟨rfl, rfl⟩
    go_wp2_with fail
    refine (hex_calls _ x _ rfl HX.out).mono ?_
    rintro e w2 ⟨rfl, hc2⟩
    have HC2 := Lib.hid hc2
    clear hc2
    go_wp2_with fail
    refine (refhex_calls _ x _ rfl HX.out).mono ?_
    rintro e w3 ⟨rfl, hc3⟩
    have HC3 := Lib.hid hc3
    clear hc3
    go_wp2_with fail
    refine (wakes_calls _).mono ?_
    rintro e w4 ⟨rfl, hc4⟩
    have HC4 := Lib.hid hc4
    clear hc4
    go_wp2
    go_ret
    exact ⟨rfl, ((HC1.out.no HC2.out).no HC3.out).no HC4.out⟩

theorem u64_of_wf {a : Int} (h : (Lit.int .u64 a).wf = true) : ∃ x : Nat, a = (x : Int) ∧ x < 18446744073709551616 := by
  have hb : 0 ≤ a ∧ a ≤ 18446744073709551615 := by simpa [Lit.wf, IntKind.min, IntKind.max, IntKind.signed, IntKind.bits] using h
  exact ⟨a.toNat, by omega, by omega⟩

theorem octetHashes_walk (w : World) (A0 : Option Addr) (n0 c0 : Nat) (xs : List UInt8) (hb : Bytes w (.slice A0 n0 c0) xs) (hl : xs.length = n0) (hn : n0 ≤ 140737488351232)
    (a1 : Int) (w1 : (Lit.int .u64 a1).wf = true) (s : ByteArray) (hs : s.size ≤ 140737488351232) :
    Calls Try.prog 5 #[.slice A0 n0 c0, .int .u64 a1, .string s] w fun e w' => e = .returned (.bool true) ∧ Below w.heap.size w w' := by
  obtain ⟨x, rfl, hx⟩ := u64_of_wf w1
  exact (octetHashes_core A0 n0 c0 xs x hx s hs w hb hl hn).mono fun e w' h => ⟨h.1, h.2.below⟩
end Go.Proofs.Ytikfplfhndhjbaa
