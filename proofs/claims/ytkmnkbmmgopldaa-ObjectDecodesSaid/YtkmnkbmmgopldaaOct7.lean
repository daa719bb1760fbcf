/-
  Contracts of octet's PutUint, PutWord, PutText, Hash, Hex, Unhex.
-/
import Derived.Test.YtkmnkbmmgopldaaOct2
import Derived.Test.YtkmnkbmmgopldaaNum
namespace Go.Proofs.Ytkmnkbmmgopldaa
open Go.RowKit
set_option linter.unusedVariables false
set_option linter.unusedSimpArgs false

def hstep (h : Nat) (c : UInt8) : Nat := (h ^^^ c.toNat) * 1099511628211 % 18446744073709551616
def hashF (xs : List UInt8) : Nat := xs.foldl hstep 14695981039346656037
theorem hstep_lt (h : Nat) (c : UInt8) : hstep h c < 18446744073709551616 := Nat.mod_lt _ (by decide)
theorem hash_foldl_lt (xs : List UInt8) : ∀ h : Nat, h < 18446744073709551616 → xs.foldl hstep h < 18446744073709551616 := by
  induction xs with
  | nil => intro h hh; exact hh
  | cons c t ih => intro h hh; exact ih _ (hstep_lt h c)
theorem hashF_lt (xs : List UInt8) : hashF xs < 18446744073709551616 := hash_foldl_lt xs _ (by decide)
theorem hstep_wrap (h : Nat) (c : UInt8) (hh : h < 18446744073709551616) : IntKind.u64.wrap (bits .xor .u64 (h : Int) (c.toNat : Int) * 1099511628211) = ((hstep h c : Nat) : Int) := by
  have hc : c.toNat < 256 := c.toNat_lt
  rw [bits_xor_u64_nat _ _ hh (by omega), IntKind.wrap_u64]
  unfold hstep
  simp

set_option maxHeartbeats 800000 in
theorem hash_calls (w : World) (A : Option Addr) (n c : Nat) (xs : List UInt8) (h : Bytes w (.slice A n c) xs) (hl : xs.length = n) (hx : n ≤ 140737488355328) :
    Calls Try.prog 57 #[.slice A n c] w fun e w' => e = .returned (.int .u64 (hashF xs : Int)) ∧ w = w' := by
  have H := Lib.hid h
  have HL := Lib.hid hl
  clear h hl
  go_enter Try.func57, Try.ntmps57
  go_wp2
  go_loop [3, 8] (fun x i => ∃ k : Nat, k ≤ n ∧ i = .int .i64 (k : Int) ∧ x = .int .u64 (((xs.take k).foldl hstep 14695981039346656037 : Nat) : Int)) (fun _ i => n - (intOf i).toNat)
  case atStart => exact ⟨0, by omega, rfl, rfl⟩
  case round =>
    obtain ⟨k, hk, rfl, rfl⟩ := hrel
    by_cases hlt : k < n
    · obtain ⟨b, o, rfl, hcell⟩ := H.out.addr (by rw [HL.out]; omega)
      have hc := hcell k (by rw [HL.out]; exact hlt)
      have HT := Lib.hid (foldl_take hstep 14695981039346656037 xs k (by rw [HL.out]; exact hlt))
      have HB := Lib.hid (hash_foldl_lt (xs.take k) 14695981039346656037 (by decide))
      generalize xs[k]'(by rw [HL.out]; exact hlt) = u at hc HT
      have hu : u.toNat < 256 := u.toNat_lt
      clear hcell
      generalize hy : (xs.take k).foldl hstep 14695981039346656037 = y at *
      have HY := Lib.hid hy
      clear hy
      go_wp2
      go_round
      case rel => exact ⟨k + 1, hlt, by go_num, by rw [HT.out]; exact congrArg (Value.int .u64) (hstep_wrap y u HB.out)⟩
      case measure => simp [intOf]; omega
    · have : k = n := by omega
      subst this
      have HF : Hid ((xs.take k).foldl hstep 14695981039346656037 = hashF xs) := by rw [List.take_of_length_le (by rw [HL.out]; exact Nat.le_refl _)]; rfl
      go_wp2
      go_ret
      exact ⟨by rw [← HF.out]; rfl, rfl⟩

/-- A number's short form. -/
def leb (n : Nat) : List UInt8 := if n < 128 then [UInt8.ofNat n] else UInt8.ofNat (n % 128 + 128) :: leb (n / 128)
termination_by n
decreasing_by omega
theorem leb_small (n : Nat) (h : n < 128) : leb n = [UInt8.ofNat n] := by rw [leb, if_pos h]
theorem leb_big (n : Nat) (h : ¬ n < 128) : leb n = UInt8.ofNat (n % 128 + 128) :: leb (n / 128) := by rw [leb, if_neg h]
theorem leb_len (k : Nat) : ∀ n, n < 128 ^ (k + 1) → (leb n).length ≤ k + 1 := by
  induction k with
  | zero => intro n h; rw [leb_small n (by simpa using h)]; simp
  | succ k ih =>
    intro n h
    by_cases h1 : n < 128
    · rw [leb_small n h1]; simp
    · rw [leb_big n h1]
      have := ih (n / 128) (by rw [Nat.pow_succ] at h; exact Nat.div_lt_of_lt_mul (by rw [Nat.mul_comm]; exact h))
      simp only [List.length_cons]
      omega
theorem leb_len10 (n : Nat) (h : n < 18446744073709551616) : (leb n).length ≤ 10 := leb_len 9 n (Nat.lt_of_lt_of_le h (by decide))

theorem or128_nat : ∀ a, a < 256 → a ||| 128 = a % 128 + 128 := by decide +kernel
theorem or128 (y : Nat) : bits .or .u8 (IntKind.u8.wrap (y : Int)) 128 = (((UInt8.ofNat (y % 128 + 128)).toNat : Nat) : Int) := by
  rw [wrap_u8_nat]
  have h := or_u8 (y % 256) 128 (by omega) (by decide)
  have e : ∀ a, a < 256 → a ||| 128 = a % 128 + 128 := or128_nat
  rw [show ((128 : Nat) : Int) = 128 from rfl] at h
  rw [h, e _ (by omega)]
  have : (UInt8.ofNat (y % 128 + 128)).toNat = y % 128 + 128 := by simp; omega
  rw [this]
  congr 2
  omega
theorem leb_pos (y : Nat) : 0 < (leb y).length := by
  by_cases h : y < 128
  · rw [leb_small y h]; simp
  · rw [leb_big y h]; simp
theorem wrap_small (y : Nat) : IntKind.u8.wrap (y : Int) = (((UInt8.ofNat y).toNat : Nat) : Int) := by
  rw [wrap_u8_nat]; simp

set_option maxRecDepth 100000 in
set_option maxHeartbeats 800000 in
theorem putuint_calls (w : World) (A : Option Addr) (n c : Nat) (bs : List UInt8) (h : Bytes w (.slice A n c) bs) (hl : bs.length = n) (x : Nat) (xv : Int) (hxv : xv = (x : Int)) (hx64 : x < 18446744073709551616) (hx : n ≤ 140737488355318) :
    Calls Try.prog 55 #[.slice A n c, .int .u64 xv] w fun e w' => ∃ v, e = .returned v ∧ OwnB w' w.heap.size v (bs ++ leb x) ∧ Chg No w w' := by
  subst hxv
  have H := Lib.hid h
  have HL := Lib.hid hl
  clear h hl
  go_enter Try.func55, Try.ntmps55
  go_wp2_with fail
  refine (clone_any _ _ _ _ _ H.out (by omega)).mono ?_
  rintro e w1 ⟨v1, rfl, hown1, hc1⟩
  have HO1 := Lib.hid hown1
  have HC1 := Lib.hid hc1
  clear hown1 hc1
  go_wp2
  go_loopw [1, 5] (fun xv v wr => ∃ (y : Nat) (acc : List UInt8), y ≤ x ∧ xv = .int .u64 (y : Int) ∧ Hid (OwnB wr w.heap.size v (bs ++ acc)) ∧ Hid (acc ++ leb y = leb x) ∧ Hid (Chg No w wr)) (fun xv _ _ => (intOf xv).toNat)
  case atStart => exact ⟨x, [], Nat.le_refl _, rfl, by simpa [Hid] using HO1.out, by simp [Hid], HC1.out⟩
  case round =>
    obtain ⟨y, acc, hy, rfl, HO, HA, HC⟩ := hrel
    have hlen : bs.length + acc.length + 1 ≤ 140737488355328 := by
      have h1 := congrArg List.length HA.out
      have h2 := leb_len10 x hx64
      have h3 := HL.out
      have h4 := leb_pos y
      simp only [List.length_append] at h1
      omega
    have HLen := Lib.hid hlen
    have hsz : w.heap.size ≤ wr.heap.size := HC.out.size
    by_cases hb : y < 128
    · have HE := Lib.hid (leb_small y hb)
      have HV : Hid (((UInt8.ofNat y).toNat : Int) = (y : Int)) := by simp only [Hid, UInt8.toNat_ofNat']; omega
      go_wp2_with (at_builtin; (refine wpList_app _ rfl (.tmp 18) (.tmp 21) 38 38 rfl w.heap.size 5 (.int .u8 0) 1 1 infoU8 Try.underlying38 rfl (by decide) u5 (.slice (some ⟨wr.heap.size, 0, none⟩) 1 1) (bs ++ acc).length 1 (u8s (bs ++ acc)) [.int .u8 (y : Int)] rfl rfl ?own ?src ?b1 ?b2 ?b3 ?_; (case own => exact HO.out.alloc _); (case src => exact Src.one Try.underlying38 _ rfl); (case b1 => simp only [List.length_append]; have := HLen.out; omega); (case b2 => unfold maxLen; simp only [List.length_append]; have := HLen.out; omega); (case b3 => simp; omega); intro v' w' hown hg))
      go_ret
      refine ⟨_, rfl, .of hown ?_, (HC.out.alloc _).grown hg ?_⟩
      · rw [← HA.out, HE.out, ← List.append_assoc]; exact u8s_snoc _ _ _ HV.out
      · intro k hk
        exact .inl (HO.out.block k hk).1
    · have HE := Lib.hid (leb_big y hb)
      have HV := Lib.hid (or128 y)
      go_wp2_with (at_builtin; (refine wpList_app _ rfl (.tmp 10) (.tmp 14) 38 38 rfl w.heap.size 5 (.int .u8 0) 1 1 infoU8 Try.underlying38 rfl (by decide) u5 (.slice (some ⟨wr.heap.size, 0, none⟩) 1 1) (bs ++ acc).length 1 (u8s (bs ++ acc)) [.int .u8 (bits .or .u8 (IntKind.u8.wrap (y : Int)) 128)] rfl rfl ?own ?src ?b1 ?b2 ?b3 ?_; (case own => exact HO.out.alloc _); (case src => exact Src.one Try.underlying38 _ rfl); (case b1 => simp only [List.length_append]; have := HLen.out; omega); (case b2 => unfold maxLen; simp only [List.length_append]; have := HLen.out; omega); (case b3 => simp; omega); intro v' w' hown hg))
      go_roundw
      case rel =>
        refine ⟨y / 128, acc ++ [UInt8.ofNat (y % 128 + 128)], by omega, by go_num, ?_, ?_, ?_⟩
        · refine OwnB.of hown ?_
          rw [← List.append_assoc]; exact u8s_snoc _ _ _ HV.out.symm
        · rw [Hid, ← HA.out, HE.out]; simp
        · exact (HC.out.alloc _).grown hg (fun k hk => .inl (HO.out.block k hk).1)
      case measure => simp [intOf]; omega
end Go.Proofs.Ytkmnkbmmgopldaa
