/-
  Decode: plain; of blobs, and of bytes that begin no object.
-/
import Derived.Test.YtkmnkbmmgopldaaB10
namespace Go.Proofs.Ytkmnkbmmgopldaa
open Go.RowKit
set_option linter.unusedVariables false
set_option linter.unusedSimpArgs false
set_option maxRecDepth 100000

/-- An object. -/
inductive Ob
  | blob (l : List UInt8)
  | tree (l : List Ent)
  | commit (t : Nat) (ps : List Nat) (a : List UInt8) (d : Int) (x : List UInt8)
def sd (x : Nat) : Int := if x < 9223372036854775808 then (x : Int) else (x : Int) - 18446744073709551616
def readE : Nat → Rd → List Ent → Option (List Ent) × Rd
  | 0, r, acc => (some acc, r)
  | n + 1, r, acc =>
    if r.err ≠ 0 then (some acc, r)
    else if (rByte (rText 32 r).2).1 ≠ 0 ∧ (rByte (rText 32 r).2).1 ≠ 1 then (none, (rByte (rText 32 r).2).2)
    else readE n (rWord (rByte (rText 32 r).2).2).2 (acc ++ [(mkS (rText 32 r).1, (rByte (rText 32 r).2).1 == 1, (rWord (rByte (rText 32 r).2).2).1)])
def readP : Nat → Rd → List Nat → List Nat × Rd
  | 0, r, acc => (acc, r)
  | n + 1, r, acc => if r.err ≠ 0 then (acc, r) else readP n (rWord r).2 (acc ++ [(rWord r).1])
def obCheck : Ob → Int
  | .blob l => if 4096 < l.length then 3 else 0
  | .tree l => treeF l
  | .commit t ps a _ x => (commitF t ps a x : Nat)
def afterC (t : Nat × Rd) (p : List Nat × Rd) : Ob × Rd :=
  (.commit t.1 p.1 (rText 64 p.2).1 (sd (rWord (rText 64 p.2).2).1) (rText 1024 (rWord (rText 64 p.2).2).2).1, (rText 1024 (rWord (rText 64 p.2).2).2).2)
def preF (xs : List UInt8) : Option (Ob × Rd) :=
  if (rByte ⟨xs, 0⟩).1 = 98 then some (.blob (rRaw (rByte ⟨xs, 0⟩).2.rest.length (rByte ⟨xs, 0⟩).2).1, (rRaw (rByte ⟨xs, 0⟩).2.rest.length (rByte ⟨xs, 0⟩).2).2)
  else if (rByte ⟨xs, 0⟩).1 = 116 then (readE (rUint (rByte ⟨xs, 0⟩).2).1 (rUint (rByte ⟨xs, 0⟩).2).2 []).1.map (fun l => (.tree l, (readE (rUint (rByte ⟨xs, 0⟩).2).1 (rUint (rByte ⟨xs, 0⟩).2).2 []).2))
  else if (rByte ⟨xs, 0⟩).1 = 99 then some (afterC (rWord (rByte ⟨xs, 0⟩).2) (readP (rUint (rWord (rByte ⟨xs, 0⟩).2).2).1 (rUint (rWord (rByte ⟨xs, 0⟩).2).2).2 []))
  else none
def decF (xs : List UInt8) : Option Ob :=
  match preF xs with
  | none => none
  | some p => if rEnd p.2 = 0 ∧ obCheck p.1 = 0 then some p.1 else none
/-- An object's value, in memory of its own. -/
def IsOb (w : World) (base : Nat) (v : Value) : Ob → Prop
  | .blob l => ∃ s, v = blobV s ∧ OwnB w base s l
  | .tree l => ∃ s, v = treeV s ∧ w.ownsRow base 35 3 s l.length (l.flatMap encE)
  | .commit t ps a d x => ∃ s, v = commitV (t : Int) s (mkS a) d (mkS x) ∧ w.ownsRow base 24 1 s ps.length (ps.map u64v)
/-- What Decode answers. -/
def DecR (base : Nat) (w' : World) (e : Ending) : Option Ob → Prop
  | none => e = .returned (.tuple #[.nilIface, .int .i64 8])
  | some o => ∃ v, e = .returned (.tuple #[v, .int .i64 0]) ∧ IsOb w' base v o
theorem check_nil (w : World) : Calls Try.prog 14 #[.nilIface] w fun e w' => e = .returned (.int .i64 160) ∧ Chg No w w' := by
  have fb := fun w => ta_nil_blob w
  have ft := fun w => ta_nil_tree w
  have fc := fun w => ta_nil_commit w
  go_enter Try.func14, Try.ntmps14
  go_wp2
  go_ret
  exact ⟨rfl, Chg.refl _ _⟩
theorem rByte_zero {xs : List UInt8} (h : (rByte ⟨xs, 0⟩).1 ≠ 0) : ∃ b t, xs = b :: t ∧ rByte ⟨xs, 0⟩ = (b, ⟨t, 0⟩) := by
  cases xs with
  | nil => exact absurd rfl h
  | cons b t => exact ⟨b, t, rfl, rfl⟩
theorem u8_int {b : UInt8} {k : Nat} (h : b.toNat = k) : (b.toNat : Int) = k := by omega

set_option maxHeartbeats 1600000 in
theorem decode_none (w : World) (A : Option Addr) (n c : Nat) (xs : List UInt8) (hb : Bytes w (.slice A n c) xs) (hl : xs.length = n) (hn : n ≤ 1000000)
    (h1 : (rByte ⟨xs, 0⟩).1 ≠ 98) (h2 : (rByte ⟨xs, 0⟩).1 ≠ 116) (h3 : (rByte ⟨xs, 0⟩).1 ≠ 99) :
    Calls Try.prog 20 #[.slice A n c] w fun e w' => DecR w.heap.size w' e (decF xs) ∧ Chg No w w' := by
  have HD : Hid (decF xs = none) := by rw [Hid, decF, preF, if_neg h1, if_neg h2, if_neg h3]
  have q : ∀ (b k : UInt8), b ≠ k → ((b.toNat : Int) == (k.toNat : Int)) = false := by
    intro b k h
    rw [beq_eq_false_iff_ne]
    intro e
    exact h (UInt8.toNat_inj.1 (by omega))
  have b1 : (((rByte ⟨xs, 0⟩).1.toNat : Int) == 98) = false := q _ 98 h1
  have b2 : (((rByte ⟨xs, 0⟩).1.toNat : Int) == 116) = false := q _ 116 h2
  have b3 : (((rByte ⟨xs, 0⟩).1.toNat : Int) == 99) = false := q _ 99 h3
  clear q h1 h2 h3
  have HB := Lib.hid hb
  clear hb
  go_enter Try.func20, Try.ntmps20
  go_wp2_with fail
  refine (read_calls w A n c xs HB.out (by omega)).mono ?_
  rintro e w' ⟨w1, v, rfl, rfl, hown, hc⟩
  obtain ⟨d, hd, hr⟩ := RdrAt.made hown hc.size
  have hsz := hc.size
  have HC := Lib.hid ((hc.alloc (.cells #[.bool true, v, .int .i64 0] 118)))
  clear hown hc
  generalize w1.alloc (.cells #[.bool true, v, .int .i64 0] 118) = w2 at *
  generalize w1.heap.size = g at *
  go_wp2_with fail
  refine (byte_calls w2 g d _ hr).mono ?_
  rintro e w3 ⟨rfl, hr3, hc3⟩
  have HC3 : Hid (Chg No w w3) := HC.out.one hc3 (.inl hsz)
  clear hc3 hr HC
  generalize rByte ⟨xs, 0⟩ = R at *
  go_wp2_with fail
  refine (end_calls _ g d R.2 hr3).mono ?_
  rintro e w8 ⟨rfl, rfl⟩
  by_cases hend : rEnd R.2 = 0
  · rw [hend]
    go_wp2_with fail
    refine (check_nil _).mono ?_
    rintro e w9 ⟨rfl, hc9⟩
    go_wp2
    go_ret2
    exact ⟨by rw [HD.out]; rfl, HC3.out.no hc9⟩
  · have bk : (rEnd R.2 != 0) = true := by simpa using hend
    clear hend
    go_wp2
    go_ret2
    exact ⟨by rw [HD.out]; rfl, HC3.out⟩

set_option maxHeartbeats 1600000 in
theorem decode_blob (w : World) (A : Option Addr) (n c : Nat) (xs : List UInt8) (hb : Bytes w (.slice A n c) xs) (hl : xs.length = n) (hn : n ≤ 1000000) (h1 : (rByte ⟨xs, 0⟩).1 = 98) :
    Calls Try.prog 20 #[.slice A n c] w fun e w' => DecR w.heap.size w' e (decF xs) ∧ Chg No w w' := by
  obtain ⟨b0, t0, rfl, hR⟩ := rByte_zero (xs := xs) (by rw [h1]; decide)
  have hb98 : b0 = 98 := by rw [hR] at h1; exact h1
  subst hb98
  have HPF : Hid (preF (98 :: t0) = some (.blob (rRaw t0.length ⟨t0, 0⟩).1, (rRaw t0.length ⟨t0, 0⟩).2)) := by rw [Hid, preF, if_pos h1, hR]
  have HT : Hid (rRaw t0.length ⟨t0, 0⟩ = (t0, ⟨[], 0⟩)) := by simp [Hid, rRaw]
  have ht0 : t0.length ≤ 1000000 := by simp at hl; omega
  generalize hxs : (98 :: t0 : List UInt8) = xs at *
  have HR := Lib.hid hR
  clear hR hxs h1
  have HB := Lib.hid hb
  clear hb
  go_enter Try.func20, Try.ntmps20
  go_wp2_with fail
  refine (read_calls w A n c xs HB.out (by omega)).mono ?_
  rintro e w' ⟨w1, v, rfl, rfl, hown, hc⟩
  obtain ⟨d, hd, hr⟩ := RdrAt.made hown hc.size
  have hsz := hc.size
  have HC := Lib.hid ((hc.alloc (.cells #[.bool true, v, .int .i64 0] 118)))
  clear hown hc
  generalize w1.alloc (.cells #[.bool true, v, .int .i64 0] 118) = w2 at *
  generalize w1.heap.size = g at *
  go_wp2_with fail
  refine (byte_calls w2 g d _ hr).mono ?_
  rintro e w3 ⟨rfl, hr3, hc3⟩
  have HC3 : Hid (Chg No w w3) := HC.out.one hc3 (.inl hsz)
  clear hc3 hr HC
  rw [HR.out] at hr3 ⊢
  have HR3 := Lib.hid hr3
  clear hr3
  try simp only [show ((98 : UInt8).toNat : Int) = 98 from rfl] at *
  go_wp2_with fail
  refine (left_calls w3 g d _ HR3.out).mono ?_
  rintro e w4 ⟨rfl, rfl⟩
  go_wp2_with fail
  refine (raw_calls w3 g d _ _ HR3.out (by simp only; omega)).mono ?_
  rintro e w5 ⟨v5, rfl, ho5, hr5, hc5⟩
  try simp only at ho5 hr5
  rw [HT.out] at ho5 hr5
  obtain ⟨A5, n5, c5, rfl, HL5, HO5⟩ := ho5.form
  have HR5 := Lib.hid hr5
  have HC5 : Hid (Chg No w w5) := HC3.out.one hc5 (.inl hsz)
  have hs3 := HC3.out.size
  clear ho5 hr5 hc5 HC3 HR3
  have CK : Hid (∀ W, Calls Try.prog 14 #[blobV (.slice A5 n5 c5)] W fun e w' => e = .returned (.int .i64 (if 4096 < n5 then 3 else 0)) ∧ Chg No W w') := fun W => check_blob W A5 n5 c5
  have HK : Hid (obCheck (.blob t0) = if 4096 < n5 then 3 else 0) := by rw [Hid, obCheck, HL5.out]
  generalize (if 4096 < n5 then (3 : Int) else 0) = K at *
  rw [HT.out] at HPF
  generalize ho : Ob.blob t0 = o at *
  have HPF : Hid (decF xs = if rEnd ⟨[], 0⟩ = 0 ∧ obCheck o = 0 then some o else none) := by rw [Hid, decF, HPF.out]
  go_wp2_with fail
  refine (end_calls _ g d ⟨[], 0⟩ HR5.out).mono ?_
  rintro e w8 ⟨rfl, rfl⟩
  by_cases hend : rEnd ⟨[], 0⟩ = 0
  · rw [hend]
    go_wp2_with fail
    refine (CK.out _).mono ?_
    rintro e w9 ⟨rfl, hc9⟩
    by_cases hck : K = 0
    · have HD : Hid (decF xs = some o) := by rw [Hid, HPF.out]; exact if_pos ⟨hend, (HK.out).trans hck⟩
      subst hck
      go_wp2
      go_ret2
      exact ⟨by rw [HD.out]; exact ⟨_, rfl, by rw [← ho]; exact ⟨_, rfl, OwnB.chg (OwnB.mono HO5.out hs3) hc9 (fun _ _ x => x)⟩⟩, HC5.out.no hc9⟩
    · have HD : Hid (decF xs = none) := by rw [Hid, HPF.out]; exact if_neg (fun h => hck ((HK.out).symm.trans h.2))
      have bk : (K != 0) = true := by simpa using hck
      clear hck
      go_wp2
      go_ret2
      exact ⟨by rw [HD.out]; rfl, HC5.out.no hc9⟩
  · have HD : Hid (decF xs = none) := by rw [Hid, HPF.out]; exact if_neg (fun h => hend h.1)
    have bk : (rEnd ⟨[], 0⟩ != 0) = true := by simpa using hend
    clear hend
    go_wp2
    go_ret2
    exact ⟨by rw [HD.out]; rfl, HC5.out⟩
end Go.Proofs.Ytkmnkbmmgopldaa
