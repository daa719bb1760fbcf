/-
  Contracts of the Reader's methods Byte, Left, Err, End, at a Reader and at none.
-/
import Derived.Test.YtkmnkbmmgopldaaOct2
namespace Go.Proofs.Ytkmnkbmmgopldaa
open Go.RowKit
set_option linter.unusedVariables false
set_option linter.unusedSimpArgs false

/-- What a Reader has: the bytes that are left, its error. -/
structure Rd where
  rest : List UInt8
  err : Int
  deriving DecidableEq

/-- A Reader in block g, whose bytes lie in block d. -/
def RdrAt (w : World) (g d : Nat) (r : Rd) : Prop :=
  ∃ A c, RCells w g (.slice A r.rest.length c) r.err ∧ Bytes w (.slice A r.rest.length c) r.rest ∧ (∀ p, A = some p → p.block = d) ∧ d ≠ g

theorem RdrAt.chg {S : Nat → Prop} {w w' : World} {g d : Nat} {r : Rd} (h : RdrAt w g d r) (hc : Chg S w w') (hg : ¬ S g) (hd : ¬ S d) : RdrAt w' g d r := by
  obtain ⟨A, c, h1, h2, h3, h4⟩ := h
  refine ⟨A, c, hc.heap h1 hg, h2.chg hc ?_, h3, h4⟩
  intro b hb
  cases A with
  | none => simp [Value.ownBlock] at hb
  | some p => simp [Value.ownBlock] at hb; rw [← hb, h3 p rfl]; exact hd
theorem RdrAt.no {w w' : World} {g d : Nat} {r : Rd} (h : RdrAt w g d r) (hc : Chg No w w') : RdrAt w' g d r := h.chg hc (fun x => x) (fun x => x)
theorem RdrAt.lt {w : World} {g d : Nat} {r : Rd} (h : RdrAt w g d r) : g < w.heap.size := by obtain ⟨A, c, h1, _⟩ := h; exact h1.lt

theorem RdrAt.made {w1 : World} {base : Nat} {v : Value} {xs : List UInt8} (h : OwnB w1 base v xs) (hb : base ≤ w1.heap.size) :
    ∃ d, base ≤ d ∧ RdrAt (w1.alloc (.cells #[.bool true, v, .int .i64 0] 118)) w1.heap.size d ⟨xs, 0⟩ := by
  obtain ⟨A, c, rfl, hn, hm⟩ := h.bytes.form
  have hk := h.block
  have hb2 := h.bytes.no ((Chg.refl No w1).alloc (.cells #[.bool true, .slice A xs.length c, .int .i64 0] 118))
  cases A with
  | none => exact ⟨w1.heap.size + 1, by omega, none, c, heap_alloc_new w1 _, hb2, (fun p hp => by cases hp), by omega⟩
  | some p =>
    have := hk p.block rfl
    exact ⟨p.block, this.1, some p, c, heap_alloc_new w1 _, hb2, (fun q hq => by cases hq; rfl), by omega⟩

/-- A refused read. -/
theorem RdrAt.refused {w : World} {g d : Nat} {r : Rd} (h : RdrAt w g d r) (e : Int) : RdrAt (w.setCell ⟨g, 2, none⟩ (.int .i64 e)) g d ⟨r.rest, e⟩ := by
  obtain ⟨A, c, h1, h2, h3, h4⟩ := h
  refine ⟨A, c, h1.set2 e, h2.chg (S := One g) (Chg.put w g _ _) ?_, h3, h4⟩
  intro b hb hx
  cases A with
  | none => simp [Value.ownBlock] at hb
  | some p => simp [Value.ownBlock] at hb; have := h3 p rfl; have : b = g := hx; omega

/-- What is taken is gone. -/
theorem RdrAt.taken {w : World} {g d : Nat} {A : Option Addr} {c m : Nat} {xs : List UInt8} {e : Int} (h1 : RCells w g (.slice A xs.length c) e) (h2 : Bytes w (.slice A xs.length c) xs) (h3 : ∀ p, A = some p → p.block = d) (h4 : d ≠ g) (hm : m ≤ xs.length) :
    RdrAt (w.setCell ⟨g, 1, none⟩ (.slice (if c = m then A else A.map (·.add m)) (xs.length - m) (c - m))) g d ⟨xs.drop m, e⟩ := by
  refine ⟨_, _, by rw [List.length_drop]; exact h1.set1 _, ?_, ?_, h4⟩
  · rw [List.length_drop]
    refine (h2.drop hm).chg (S := One g) (Chg.put w g _ _) ?_
    intro b hb hx
    have hx : b = g := hx
    cases A with
    | none => split at hb <;> simp [Value.ownBlock] at hb
    | some p =>
      have := h3 p rfl
      split at hb
      · simp [Value.ownBlock] at hb; omega
      · simp only [Option.map_some, Value.ownBlock, Option.some.injEq] at hb
        have : (p.add m).block = p.block := by unfold Addr.add; split <;> rfl
        omega
  · intro p hp
    split at hp
    · exact h3 p hp
    · cases A with
      | none => simp at hp
      | some q =>
        simp only [Option.map_some, Option.some.injEq] at hp
        have : (q.add m).block = q.block := by unfold Addr.add; split <;> rfl
        rw [← hp, this]; exact h3 q rfl

theorem RdrAt.open {w : World} {g d : Nat} {xs : List UInt8} {err : Int} (h : RdrAt w g d ⟨xs, err⟩) : ∃ A c, w.cell? ⟨g, 0, none⟩ = some (.bool true) ∧ w.cell? ⟨g, 1, none⟩ = some (.slice A xs.length c) ∧ w.cell? ⟨g, 2, none⟩ = some (.int .i64 err) ∧ xs.length ≤ c ∧ c ≤ 9223372036854775807 ∧ Hid (Bytes w (.slice A xs.length c) xs) ∧ Hid (∀ p, A = some p → p.block = d) := by
  obtain ⟨A, c, h1, h2, h3, h4⟩ := h
  have hn : xs.length ≤ c ∧ c ≤ maxLen := by
    obtain ⟨_, _, he, hn, hm⟩ := h2.form
    simp only [Value.slice.injEq, true_and] at he
    obtain ⟨rfl, rfl⟩ := he
    exact ⟨hn, hm⟩
  exact ⟨A, c, h1.c0, h1.c1, h1.c2, hn.1, hn.2, h2, h3⟩

theorem ready_at (w : World) (g d : Nat) (r : Rd) (h : RdrAt w g d r) :
    Calls Try.prog 75 #[.pointer (some ⟨g, 0, none⟩)] w fun e w' => e = .returned (.bool (r.err == 0)) ∧ w = w' := by
  obtain ⟨A, c, h1, h2, h3, h4⟩ := h
  exact ready_calls _ _ _ _ h1

theorem refuse_at (w : World) (g d : Nat) (xs : List UInt8) (err n : Int) (h : RdrAt w g d ⟨xs, err⟩) :
    Calls Try.prog 76 #[.pointer (some ⟨g, 0, none⟩), .int .i64 n] w fun e w' => e = .returned (.tuple #[]) ∧ RdrAt w' g d ⟨xs, n⟩ ∧ Chg (One g) w w' := by
  have H := h
  obtain ⟨A, c, h1, h2, h3, h4⟩ := h
  refine (refuse_calls _ _ _ _ n h1).mono ?_
  rintro e w' ⟨rfl, rfl⟩
  exact ⟨rfl, H.refused n, Chg.put w g _ _⟩

theorem take_at (w : World) (g d : Nat) (xs : List UInt8) (err : Int) (k : Int) (h : RdrAt w g d ⟨xs, err⟩) (hk : 0 ≤ k) (hm : k ≤ xs.length) :
    Calls Try.prog 77 #[.pointer (some ⟨g, 0, none⟩), .int .i64 k] w fun e w' => ∃ A, e = .returned (.slice A k.toNat k.toNat) ∧ Bytes w' (.slice A k.toNat k.toNat) (xs.take k.toNat) ∧ RdrAt w' g d ⟨xs.drop k.toNat, err⟩ ∧ Chg (One g) w w' ∧ (∀ p, A = some p → p.block = d) := by
  have H := h
  obtain ⟨A, c, h1, h2, h3, h4⟩ := h
  obtain ⟨_, _, he, hn, hml⟩ := h2.form
  simp only [Value.slice.injEq, true_and] at he
  obtain ⟨rfl, rfl⟩ := he
  simp only at hn hm
  obtain ⟨m, rfl⟩ := Int.eq_ofNat_of_zero_le hk
  refine (take_calls _ _ A xs.length c _ _ m rfl (by omega) hn hml h1).mono ?_
  rintro e w' ⟨rfl, rfl⟩
  simp only [Int.toNat_natCast]
  refine ⟨A, rfl, ?_, RdrAt.taken h1 h2 h3 h4 (by omega), Chg.put w g _ _, h3⟩
  have h2' : Bytes w (.slice A xs.length c) xs := h2
  refine (h2'.take (k := m) (m := m) (by omega) (Nat.le_refl _) (by omega)).chg (S := One g) (Chg.put w g _ _) ?_
  intro b hb hx
  cases A with
  | none => simp [Value.ownBlock] at hb
  | some p => simp [Value.ownBlock] at hb; have := h3 p rfl; have : b = g := hx; omega

def rByte (r : Rd) : UInt8 × Rd :=
  if r.err ≠ 0 then (0, r) else match r.rest with
  | [] => (0, ⟨[], 110⟩)
  | x :: t => (x, ⟨t, 0⟩)

set_option maxHeartbeats 400000 in
theorem byte_calls (w : World) (g d : Nat) (r : Rd) (h : RdrAt w g d r) :
    Calls Try.prog 45 #[.pointer (some ⟨g, 0, none⟩)] w fun e w' => e = .returned (.int .u8 ((rByte r).1.toNat : Int)) ∧ RdrAt w' g d (rByte r).2 ∧ Chg (One g) w w' := by
  obtain ⟨xs, err⟩ := r
  have H := Lib.hid h
  obtain ⟨A, c, c0, c1, c2, hn, hm, H2, H3⟩ := h.open
  by_cases he : err = 0
  · subst he
    cases xs with
    | nil =>
      go_enter Try.func45, Try.ntmps45
      go_wp2_with (first | (go_at_call 75; refine (ready_at _ _ _ _ h).mono ?_; rintro e w' ⟨rfl, rfl⟩) | (go_at_call 76; refine (refuse_at _ _ _ _ _ _ h).mono ?_; rintro e w' ⟨rfl, hr, hc⟩))
      go_ret
      exact ⟨rfl, hr, hc⟩
    | cons x t =>
      simp only [List.length_cons] at c1 hn
      go_enter Try.func45, Try.ntmps45
      go_wp2_with (go_at_call 75; refine (ready_at _ _ _ _ h).mono ?_; rintro e w' ⟨rfl, rfl⟩)
      refine (take_at _ _ _ _ _ 1 H.out (by omega) (by simp; omega)).mono ?_
      rintro e w' ⟨A', rfl, hb, hr, hc, hp⟩
      obtain ⟨b, o, rfl, hcell⟩ := hb.addr (by simp)
      have hx := hcell 0 (by simp)
      simp only [Nat.add_zero, Int.toNat_one, List.take_succ_cons, List.take_zero, List.getElem_cons_zero] at hx
      have HP := Lib.hid hp
      clear hcell hp
      simp only [Int.toNat_one]
      go_wp2
      go_ret
      exact ⟨rfl, hr, hc⟩
  · have hb : (err == 0) = false := by simpa using he
    go_enter Try.func45, Try.ntmps45
    go_wp2_with (go_at_call 75; refine (ready_at _ _ _ _ h).mono ?_; rintro e w' ⟨rfl, rfl⟩)
    go_ret
    simp only [rByte, ne_eq, he, not_false_eq_true, if_true]
    exact ⟨rfl, H.out, Chg.refl _ _⟩

set_option maxHeartbeats 400000 in
theorem byte_none (w : World) : Calls Try.prog 45 #[.pointer none] w fun e w' => e = .returned (.int .u8 0) ∧ w = w' := by
  go_enter Try.func45, Try.ntmps45
  go_wp2
  go_ret
  exact ⟨rfl, rfl⟩
end Go.Proofs.Ytkmnkbmmgopldaa
