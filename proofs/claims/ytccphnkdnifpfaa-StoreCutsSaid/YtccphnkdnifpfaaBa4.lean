/-
  Oct6, B1, B2, Rep2, B3, Box, B4, N2, N3: in one text.
-/
import Derived.Test.YtccphnkdnifpfaaBa3
import Derived.Test.YtccphnkdnifpfaaBa2
import Derived.Test.YtccphnkdnifpfaaBa1
import Derived.Lib.SmallJoins
import Derived.Lib.Strings
import Derived.RangeFuncBox
import Derived.Laws.RangeAny
import Derived.SliceStrings
namespace Go.Proofs.Ytccphnkdnifpfaa
set_option linter.unnecessarySimpa false
open Go.RowKit
set_option linter.unusedVariables false
set_option linter.unusedSimpArgs false

/-- The number whose wide form bytes are, on top of x. -/
def beF (x : Nat) : List UInt8 → Nat
  | [] => x
  | c :: t => beF (x * 256 + c.toNat) t
theorem beF_lt (xs : List UInt8) : ∀ x : Nat, beF x xs < (x + 1) * 256 ^ xs.length := by
  induction xs with
  | nil => intro x; simp [beF]
  | cons c t ih =>
    intro x
    have h := ih (x * 256 + c.toNat)
    have hc : c.toNat < 256 := c.toNat_lt
    have h2 : (x * 256 + c.toNat + 1) * 256 ^ t.length ≤ ((x + 1) * 256) * 256 ^ t.length := Nat.mul_le_mul_right _ (by omega)
    simp only [beF, List.length_cons, Nat.pow_succ]
    rw [Nat.mul_comm (256 ^ t.length) 256, ← Nat.mul_assoc]
    omega
theorem beF_take (xs : List UInt8) : ∀ (x k : Nat) (hk : k < xs.length), beF x (xs.take (k + 1)) = beF x (xs.take k) * 256 + (xs[k]).toNat := by
  induction xs with
  | nil => intro x k hk; simp at hk
  | cons c t ih =>
    intro x k hk
    cases k with
    | zero => simp [beF]
    | succ k =>
      simp only [List.take_succ_cons, beF, List.getElem_cons_succ]
      exact ih _ _ (by simpa using hk)

theorem shl8_or (y u : Nat) (hy : y < 72057594037927936) (hu : u < 256) : bits .or .u64 (IntKind.u64.wrap ((y : Int) * 256)) (u : Int) = ((y * 256 + u : Nat) : Int) := by
  have e : (y : Int) * 256 = ((y * 256 : Nat) : Int) := by simp
  rw [e, wrap_u64_nat _ (by omega), or_u64 _ _ (by omega) (by omega), Nat.or_comm]
  have := or_add y u 8 (by simpa using hu)
  simp only [Nat.reducePow] at this
  rw [this, Nat.add_comm]

def rWord (r : Rd) : Nat × Rd :=
  if r.err ≠ 0 then (0, r) else if r.rest.length < 8 then (0, ⟨r.rest, 110⟩) else (beF 0 (r.rest.take 8), ⟨r.rest.drop 8, 0⟩)

set_option maxRecDepth 100000 in
set_option maxHeartbeats 800000 in
theorem word_calls (w : World) (g d : Nat) (r : Rd) (h : RdrAt w g d r) :
    Calls Try.prog 52 #[.pointer (some ⟨g, 0, none⟩)] w fun e w' => e = .returned (.int .u64 ((rWord r).1 : Int)) ∧ RdrAt w' g d (rWord r).2 ∧ Chg (One g) w w' := by
  obtain ⟨xs, err⟩ := r
  have H := Lib.hid h
  obtain ⟨A, c, c0, c1, c2, hn, hm, H2, H3⟩ := h.open
  by_cases he : err = 0
  · subst he
    by_cases h8 : xs.length < 8
    · have HU : Hid (rWord ⟨xs, 0⟩ = (0, ⟨xs, 110⟩)) := by simp [Hid, rWord, h8]
      go_enter Try.func52, Try.ntmps52
      go_wp2_with (first | (go_at_call 81; refine (ready_at _ _ _ _ h).mono ?_; rintro e w' ⟨rfl, rfl⟩) | (go_at_call 82; refine (refuse_at _ _ _ _ _ _ h).mono ?_; rintro e w' ⟨rfl, hr, hc⟩))
      go_ret
      exact ⟨by rw [HU.out]; rfl, by rw [HU.out]; exact hr, hc⟩
    · have HU : Hid (rWord ⟨xs, 0⟩ = (beF 0 (xs.take 8), ⟨xs.drop 8, 0⟩)) := by simp [Hid, rWord, h8]
      go_enter Try.func52, Try.ntmps52
      go_wp2_with (go_at_call 81; refine (ready_at _ _ _ _ h).mono ?_; rintro e w' ⟨rfl, rfl⟩)
      refine (take_at _ _ _ _ _ 8 H.out (by omega) (by omega)).mono ?_
      rintro e w1 ⟨A', rfl, hb, hr, hc, hp⟩
      simp only [show (8 : Int).toNat = 8 from rfl] at hb hr ⊢
      have hl8 : (xs.take 8).length = 8 := by rw [List.length_take]; omega
      obtain ⟨b, o, rfl, hcell⟩ := hb.addr (by omega)
      generalize xs.take 8 = ys at *
      have HP := Lib.hid hp
      have HC := Lib.hid hcell
      have HL := Lib.hid hl8
      have HB := Lib.hid hb
      clear hp hcell hl8 c0 c1 c2 h hb
      go_wp2
      go_loop [3, 31] (fun x i => ∃ k : Nat, k ≤ 8 ∧ i = .int .i64 (k : Int) ∧ x = .int .u64 ((beF 0 (ys.take k) : Nat) : Int)) (fun _ i => 8 - (intOf i).toNat)
      case atStart => exact ⟨0, by omega, rfl, rfl⟩
      case round =>
        obtain ⟨k, hk, rfl, rfl⟩ := hrel
        by_cases hlt : k < 8
        · have hc := HC.out k (by rw [HL.out]; exact hlt)
          have HT := Lib.hid (beF_take ys 0 k (by rw [HL.out]; exact hlt))
          generalize ys[k]'(by rw [HL.out]; exact hlt) = u at hc HT
          have hu : u.toNat < 256 := u.toNat_lt
          have hbl : beF 0 (ys.take k) < 72057594037927936 := by
            have h1 := beF_lt (ys.take k) 0
            have h2 : (ys.take k).length ≤ 7 := by rw [List.length_take]; omega
            have h3 := Nat.pow_le_pow_right (n := 256) (by decide) h2
            have h4 : (256 : Nat) ^ 7 = 72057594037927936 := by decide
            omega
          have HO := Lib.hid (shl8_or _ u.toNat hbl hu)
          clear hbl
          generalize hy : beF 0 (ys.take k) = y at *
          have HY := Lib.hid hy
          clear hy
          go_wp2
          go_round
          case rel => exact ⟨k + 1, by omega, by go_num, by rw [HT.out]; exact congrArg (Value.int .u64) HO.out⟩
          case measure => simp [intOf]; omega
        · have hk8 : k = 8 := by omega
          subst hk8
          go_wp2
          go_ret
          exact ⟨by rw [HU.out]; refine ret1 ?_; rw [List.take_of_length_le (by rw [HL.out]; omega)], by rw [HU.out]; exact hr, hc⟩
  · have hb : (err == 0) = false := by simpa using he
    go_enter Try.func52, Try.ntmps52
    go_wp2_with (go_at_call 81; refine (ready_at _ _ _ _ h).mono ?_; rintro e w' ⟨rfl, rfl⟩)
    go_ret
    simp only [rWord, ne_eq, he, not_false_eq_true, if_true]
    exact ⟨rfl, H.out, Chg.refl _ _⟩

set_option maxHeartbeats 400000 in
theorem word_none (w : World) : Calls Try.prog 52 #[.pointer none] w fun e w' => e = .returned (.int .u64 0) ∧ w = w' := by
  go_enter Try.func52, Try.ntmps52
  go_wp2
  go_ret
  exact ⟨rfl, rfl⟩

def rText (most : Int) (r : Rd) : List UInt8 × Rd :=
  if r.err ≠ 0 then ([], r)
  else if most < 0 then ([], ⟨r.rest, 2⟩)
  else if (numF 0 0 r.rest).2.2 ≠ 0 then ([], ⟨r.rest, (numF 0 0 r.rest).2.2⟩)
  else if most < ((numF 0 0 r.rest).1 : Int) then ([], ⟨r.rest, 3⟩)
  else if r.rest.length - (numF 0 0 r.rest).2.1 < (numF 0 0 r.rest).1 then ([], ⟨r.rest, 110⟩)
  else ((r.rest.drop (numF 0 0 r.rest).2.1).take (numF 0 0 r.rest).1, ⟨(r.rest.drop (numF 0 0 r.rest).2.1).drop (numF 0 0 r.rest).1, 0⟩)

set_option maxRecDepth 100000 in
set_option maxHeartbeats 800000 in
theorem text_calls (w : World) (g d : Nat) (r : Rd) (most : Int) (hmost : most ≤ 9223372036854775807) (h : RdrAt w g d r) (hx : r.rest.length ≤ 140737488355328) :
    Calls Try.prog 51 #[.pointer (some ⟨g, 0, none⟩), .int .i64 most] w fun e w' => e = .returned (.string (mkS (rText most r).1)) ∧ RdrAt w' g d (rText most r).2 ∧ Chg (One g) w w' := by
  obtain ⟨xs, err⟩ := r
  have H := Lib.hid h
  obtain ⟨A, c, c0, c1, c2, hn, hm, H2, H3⟩ := h.open
  simp only at hx
  by_cases he : err = 0
  · subst he
    by_cases hm0 : most < 0
    · have HU : Hid (rText most ⟨xs, 0⟩ = ([], ⟨xs, 2⟩)) := by simp [Hid, rText, hm0]
      go_enter Try.func51, Try.ntmps51
      go_wp2_with (first | (go_at_call 81; refine (ready_at _ _ _ _ h).mono ?_; rintro e w' ⟨rfl, rfl⟩) | (go_at_call 82; refine (refuse_at _ _ _ _ _ _ h).mono ?_; rintro e w' ⟨rfl, hr, hc⟩))
      go_ret
      exact ⟨by rw [HU.out]; rfl, by rw [HU.out]; exact hr, hc⟩
    · obtain ⟨f1, f2, f3, f4, f5⟩ := numF_at xs
      have HU : Hid (rText most ⟨xs, 0⟩ = if (numF 0 0 xs).2.2 ≠ 0 then ([], ⟨xs, (numF 0 0 xs).2.2⟩)
        else if most < ((numF 0 0 xs).1 : Int) then ([], ⟨xs, 3⟩)
        else if xs.length - (numF 0 0 xs).2.1 < (numF 0 0 xs).1 then ([], ⟨xs, 110⟩)
        else ((xs.drop (numF 0 0 xs).2.1).take (numF 0 0 xs).1, ⟨(xs.drop (numF 0 0 xs).2.1).drop (numF 0 0 xs).1, 0⟩)) := by simp [Hid, rText, hm0]
      have HC := Lib.hid (number_calls w A xs.length c xs H2.out rfl hx)
      generalize hN : numF 0 0 xs = N at *
      obtain ⟨v, n, ee⟩ := N
      have HN := Lib.hid hN
      simp only at f1 f2 HU
      clear f3 f4 f5 hN
      by_cases hee : ee = 0
      · subst hee
        by_cases hv : most < (v : Int)
        · go_enter Try.func51, Try.ntmps51
          go_wp2_with (first | (go_at_call 81; refine (ready_at _ _ _ _ h).mono ?_; rintro e w' ⟨rfl, rfl⟩) | (go_at_call 83; refine HC.out.mono ?_; rintro e w' ⟨rfl, rfl⟩) | (go_at_call 82; refine (refuse_at _ _ _ _ _ _ h).mono ?_; rintro e w' ⟨rfl, hr, hc⟩))
          go_ret
          exact ⟨by rw [HU.out, if_neg (by simp), if_pos hv]; rfl, by rw [HU.out, if_neg (by simp), if_pos hv]; exact hr, hc⟩
        · by_cases hs : xs.length - n < v
          · go_enter Try.func51, Try.ntmps51
            go_wp2_with (first | (go_at_call 81; refine (ready_at _ _ _ _ h).mono ?_; rintro e w' ⟨rfl, rfl⟩) | (go_at_call 83; refine HC.out.mono ?_; rintro e w' ⟨rfl, rfl⟩) | (go_at_call 82; refine (refuse_at _ _ _ _ _ _ h).mono ?_; rintro e w' ⟨rfl, hr, hc⟩))
            go_ret
            exact ⟨by rw [HU.out, if_neg (by simp), if_neg (show ¬ most < (v : Int) by omega), if_pos hs]; rfl, by rw [HU.out, if_neg (by simp), if_neg (show ¬ most < (v : Int) by omega), if_pos hs]; exact hr, hc⟩
          · go_enter Try.func51, Try.ntmps51
            go_wp2_with (first | (go_at_call 81; refine (ready_at _ _ _ _ h).mono ?_; rintro e w' ⟨rfl, rfl⟩) | (go_at_call 83; refine HC.out.mono ?_; rintro e w' ⟨rfl, rfl⟩))
            refine (take_at _ _ _ _ _ n H.out (by omega) (by omega)).mono ?_
            rintro e w1 ⟨A1, rfl, hb1, hr1, hc1, hp1⟩
            have HP1 := Lib.hid hp1
            clear hp1 c0 c1 c2 h
            simp only [Int.toNat_natCast] at hr1
            go_wp2_with fail
            refine (take_at _ _ _ _ _ v hr1 (by omega) (by rw [List.length_drop]; omega)).mono ?_
            rintro e w2 ⟨A2, rfl, hb2, hr2, hc2, hp2⟩
            have HP2 := Lib.hid hp2
            clear hp2
            simp only [Int.toNat_natCast] at hb2 hr2 ⊢
            have hcv := hb2.text Try.underlying30 Try.underlying5 Try.underlying9
            go_wp2
            go_ret
            exact ⟨by rw [HU.out, if_neg (by simp), if_neg (show ¬ most < (v : Int) by omega), if_neg (show ¬ xs.length - n < v by omega)]; rfl, by rw [HU.out, if_neg (by simp), if_neg (show ¬ most < (v : Int) by omega), if_neg (show ¬ xs.length - n < v by omega)]; exact hr2, hc1.one hc2 (.inr rfl)⟩
      · have hb : (ee == 0) = false := by simpa using hee
        have hb' : (ee != 0) = true := by simpa using hee
        have HE := Lib.hid hee
        clear hee
        go_enter Try.func51, Try.ntmps51
        go_wp2_with (first | (go_at_call 81; refine (ready_at _ _ _ _ h).mono ?_; rintro e w' ⟨rfl, rfl⟩) | (go_at_call 83; refine HC.out.mono ?_; rintro e w' ⟨rfl, rfl⟩) | (go_at_call 82; refine (refuse_at _ _ _ _ _ _ h).mono ?_; rintro e w' ⟨rfl, hr, hc⟩))
        go_ret
        exact ⟨by rw [HU.out, if_pos HE.out]; rfl, by rw [HU.out, if_pos HE.out]; exact hr, hc⟩
  · have hb : (err == 0) = false := by simpa using he
    go_enter Try.func51, Try.ntmps51
    go_wp2_with (go_at_call 81; refine (ready_at _ _ _ _ h).mono ?_; rintro e w' ⟨rfl, rfl⟩)
    go_ret
    simp only [rText, ne_eq, he, not_false_eq_true, if_true]
    exact ⟨rfl, H.out, Chg.refl _ _⟩

set_option maxHeartbeats 400000 in
theorem text_none (w : World) (most : Int) : Calls Try.prog 51 #[.pointer none, .int .i64 most] w fun e w' => e = .returned (.string ⟨#[]⟩) ∧ w = w' := by
  go_enter Try.func51, Try.ntmps51
  go_wp2
  go_ret
  exact ⟨rfl, rfl⟩

/-- What Raw reads. -/
def rRaw (n : Int) (r : Rd) : List UInt8 × Rd :=
  if r.err ≠ 0 then ([], r) else if n < 0 then ([], ⟨r.rest, 2⟩) else if (r.rest.length : Int) < n then ([], ⟨r.rest, 110⟩)
  else (r.rest.take n.toNat, ⟨r.rest.drop n.toNat, 0⟩)

set_option maxRecDepth 100000 in
set_option maxHeartbeats 800000 in
theorem raw_calls (w : World) (g d : Nat) (r : Rd) (n : Int) (h : RdrAt w g d r) (hx : r.rest.length ≤ 140737488355328) :
    Calls Try.prog 67 #[.pointer (some ⟨g, 0, none⟩), .int .i64 n] w fun e w' => ∃ v, e = .returned v ∧ OwnB w' w.heap.size v (rRaw n r).1 ∧ RdrAt w' g d (rRaw n r).2 ∧ Chg (One g) w w' := by
  obtain ⟨xs, err⟩ := r
  have H := Lib.hid h
  obtain ⟨A, c, c0, c1, c2, hn, hm, H2, H3⟩ := h.open
  simp only at hx
  by_cases he : err = 0
  · subst he
    by_cases hm0 : n < 0
    · have HU : Hid (rRaw n ⟨xs, 0⟩ = ([], ⟨xs, 2⟩)) := by simp [Hid, rRaw, hm0]
      go_enter Try.func67, Try.ntmps67
      go_wp2_with (first | (go_at_call 81; refine (ready_at _ _ _ _ h).mono ?_; rintro e w' ⟨rfl, rfl⟩) | (go_at_call 82; refine (refuse_at _ _ _ _ _ _ h).mono ?_; rintro e w' ⟨rfl, hr, hc⟩))
      go_ret
      exact ⟨_, rfl, by rw [HU.out]; exact World.ownsRow_nil _ _ _ _, by rw [HU.out]; exact hr, hc⟩
    · by_cases hl : (xs.length : Int) < n
      · have HU : Hid (rRaw n ⟨xs, 0⟩ = ([], ⟨xs, 110⟩)) := by simp [Hid, rRaw, hm0, hl]
        go_enter Try.func67, Try.ntmps67
        go_wp2_with (first | (go_at_call 81; refine (ready_at _ _ _ _ h).mono ?_; rintro e w' ⟨rfl, rfl⟩) | (go_at_call 82; refine (refuse_at _ _ _ _ _ _ h).mono ?_; rintro e w' ⟨rfl, hr, hc⟩))
        go_ret
        exact ⟨_, rfl, by rw [HU.out]; exact World.ownsRow_nil _ _ _ _, by rw [HU.out]; exact hr, hc⟩
      · have HU : Hid (rRaw n ⟨xs, 0⟩ = (xs.take n.toNat, ⟨xs.drop n.toNat, 0⟩)) := by simp [Hid, rRaw, hm0, hl]
        go_enter Try.func67, Try.ntmps67
        go_wp2_with (go_at_call 81; refine (ready_at _ _ _ _ h).mono ?_; rintro e w' ⟨rfl, rfl⟩)
        refine (take_at _ _ _ _ _ n H.out (by omega) (by omega)).mono ?_
        rintro e w1 ⟨A', rfl, hb, hr, hc, hp⟩
        have HP := Lib.hid hp
        clear hp c0 c1 c2 h
        go_wp2_with fail
        refine (clone_any _ _ _ _ _ hb (by omega)).mono ?_
        rintro e w2 ⟨v, rfl, hown, hc2⟩
        go_wp2
        go_ret
        exact ⟨_, rfl, by rw [HU.out]; exact hown.mono hc.size, by rw [HU.out]; exact hr.no hc2, hc.no hc2⟩
  · have hb : (err == 0) = false := by simpa using he
    go_enter Try.func67, Try.ntmps67
    go_wp2_with (go_at_call 81; refine (ready_at _ _ _ _ h).mono ?_; rintro e w' ⟨rfl, rfl⟩)
    go_ret
    simp only [rRaw, ne_eq, he, not_false_eq_true, if_true]
    exact ⟨_, rfl, World.ownsRow_nil _ _ _ _, H.out, Chg.refl _ _⟩

set_option maxHeartbeats 400000 in
theorem raw_none (w : World) (n : Int) : Calls Try.prog 67 #[.pointer none, .int .i64 n] w fun e w' => e = .returned (.slice none 0 0) ∧ w = w' := by
  go_enter Try.func67, Try.ntmps67
  go_wp2
  go_ret
  exact ⟨rfl, rfl⟩
end Go.Proofs.Ytccphnkdnifpfaa

namespace Go.Proofs.Ytccphnkdnifpfaa
set_option linter.unnecessarySimpa false
open Go.RowKit
set_option linter.unusedVariables false
set_option linter.unusedSimpArgs false
set_option maxRecDepth 100000

theorem zero_blob (w : World) : Sem.run Try.prog (zeroValue 36) w = .ok (.agg #[.slice none 0 0]) w := by
  first | rfl | (simp [go_sem]; done) | exact Try.zeroValue36 w
theorem zero_tree (w : World) : Sem.run Try.prog (zeroValue 55) w = .ok (.agg #[.slice none 0 0]) w := by
  first | rfl | (simp [go_sem]; done) | exact Try.zeroValue55 w
theorem zero_commit (w : World) : Sem.run Try.prog (zeroValue 44) w = .ok (.agg #[.int .u64 0, .slice none 0 0, .string ⟨#[]⟩, .int .i64 0, .string ⟨#[]⟩]) w := by
  first | rfl | (simp [go_sem]; done) | exact Try.zeroValue44 w
theorem ta_blob_blob (w : World) (v : Value) : Sem.run Try.prog (Instr.typeAssert (.iface 36 v) 38 36 true) w = .ok (.tuple #[v, .bool true]) w := by
  simp [Instr.typeAssert, run_underlying Try.underlying36, Sem.run_bind, Sem.run_pure, Result.andThen]
theorem ta1_blob_blob (w : World) (v : Value) : Sem.run Try.prog (Instr.typeAssert (.iface 36 v) 38 36 false) w = .ok v w := by
  simp [Instr.typeAssert, run_underlying Try.underlying36, Sem.run_bind, Sem.run_pure, Result.andThen]
theorem ta_blob_tree (w : World) (v : Value) : Sem.run Try.prog (Instr.typeAssert (.iface 36 v) 38 55 true) w = .ok (.tuple #[.agg #[.slice none 0 0], .bool false]) w := by
  simp [Instr.typeAssert, run_underlying Try.underlying55, zero_tree, Sem.run_bind, Sem.run_pure, Result.andThen]
theorem ta_blob_commit (w : World) (v : Value) : Sem.run Try.prog (Instr.typeAssert (.iface 36 v) 38 44 true) w = .ok (.tuple #[.agg #[.int .u64 0, .slice none 0 0, .string ⟨#[]⟩, .int .i64 0, .string ⟨#[]⟩], .bool false]) w := by
  simp [Instr.typeAssert, run_underlying Try.underlying44, zero_commit, Sem.run_bind, Sem.run_pure, Result.andThen]
theorem ta_tree_blob (w : World) (v : Value) : Sem.run Try.prog (Instr.typeAssert (.iface 55 v) 38 36 true) w = .ok (.tuple #[.agg #[.slice none 0 0], .bool false]) w := by
  simp [Instr.typeAssert, run_underlying Try.underlying36, zero_blob, Sem.run_bind, Sem.run_pure, Result.andThen]
theorem ta_tree_tree (w : World) (v : Value) : Sem.run Try.prog (Instr.typeAssert (.iface 55 v) 38 55 true) w = .ok (.tuple #[v, .bool true]) w := by
  simp [Instr.typeAssert, run_underlying Try.underlying55, Sem.run_bind, Sem.run_pure, Result.andThen]
theorem ta1_tree_tree (w : World) (v : Value) : Sem.run Try.prog (Instr.typeAssert (.iface 55 v) 38 55 false) w = .ok v w := by
  simp [Instr.typeAssert, run_underlying Try.underlying55, Sem.run_bind, Sem.run_pure, Result.andThen]
theorem ta_tree_commit (w : World) (v : Value) : Sem.run Try.prog (Instr.typeAssert (.iface 55 v) 38 44 true) w = .ok (.tuple #[.agg #[.int .u64 0, .slice none 0 0, .string ⟨#[]⟩, .int .i64 0, .string ⟨#[]⟩], .bool false]) w := by
  simp [Instr.typeAssert, run_underlying Try.underlying44, zero_commit, Sem.run_bind, Sem.run_pure, Result.andThen]
theorem ta_commit_blob (w : World) (v : Value) : Sem.run Try.prog (Instr.typeAssert (.iface 44 v) 38 36 true) w = .ok (.tuple #[.agg #[.slice none 0 0], .bool false]) w := by
  simp [Instr.typeAssert, run_underlying Try.underlying36, zero_blob, Sem.run_bind, Sem.run_pure, Result.andThen]
theorem ta_commit_tree (w : World) (v : Value) : Sem.run Try.prog (Instr.typeAssert (.iface 44 v) 38 55 true) w = .ok (.tuple #[.agg #[.slice none 0 0], .bool false]) w := by
  simp [Instr.typeAssert, run_underlying Try.underlying55, zero_tree, Sem.run_bind, Sem.run_pure, Result.andThen]
theorem ta_commit_commit (w : World) (v : Value) : Sem.run Try.prog (Instr.typeAssert (.iface 44 v) 38 44 true) w = .ok (.tuple #[v, .bool true]) w := by
  simp [Instr.typeAssert, run_underlying Try.underlying44, Sem.run_bind, Sem.run_pure, Result.andThen]
theorem ta1_commit_commit (w : World) (v : Value) : Sem.run Try.prog (Instr.typeAssert (.iface 44 v) 38 44 false) w = .ok v w := by
  simp [Instr.typeAssert, run_underlying Try.underlying44, Sem.run_bind, Sem.run_pure, Result.andThen]
theorem ta_nil_blob (w : World) : Sem.run Try.prog (Instr.typeAssert .nilIface 38 36 true) w = .ok (.tuple #[.agg #[.slice none 0 0], .bool false]) w := by
  simp [Instr.typeAssert, run_underlying Try.underlying36, zero_blob, Sem.run_bind, Sem.run_pure, Result.andThen]
theorem ta_nil_tree (w : World) : Sem.run Try.prog (Instr.typeAssert .nilIface 38 55 true) w = .ok (.tuple #[.agg #[.slice none 0 0], .bool false]) w := by
  simp [Instr.typeAssert, run_underlying Try.underlying55, zero_tree, Sem.run_bind, Sem.run_pure, Result.andThen]
theorem ta_nil_commit (w : World) : Sem.run Try.prog (Instr.typeAssert .nilIface 38 44 true) w = .ok (.tuple #[.agg #[.int .u64 0, .slice none 0 0, .string ⟨#[]⟩, .int .i64 0, .string ⟨#[]⟩], .bool false]) w := by
  simp [Instr.typeAssert, run_underlying Try.underlying44, zero_commit, Sem.run_bind, Sem.run_pure, Result.andThen]

abbrev blobV (v : Value) : Value := .iface 36 (.agg #[v])
abbrev treeV (v : Value) : Value := .iface 55 (.agg #[v])
abbrev commitV (t : Int) (ps : Value) (a : ByteArray) (d : Int) (x : ByteArray) : Value := .iface 44 (.agg #[.int .u64 t, ps, .string a, .int .i64 d, .string x])

set_option maxHeartbeats 800000 in
theorem check_blob (w : World) (A : Option Addr) (n c : Nat) : Calls Try.prog 70 #[blobV (.slice A n c)] w fun e w' => e = .returned (.int .i64 (if 4096 < n then 3 else 0)) ∧ Chg No w w' := by
  have fb := fun w => ta_blob_blob w
  have ft := fun w => ta_blob_tree w
  have fc := fun w => ta_blob_commit w
  by_cases h : 4096 < n
  · have t0 : (4096 : Int) < (n : Int) := by omega
    go_enter Try.func70, Try.ntmps70
    go_wp2
    go_ret
    exact ⟨rfl, (Chg.refl No w).alloc _⟩
  · have t0 : ¬ (4096 : Int) < (n : Int) := by omega
    go_enter Try.func70, Try.ntmps70
    go_wp2
    go_ret
    exact ⟨rfl, (Chg.refl No w).alloc _⟩
theorem tree_zero (w : World) (A : Option Addr) (c : Nat) : Calls Try.prog 94 #[.slice A 0 c] w fun e w' => e = .returned (.int .i64 0) ∧ Chg No w w' := by
  go_enter Try.func94, Try.ntmps94
  go_wp2
  go_loopw [12] (fun i wr => i = .int .i64 0 ∧ Chg No w wr) (fun i _ => 0)
  case atStart => exact ⟨rfl, Chg.refl _ _⟩
  case round =>
    obtain ⟨rfl, HC⟩ := hrel
    go_wp2
    go_ret
    exact ⟨rfl, HC⟩
set_option maxHeartbeats 800000 in
theorem check_tree0 (w : World) (A : Option Addr) (c : Nat) : Calls Try.prog 70 #[treeV (.slice A 0 c)] w fun e w' => e = .returned (.int .i64 0) ∧ Chg No w w' := by
  have fb := fun w => ta_tree_blob w
  have ft := fun w => ta_tree_tree w
  have fc := fun w => ta_tree_commit w
  go_enter Try.func70, Try.ntmps70
  go_wp2_with fail
  refine (tree_zero _ A c).mono ?_
  rintro e w1 ⟨rfl, hc⟩
  go_wp2
  go_ret
  exact ⟨rfl, ((Chg.refl No w).alloc _).no hc⟩
theorem kind_blob (w : World) (v : Value) : Calls Try.prog 47 #[blobV v] w fun e w' => e = .returned (.int .i64 1) ∧ w' = w := by
  have fb := fun w => ta_blob_blob w
  have ft := fun w => ta_blob_tree w
  have fc := fun w => ta_blob_commit w
  go_enter Try.func47, Try.ntmps47
  go_wp2
  go_ret
  exact ⟨rfl, rfl⟩
theorem kind_tree (w : World) (v : Value) : Calls Try.prog 47 #[treeV v] w fun e w' => e = .returned (.int .i64 2) ∧ w' = w := by
  have fb := fun w => ta_tree_blob w
  have ft := fun w => ta_tree_tree w
  have fc := fun w => ta_tree_commit w
  go_enter Try.func47, Try.ntmps47
  go_wp2
  go_ret
  exact ⟨rfl, rfl⟩
theorem kind_commit (w : World) (t : Int) (ps : Value) (a : ByteArray) (d : Int) (x : ByteArray) : Calls Try.prog 47 #[commitV t ps a d x] w fun e w' => e = .returned (.int .i64 3) ∧ w' = w := by
  have fb := fun w => ta_commit_blob w
  have ft := fun w => ta_commit_tree w
  have fc := fun w => ta_commit_commit w
  go_enter Try.func47, Try.ntmps47
  go_wp2
  go_ret
  exact ⟨rfl, rfl⟩

set_option maxHeartbeats 1600000 in
theorem encode_blob (w : World) (A : Option Addr) (n c : Nat) (xs : List UInt8) (hb : Bytes w (.slice A n c) xs) (hl : xs.length = n) (hn : n ≤ 4096) :
    Calls Try.prog 36 #[blobV (.slice A n c)] w fun e w' => ∃ v, e = .returned (.tuple #[v, .int .i64 0]) ∧ OwnB w' w.heap.size v (98 :: xs) ∧ Chg No w w' := by
  have fb := fun w => ta_blob_blob w
  have ft := fun w => ta_blob_tree w
  have fc := fun w => ta_blob_commit w
  have HB := Lib.hid hb
  have HL := Lib.hid hl
  clear hb hl
  go_enter Try.func36, Try.ntmps36
  go_wp2_with fail
  refine (check_blob w A n c).mono ?_
  rintro e w1 ⟨rfl, hc1⟩
  rw [if_neg (by omega)]
  have HC1 := Lib.hid hc1
  clear hc1
  have hs1 := HC1.out.size
  have hlit := OwnB.lit ((w1.alloc (.cells #[.slice none 0 0] 30)).alloc (.cells #[.slice A n c] 36)) [98] (by unfold maxLen; decide)
  simp only [World.size_alloc] at hlit
  have HLIT := Lib.hid hlit
  clear hlit
  go_wp2_with (at_builtin; (refine wpList_app2 rfl (.tmp 26) (.tmp 28) 30 30 rfl w.heap.size 5 (.int .u8 0) 1 1 infoU8 Try.underlying30 rfl (by decide) (.slice (some ⟨w1.heap.size + 1 + 1, 0, none⟩) 1 1) (.slice A n c) 1 n (u8s [98]) (u8s xs) rfl rfl ?own ?src ?b1 ?b2 ?b3 ?_; (case own => exact OwnB.n (OwnB.mono HLIT.out (by omega)) rfl); (case src => exact Src.ofBytes Try.underlying30 (HB.out.no (((HC1.out.alloc _).alloc _).alloc _)) HL.out); (case b1 => omega); (case b2 => unfold maxLen; omega); (case b3 => simp; omega); intro vb w4 hown4 hg4 hfrom4; refine Hid.out ?_))
  refine Lib.hid ?_
  have hO4 : OwnB w4 w.heap.size vb (98 :: xs) := OwnB.of hown4 (by simp [u8s])
  have hC4 : Chg No w w4 := (((HC1.out.alloc _).alloc _).alloc _).grown hg4 (fun k hk => by simp [Value.ownBlock] at hk; left; omega)
  obtain ⟨AB, nb, cb, rfl, HLB, HOB⟩ := hO4.form
  have HC4 := Lib.hid hC4
  clear hO4 hown4 hg4 hfrom4 hC4
  go_wp2
  go_ret2
  exact ⟨_, rfl, HOB.out, HC4.out⟩

theorem Bytes.litMark {w : World} {xs : List UInt8} {t : TypeId} {m : Nat × Nat} (n c : Nat) (hn : n = xs.length) (hc : n ≤ c) (hm : c ≤ maxLen) : Bytes (w.alloc (.cells (u8s xs).toArray t m)) (.slice (some ⟨w.heap.size, 0, none⟩) n c) xs := by
  subst hn
  refine ⟨_, _, rfl, hc, hm, fun _ => ⟨w.heap.size, 0, rfl, fun j u hj => ?_⟩⟩
  rw [Nat.zero_add]
  unfold World.cell? World.alloc
  simpa using hj

set_option maxHeartbeats 1600000 in
theorem decode_tz (w : World) (A : Option Addr) (c : Nat) (hb : Bytes w (.slice A 2 c) [116, 0]) :
    Calls Try.prog 34 #[.slice A 2 c] w fun e w' => e = .returned (.tuple #[treeV (.slice none 0 0), .int .i64 0]) ∧ Chg No w w' := by
  have HB := Lib.hid hb
  clear hb
  go_enter Try.func34, Try.ntmps34
  go_wp2_with fail
  refine (read_calls w A 2 c [116, 0] HB.out (by omega)).mono ?_
  rintro e w' ⟨w1, v, rfl, rfl, hown, hc⟩
  obtain ⟨d, hd, hr⟩ := RdrAt.made hown hc.size
  have hsz := hc.size
  have HC := Lib.hid ((hc.alloc (.cells #[.bool true, v, .int .i64 0] 141)))
  clear hown hc
  generalize w1.alloc (.cells #[.bool true, v, .int .i64 0] 141) = w2 at *
  generalize w1.heap.size = g at *
  go_wp2_with fail
  refine (byte_calls w2 g d _ hr).mono ?_
  rintro e w3 ⟨rfl, hr3, hc3⟩
  rw [show rByte ⟨[116, 0], 0⟩ = (116, ⟨[0], 0⟩) from rfl] at *
  have HC3 : Hid (Chg No w w3) := HC.out.one hc3 (.inl hsz)
  clear hc3 hr HC
  go_wp2_with fail
  refine (uint_calls _ g d _ (hr3.no ((Chg.refl No w3).alloc _)) (by simp)).mono ?_
  rintro e w4 ⟨rfl, hr4, hc4⟩
  rw [show rUint ⟨[0], 0⟩ = (0, ⟨[], 0⟩) from by decide] at *
  have hb4 : w4.cell? ⟨w3.heap.size, 0, none⟩ = some (.slice none 0 0) := by
    have h := (Boxed.new w3 55 (.slice none 0 0))
    have hg := hr3.lt
    exact Boxed.cell (hc4.heap h (fun e => by have e : w3.heap.size = g := e; omega))
  have HC4 : Hid (Chg No w w4) := (HC3.out.alloc _).one hc4 (.inl hsz)
  have HR4 := Lib.hid hr4
  clear hc4 hr3 HC3 hr4
  go_wp2
  go_loopw [7] (fun i wr => i = .int .u64 0 ∧ wr = w4) (fun i _ => 0)
  case atStart => exact ⟨rfl, rfl⟩
  case round =>
    obtain ⟨rfl, rfl⟩ := hrel
    go_wp2_with fail
    refine (end_calls _ g d _ HR4.out).mono ?_
    rintro e w5 ⟨rfl, rfl⟩
    rw [show rEnd ⟨[], 0⟩ = 0 from rfl] at *
    go_wp2_with fail
    refine (check_tree0 _ none 0).mono ?_
    rintro e w6 ⟨rfl, hc6⟩
    go_wp2
    go_ret2
    exact ⟨rfl, HC4.out.no hc6⟩
end Go.Proofs.Ytccphnkdnifpfaa

namespace Go.Proofs.Ytccphnkdnifpfaa
set_option linter.unnecessarySimpa false
open Go.RowKit
set_option linter.unusedVariables false
set_option linter.unusedSimpArgs false

def okP (p : Nat × Bool × List UInt8) : Bool := p.1 != 0 && !p.2.1
def rightF (l : List UInt8) : Bool := (pcs l).all okP
theorem fffd_k (l : List UInt8) (h : l ≠ []) (hr : (decL l).1 = 65533) : (decL l).2 ≤ 3 ∧ (brk l = false → (decL l).2 = 3) := by
  have hb := brk_short l h
  cases hk : brk l with
  | true =>
    have h1 := brk_one l hk
    rw [h1]
    exact ⟨by decide, fun h => by simp at h⟩
  | false =>
    have : ([239, 191, 189] : List UInt8).isPrefixOf l = true := by
      unfold brk at hk
      rw [hr] at hk
      simpa using hk
    rw [pre_fffd this]
    exact ⟨by decide, fun _ => rfl⟩

set_option maxRecDepth 100000 in
set_option maxHeartbeats 1600000 in
theorem right_calls (w : World) (s : ByteArray) (hs : s.size ≤ 9223372036854775807) :
    Calls Try.prog 100 #[.string s] w fun e w' => e = .returned (.bool (rightF s.data.toList)) ∧ Chg No w w' := by
  have hsl := size_list s
  have HS := Lib.hid hsl
  clear hsl
  go_enter Try.func100, Try.ntmps100
  go_wp2
  go_loopw [3, 4] (fun a b wr => ∃ pos ah la : Nat, pos ≤ s.size ∧ la ≤ pos ∧ a = .int .i32 (ah : Int) ∧ b = .int .i64 (la : Int) ∧ (ah = 65533 → pos - la ≤ 3) ∧ Hid (wr.heap[w.heap.size]? = some (.stringIter s pos)) ∧ Hid (rightF s.data.toList = (!(ah == 65533 && decide (pos - la < 3)) && (pcs (s.data.toList.drop pos)).all okP)) ∧ Hid (Chg No w wr)) (fun _ _ wr => s.size - wr.iterPos w.heap.size)
  case atStart => exact ⟨0, 32, 0, Nat.zero_le _, Nat.le_refl _, rfl, rfl, by decide, World.iter_heap _ _ _, rfl, (Chg.refl No w).alloc _⟩
  case round =>
    obtain ⟨pos, ah, la, hpos, hla, rfl, rfl, hah3, HI, HU2, HC⟩ := hrel
    by_cases hp : pos < s.size
    · have hl := drop_ne hp
      obtain ⟨f1, f2, f3⟩ := decL_facts _ hl
      have HPC := Lib.hid (pcs_cons _ hl)
      have hnx := fun ty => Lib.run_next_any_at (P := Try.prog) wr w.heap.size s pos ty HI.out hp
      rw [decode_drop] at hnx
      have hbs := brk_short _ hl
      have hf3 := fffd_k _ hl
      rw [List.length_drop, HS.out] at f2
      rw [List.drop_drop] at HPC
      generalize decL (s.data.toList.drop pos) = D at *
      obtain ⟨r, k⟩ := D
      simp only at f1 f2 f3 hnx HPC hbs hf3
      have HC1 : Hid (Chg No w (wr.iterAt w.heap.size s (pos + k))) := Chg.iterAt HC.out (Nat.le_refl _) _ _
      have HI1 : Hid ((wr.iterAt w.heap.size s (pos + k)).heap[w.heap.size]? = some (.stringIter s (pos + k))) := Lib.iterAt_heap wr w.heap.size s pos (pos + k) HI.out
      have hip : wr.iterPos w.heap.size = pos := iterPos_of HI.out
      have hip2 : (wr.iterAt w.heap.size s (pos + k)).iterPos w.heap.size = pos + k := iterPos_of HI1.out
      have HB := Lib.hid hbs
      have HF := Lib.hid hf3
      clear hbs hf3
      generalize brk (s.data.toList.drop pos) = bk at *
      generalize (s.data.toList.drop pos).take k = bs at *
      clear hl
      generalize wr.iterAt w.heap.size s (pos + k) = wn at *
      by_cases hr0 : r = 0
      · have hb : ((r : Int) == 0) = true := by rw [hr0]; rfl
        have H0 := Lib.hid hr0
        clear hr0
        go_wp2
        go_ret
        exact ⟨by rw [HU2.out, HPC.out]; simp [okP, H0.out], HC1.out⟩
      · have hb : ((r : Int) == 0) = false := by simp; omega
        by_cases ha : ah = 65533 ∧ pos - la < 3
        · have hb2 : ((ah : Int) == 65533) = true := by rw [ha.1]; rfl
          have hb3 : ((pos : Int) - (la : Int)) < 3 := by omega
          have H2 := Lib.hid ha
          clear ha hr0
          go_wp2
          go_ret
          exact ⟨by rw [HU2.out]; simp [H2.out.1, H2.out.2], HC1.out⟩
        · have HG : Hid ((ah == 65533 && decide (pos - la < 3)) = false) := by
            rw [Hid]
            simp only [Bool.and_eq_false_iff, beq_eq_false_iff_ne, decide_eq_false_iff_not]
            by_cases h1 : ah = 65533
            · exact .inr fun h2 => ha ⟨h1, h2⟩
            · exact .inl h1
          have HN : Hid (rightF s.data.toList = (!(r == 65533 && decide (pos + k - pos < 3)) && (pcs (s.data.toList.drop (pos + k))).all okP)) := by
            rw [Hid, HU2.out, HG.out, HPC.out, List.all_cons]
            have h1 : okP (r, bk, bs) = !(r == 65533 && decide (pos + k - pos < 3)) := by
              have : (r != 0) = true := by simpa using hr0
              rw [okP, this, HB.out, Nat.add_sub_cancel_left]
              rfl
            rw [h1]
            rfl
          have hk3 : r = 65533 → pos + k - pos ≤ 3 := fun h => by have := (HF.out h).1; omega
          by_cases h1 : ah = 65533
          · have hb2 : ((ah : Int) == 65533) = true := by rw [h1]; rfl
            have hb3 : ¬ ((pos : Int) - (la : Int)) < 3 := by omega
            clear ha hr0 h1 HF
            go_wp2
            go_roundw
            case rel => exact ⟨pos + k, r, pos, by omega, by omega, rfl, rfl, hk3, HI1.out, HN.out, HC1.out⟩
            case measure => rw [hip, hip2]; omega
          · have hb2 : ((ah : Int) == 65533) = false := by simp; omega
            clear ha hr0 h1 HF
            go_wp2
            go_roundw
            case rel => exact ⟨pos + k, r, pos, by omega, by omega, rfl, rfl, hk3, HI1.out, HN.out, HC1.out⟩
            case measure => rw [hip, hip2]; omega
    · have hnx := fun ty => Lib.run_next_end_at (P := Try.prog) wr w.heap.size s pos ty HI.out hp
      have HE : Hid (s.data.toList.drop pos = []) := by rw [Hid]; exact List.drop_of_length_le (by rw [HS.out]; omega)
      have hps : pos = s.size := by omega
      subst hps
      by_cases h1 : ah = 65533
      · have hb2 : ((ah : Int) != 65533) = false := by rw [h1]; rfl
        have h13 := hah3 h1
        have H1 := Lib.hid h1
        clear h1 hah3
        by_cases h3 : s.size - la = 3
        · have hb3 : ((s.size : Int) - (la : Int) == 3) = true := by rw [beq_iff_eq]; omega
          have H3 := Lib.hid h3
          clear h3
          go_wp2
          go_ret
          exact ⟨by rw [HU2.out, HE.out, H1.out, H3.out]; rfl, HC.out⟩
        · have hb3 : ((s.size : Int) - (la : Int) == 3) = false := by rw [beq_eq_false_iff_ne]; omega
          have H3 : Hid (decide (s.size - la < 3) = true) := by simp [Hid]; omega
          clear h3
          go_wp2
          go_ret
          exact ⟨by rw [HU2.out, HE.out, H1.out, H3.out]; rfl, HC.out⟩
      · have hb2 : ((ah : Int) != 65533) = true := by simp; omega
        have H2 : Hid ((ah == 65533) = false) := by rw [Hid, beq_eq_false_iff_ne]; exact h1
        clear h1 hah3
        go_wp2
        go_ret
        exact ⟨by rw [HU2.out, HE.out, H2.out]; rfl, HC.out⟩
end Go.Proofs.Ytccphnkdnifpfaa

namespace Go.Proofs.Ytccphnkdnifpfaa
set_option linter.unnecessarySimpa false
open Go.ChangeShapes Go.WideShapes Go.ChangeAt Go.RowKit
set_option linter.unusedVariables false
set_option linter.unusedSimpArgs false

/-- A slice whose elements are told by enc, one cell each. -/
def Sl {α : Type} (enc : α → Value) (w : World) (v : Value) (xs : List α) : Prop := Holds w v xs.length (xs.map enc)
theorem Sl.no {α : Type} {enc : α → Value} {w w' : World} {v : Value} {xs : List α} (h : Sl enc w v xs) (hc : Chg No w w') : Sl enc w' v xs := Holds.no h hc
theorem Sl.chg {α : Type} {enc : α → Value} {S : Nat → Prop} {w w' : World} {v : Value} {xs : List α} (h : Sl enc w v xs) (hc : Chg S w w') (hs : ∀ b, v.ownBlock = some b → ¬ S b) : Sl enc w' v xs := Holds.chg h hc hs
theorem Sl.addr {α : Type} {enc : α → Value} {w : World} {A : Option Addr} {n c : Nat} {xs : List α} (h : Sl enc w (.slice A n c) xs) (hp : 0 < xs.length) :
    ∃ b o, A = some ⟨b, o, none⟩ ∧ ∀ j (hj : j < xs.length), w.cell? ⟨b, o + j, none⟩ = some (enc xs[j]) := by
  obtain ⟨A', c', he, hn, hm, hx⟩ := h
  simp only [Value.slice.injEq] at he
  obtain ⟨rfl, rfl, rfl⟩ := he
  obtain ⟨b, o, rfl, hc⟩ := hx (by simpa using hp)
  exact ⟨b, o, rfl, fun j hj => hc j _ (by simp [hj])⟩
theorem Sl.len {α : Type} {enc : α → Value} {w : World} {A : Option Addr} {n c : Nat} {xs : List α} (h : Sl enc w (.slice A n c) xs) : xs.length = n := by
  obtain ⟨A', c', he, hn, hm, hx⟩ := h
  simp only [Value.slice.injEq] at he
  exact he.2.1.symm

def u64v (x : Nat) : Value := .int .u64 (x : Int)
def strv (s : List UInt8) : Value := .string (mkS s)

theorem open_u64s {H : Type} {enc : TypeId × Value → H} {P : Program} {W : World} {t e : TypeId} {v : Value} {d : DataW H} {p : List MemPlace} {r : Reach} {b0 : Nat}
    (ht : P.underlying t = some (.slice e)) (he : P.underlying e = some (.int .u64)) (hc : P.cellsOf e = 1) (hval : Value.okWide P W r b0 t v)
    (h : DataW.Trod enc P W 0 (fun _ => true) true t v d p) :
    ∃ A n c xs, v = .slice A n c ∧ Sl u64v W (.slice A n c) xs ∧ (∀ x ∈ xs, x < 18446744073709551616) ∧ (n = 0 ∨ ∃ elems spare, d = .slice elems spare ∧ elems.length = n) := by
  obtain ⟨a0, len0, cap0, rfl⟩ := okWide_slice ht hval
  obtain ⟨fuel, hf⟩ := h
  rcases open_ints ht he hc hf with ⟨hcs, _⟩ | ⟨x, l, c, zs, hcs, _, hl, hm, hz, hx, hcell, hwz⟩
  · simp [Value.cells] at hcs
    obtain ⟨rfl, rfl, rfl⟩ := hcs
    exact ⟨_, _, _, [], rfl, Holds.nil W, (fun x hx => by cases hx), .inl rfl⟩
  · simp [Value.cells] at hcs
    obtain ⟨rfl, rfl, rfl⟩ := hcs
    simp only [if_true] at hz
    have hzl : (zs.take len0).length = len0 := by rw [List.length_take]; omega
    have hwf : ∀ z ∈ zs, 0 ≤ z ∧ z ≤ 18446744073709551615 := fun z hzm => by simpa [Lit.wf, IntKind.min, IntKind.max, IntKind.signed, IntKind.bits] using hwz z hzm
    refine ⟨_, _, _, (zs.take len0).map Int.toNat, rfl, ?_, ?_, .inr ⟨_, _, (Prod.mk.inj hx).1, by rw [lits, List.length_map]; exact hzl⟩⟩
    · refine ⟨_, _, by rw [List.length_map, hzl], by rw [List.length_map, hzl]; exact hl, hm, fun hp => ?_⟩
      have hpos : 0 < zs.length := by
        simp only [List.length_map, List.length_take] at hp
        omega
      obtain ⟨b, off, spot⟩ := x
      have hc0 := hcell 0 hpos
      have hspot : spot = none := by simpa [Addr.add] using World.cell?_spot hc0
      subst hspot
      refine ⟨b, off, rfl, fun j u hj => ?_⟩
      have hjl : j < len0 := by
        have := (List.getElem?_eq_some_iff.1 hj).1
        simp only [List.length_map, hzl] at this
        exact this
      have hcj := hcell j (by omega)
      rw [Addr.add_lit] at hcj
      rw [hcj]
      have hzj : zs.getD j 0 ∈ zs := by
        simp only [List.getD, List.getElem?_eq_getElem (show j < zs.length by omega), Option.getD_some]
        exact List.getElem_mem _
      have hb := hwf _ hzj
      rw [List.getElem?_eq_getElem (by simp only [List.length_map, hzl]; exact hjl)] at hj
      simp only [List.getElem_map, List.getElem_take, Option.some.injEq] at hj
      rw [← hj]
      have hg : zs[j]'(by omega) = zs.getD j 0 := by simp [List.getD, List.getElem?_eq_getElem (show j < zs.length by omega)]
      rw [hg, u64v]
      congr 2
      omega
    · intro x hx
      obtain ⟨z, hz, rfl⟩ := List.mem_map.1 hx
      have := hwf z (List.mem_of_mem_take hz)
      omega

theorem open_strs1 {H : Type} {enc : TypeId × Value → H} {P : Program} {W : World} {t e : TypeId} {v : Value} {d : DataW H} {p : List MemPlace} {r : Reach} {b0 : Nat}
    (ht : P.underlying t = some (.slice e)) (he : P.underlying e = some .string) (hc : P.cellsOf e = 1) (hval : Value.okWide P W r b0 t v)
    (h : DataW.Trod enc P W 0 (fun _ => true) true t v d p) :
    ∃ A n c xs, v = .slice A n c ∧ Sl strv W (.slice A n c) xs ∧ (xs = [] ∨ ∃ spare, d = .slice (xs.map fun s => .lit (.string s)) spare) := by
  obtain ⟨a0, len0, cap0, rfl⟩ := okWide_slice ht hval
  obtain ⟨fuel, hf⟩ := h
  rcases open_strings ht he hc hf with ⟨hcs, _⟩ | ⟨x, l, c, ss, hcs, _, hl, hm, hz, hx, hcell, _⟩
  · simp [Value.cells] at hcs
    obtain ⟨rfl, rfl, rfl⟩ := hcs
    exact ⟨_, _, _, [], rfl, Holds.nil W, .inl rfl⟩
  · simp [Value.cells] at hcs
    obtain ⟨rfl, rfl, rfl⟩ := hcs
    simp only [if_true] at hz
    have hzl : (ss.take len0).length = len0 := by rw [List.length_take]; omega
    refine ⟨_, _, _, (ss.take len0).map (fun s => s.data.toList), rfl, ?_, .inr ⟨strs (ss.drop len0), ?_⟩⟩
    · refine ⟨_, _, by rw [List.length_map, hzl], by rw [List.length_map, hzl]; exact hl, hm, fun hp => ?_⟩
      have hpos : 0 < ss.length := by
        simp only [List.length_map, List.length_take] at hp
        omega
      obtain ⟨b, off, spot⟩ := x
      have hc0 := hcell 0 hpos
      have hspot : spot = none := by simpa [Addr.add] using World.cell?_spot hc0
      subst hspot
      refine ⟨b, off, rfl, fun j u hj => ?_⟩
      have hjl : j < len0 := by
        have := (List.getElem?_eq_some_iff.1 hj).1
        simp only [List.length_map, hzl] at this
        exact this
      have hcj := hcell j (by omega)
      rw [Addr.add_lit] at hcj
      rw [hcj]
      rw [List.getElem?_eq_getElem (by simp only [List.length_map, hzl]; exact hjl)] at hj
      simp only [List.getElem_map, List.getElem_take, Option.some.injEq] at hj
      rw [← hj, strv, mkS_self]
      simp [List.getD, List.getElem?_eq_getElem (show j < ss.length by omega)]
    · rw [(Prod.mk.inj hx).1]
      simp [strs]
      rfl
end Go.Proofs.Ytccphnkdnifpfaa

namespace Go.Proofs.Ytccphnkdnifpfaa
set_option linter.unnecessarySimpa false
open Go.RowKit
set_option linter.unusedVariables false
set_option linter.unusedSimpArgs false
set_option maxRecDepth 100000

set_option maxHeartbeats 800000 in
theorem index_calls (w : World) (A : Option Addr) (n c : Nat) (xs : List Nat) (h : Sl u64v w (.slice A n c) xs) (hn : n ≤ 9223372036854775807) :
    Calls Try.prog 103 #[.slice A n c, .int .u64 0] w fun e w' => (∃ k : Int, e = .returned (.int .i64 k) ∧ (0 ≤ k ↔ 0 ∈ xs)) ∧ w' = w := by
  have HL := Lib.hid h.len
  have H := Lib.hid h
  clear h
  go_enter Try.func103, Try.ntmps103
  go_wp2
  go_loopw [8] (fun i wr => ∃ k : Nat, k ≤ n ∧ i = .int .i64 (k : Int) ∧ Hid (0 ∉ xs.take k) ∧ wr = w) (fun i _ => n - (intOf i).toNat)
  case atStart => exact ⟨0, Nat.zero_le _, rfl, by simp [Hid], rfl⟩
  case round =>
    obtain ⟨k, hk, rfl, HN, rfl⟩ := hrel
    by_cases hlt : k < n
    · obtain ⟨b, o, rfl, hcell⟩ := H.out.addr (by rw [HL.out]; omega)
      have hc := hcell k (by rw [HL.out]; exact hlt)
      have HT : Hid (xs.take (k + 1) = xs.take k ++ [xs[k]'(by rw [HL.out]; exact hlt)]) := by rw [Hid, List.take_succ_eq_append_getElem]
      have HM : Hid (xs[k]'(by rw [HL.out]; exact hlt) ∈ xs) := by rw [Hid]; exact List.getElem_mem _
      generalize xs[k]'(by rw [HL.out]; exact hlt) = x at *
      unfold u64v at hc
      clear hcell
      by_cases hx : x = 0
      · subst hx
        go_wp2
        go_ret
        exact ⟨⟨_, rfl, ⟨fun _ => HM.out, fun _ => by omega⟩⟩, rfl⟩
      · have hb : (0 : Int) ≠ (x : Int) := by omega
        have hb2 : ((0 : Int) == (x : Int)) = false := by rw [beq_eq_false_iff_ne]; exact hb
        have HX := Lib.hid hx
        clear hx
        go_wp2
        go_roundw
        case rel => exact ⟨k + 1, by omega, by simp, by rw [Hid, HT.out]; simp only [List.mem_append, List.mem_singleton]; rintro (h | h); exact HN.out h; exact HX.out h.symm, trivial⟩
        case measure => simp [intOf]; omega
    · have hkn : k = n := by omega
      subst hkn
      go_wp2
      go_ret
      refine ⟨⟨_, rfl, ⟨fun h => by omega, fun h => absurd h ?_⟩⟩, rfl⟩
      have := HN.out
      rwa [List.take_of_length_le (by rw [HL.out]; exact Nat.le_refl _)] at this
theorem contains_calls (w : World) (A : Option Addr) (n c : Nat) (xs : List Nat) (h : Sl u64v w (.slice A n c) xs) (hn : n ≤ 9223372036854775807) :
    Calls Try.prog 99 #[.slice A n c, .int .u64 0] w fun e w' => e = .returned (.bool (decide (0 ∈ xs))) ∧ w' = w := by
  go_enter Try.func99, Try.ntmps99
  go_wp2_with fail
  refine (index_calls w A n c xs h hn).mono ?_
  rintro e w1 ⟨⟨k, rfl, hk⟩, rfl⟩
  by_cases h0 : 0 ≤ k
  · have hb : decide (0 ∈ xs) = true := decide_eq_true (hk.1 h0)
    clear h hk
    go_wp2
    go_ret
    exact ⟨by rw [hb]; simp [h0], rfl⟩
  · have hb : decide (0 ∈ xs) = false := decide_eq_false (fun h => h0 (hk.2 h))
    clear h hk
    go_wp2
    go_ret
    exact ⟨by rw [hb]; simp [h0], rfl⟩

def commitF (t : Nat) (ps : List Nat) (a x : List UInt8) : Nat :=
  if t = 0 then 2 else if 8 < ps.length then 3 else if 0 ∈ ps then 2 else if 64 < a.length then 3 else if rightF a = false then 162 else if 1024 < x.length then 3 else if rightF x = false then 162 else 0

set_option maxHeartbeats 1600000 in
theorem commit_calls (w : World) (t : Nat) (A : Option Addr) (n c : Nat) (ps : List Nat) (a : ByteArray) (d : Int) (x : ByteArray) (h : Sl u64v w (.slice A n c) ps) (hn : n ≤ 9223372036854775807) (ha : a.size ≤ 9223372036854775807) (hx : x.size ≤ 9223372036854775807) :
    Calls Try.prog 95 #[.agg #[.int .u64 (t : Int), .slice A n c, .string a, .int .i64 d, .string x]] w fun e w' => e = .returned (.int .i64 (commitF t ps a.data.toList x.data.toList : Nat)) ∧ Chg No w w' := by
  have HL := Lib.hid h.len
  have H := Lib.hid h
  have HA := Lib.hid (size_list a)
  have HX := Lib.hid (size_list x)
  have HC : Hid (∀ w1, Chg No w w1 → Calls Try.prog 99 #[.slice A n c, .int .u64 0] w1 fun e w' => e = .returned (.bool (decide (0 ∈ ps))) ∧ w' = w1) := fun w1 hc => contains_calls w1 A n c ps (H.out.no hc) hn
  have hF : commitF t ps a.data.toList x.data.toList = if t = 0 then 2 else if 8 < n then 3 else if 0 ∈ ps then 2 else if 64 < a.size then 3 else if rightF a.data.toList = false then 162 else if 1024 < x.size then 3 else if rightF x.data.toList = false then 162 else 0 := by
    unfold commitF
    rw [HL.out, HA.out, HX.out]
  have HF := Lib.hid hF
  have HRA : Hid (∀ w1, Calls Try.prog 100 #[.string a] w1 fun e w' => e = .returned (.bool (rightF a.data.toList)) ∧ Chg No w1 w') := fun w1 => right_calls w1 a ha
  have HRX : Hid (∀ w1, Calls Try.prog 100 #[.string x] w1 fun e w' => e = .returned (.bool (rightF x.data.toList)) ∧ Chg No w1 w') := fun w1 => right_calls w1 x hx
  clear h hF
  generalize hra : rightF a.data.toList = ra at *
  generalize hrx : rightF x.data.toList = rx at *
  generalize commitF t ps a.data.toList x.data.toList = F at *
  generalize hz : decide (0 ∈ ps) = z at *
  have HZ := Lib.hid hz
  clear hra hrx hz
  by_cases h1 : t = 0
  · subst h1
    go_enter Try.func95, Try.ntmps95
    go_wp2
    go_ret
    exact ⟨by rw [HF.out]; rfl, (Chg.refl No w).alloc _⟩
  · have b1 : ((t : Int) == 0) = false := by simp; omega
    by_cases h2 : 8 < n
    · have b2 : (8 : Int) < (n : Int) := by omega
      have HF2 : Hid (F = 3) := by rw [Hid, HF.out, if_neg h1, if_pos h2]
      clear h1
      go_enter Try.func95, Try.ntmps95
      go_wp2
      go_ret
      exact ⟨by rw [HF2.out]; rfl, (Chg.refl No w).alloc _⟩
    · have b2 : ¬ (8 : Int) < (n : Int) := by omega
      have HF2 := Lib.hid (show F = _ by rw [HF.out, if_neg h1, if_neg h2])
      clear h1 h2 HF
      go_enter Try.func95, Try.ntmps95
      go_wp2_with fail
      refine (HC.out _ ((Chg.refl No w).alloc _)).mono ?_
      rintro e w1 ⟨rfl, rfl⟩
      cases z with
      | true =>
        have HF3 : Hid (F = 2) := by rw [Hid, HF2.out, if_pos (of_decide_eq_true HZ.out)]
        go_wp2
        go_ret
        exact ⟨by rw [HF3.out]; rfl, (Chg.refl No w).alloc _⟩
      | false =>
        have HF3 := Lib.hid (show F = _ by rw [HF2.out, if_neg (of_decide_eq_false HZ.out)])
        clear HF2
        by_cases h3 : 64 < a.size
        · have b3 : (64 : Int) < (a.size : Int) := by omega
          have HF4 : Hid (F = 3) := by rw [Hid, HF3.out, if_pos h3]
          go_wp2
          go_ret
          exact ⟨by rw [HF4.out]; rfl, (Chg.refl No w).alloc _⟩
        · have b3 : ¬ (64 : Int) < (a.size : Int) := by omega
          have HF4 := Lib.hid (show F = _ by rw [HF3.out, if_neg h3])
          clear h3 HF3
          go_wp2_with fail
          refine (HRA.out _).mono ?_
          rintro e w1 ⟨rfl, hc1⟩
          have HC1 : Hid (Chg No w w1) := ((Chg.refl No w).alloc _).no hc1
          have e1 := fun i u hu => hc1.cell (p := ⟨w.heap.size, i, none⟩) (u := u) hu (fun x => x)
          have f4 := e1 4 (.string x) (by rw [World.cell?, heap_alloc_new]; rfl)
          clear e1 hc1
          cases ra with
          | false =>
            have HF5 : Hid (F = 162) := by rw [Hid, HF4.out]; rfl
            go_wp2
            go_ret
            exact ⟨by rw [HF5.out]; rfl, HC1.out⟩
          | true =>
            have HF5 := Lib.hid (show F = _ by rw [HF4.out, if_neg (by simp)])
            clear HF4
            by_cases h5 : 1024 < x.size
            · have b5 : (1024 : Int) < (x.size : Int) := by omega
              have HF6 : Hid (F = 3) := by rw [Hid, HF5.out, if_pos h5]
              go_wp2
              go_ret
              exact ⟨by rw [HF6.out]; rfl, HC1.out⟩
            · have b5 : ¬ (1024 : Int) < (x.size : Int) := by omega
              have HF6 := Lib.hid (show F = _ by rw [HF5.out, if_neg h5])
              clear h5 HF5
              go_wp2_with fail
              refine (HRX.out _).mono ?_
              rintro e w2 ⟨rfl, hc2⟩
              have HC2 : Hid (Chg No w w2) := HC1.out.no hc2
              clear hc2
              cases rx with
              | false =>
                go_wp2
                go_ret
                exact ⟨by rw [HF6.out]; rfl, HC2.out⟩
              | true =>
                go_wp2
                go_ret
                exact ⟨by rw [HF6.out]; rfl, HC2.out⟩
set_option maxHeartbeats 800000 in
theorem check_commit (w : World) (t : Nat) (A : Option Addr) (n c : Nat) (ps : List Nat) (a : ByteArray) (d : Int) (x : ByteArray) (h : Sl u64v w (.slice A n c) ps) (hn : n ≤ 9223372036854775807) (ha : a.size ≤ 9223372036854775807) (hx : x.size ≤ 9223372036854775807) :
    Calls Try.prog 70 #[commitV (t : Int) (.slice A n c) a d x] w fun e w' => e = .returned (.int .i64 (commitF t ps a.data.toList x.data.toList : Nat)) ∧ Chg No w w' := by
  have fb := fun w => ta_commit_blob w
  have ft := fun w => ta_commit_tree w
  have fc := fun w => ta_commit_commit w
  have HC : Hid (∀ w1, Chg No w w1 → Calls Try.prog 95 #[.agg #[.int .u64 (t : Int), .slice A n c, .string a, .int .i64 d, .string x]] w1 fun e w' => e = .returned (.int .i64 (commitF t ps a.data.toList x.data.toList : Nat)) ∧ Chg No w1 w') := fun w1 hc => commit_calls w1 t A n c ps a d x (h.no hc) hn ha hx
  clear h
  go_enter Try.func70, Try.ntmps70
  go_wp2_with fail
  refine (HC.out _ ((Chg.refl No w).alloc _)).mono ?_
  rintro e w1 ⟨rfl, hc⟩
  go_wp2
  go_ret
  exact ⟨rfl, ((Chg.refl No w).alloc _).no hc⟩
end Go.Proofs.Ytccphnkdnifpfaa

namespace Go.Proofs.Ytccphnkdnifpfaa
set_option linter.unnecessarySimpa false
open Go.RowKit
set_option linter.unusedVariables false
set_option linter.unusedSimpArgs false

/-- Block g holds v, of type t. -/
def Box (t : TypeId) (w : World) (g : Nat) (v : Value) : Prop := w.heap[g]? = some (.cells #[v] t (0, 0))
section
variable {t : TypeId} {w w' : World} {g : Nat} {v : Value}
theorem Box.lt (h : Box t w g v) : g < w.heap.size := (Array.getElem?_eq_some_iff.1 h).1
theorem Box.c (h : Box t w g v) : w.cell? ⟨g, 0, none⟩ = some v := by simp [World.cell?, show w.heap[g]? = _ from h]
theorem Box.fr (h : Box t w g v) : w.frozen? ⟨g, 0, none⟩ = false := by simp [World.frozen?, show w.heap[g]? = _ from h]
theorem Box.set (h : Box t w g v) (u : Value) : Box t (w.setCell ⟨g, 0, none⟩ u) g u := by
  unfold Box World.setCell
  simp [Array.getElem?_modify, show w.heap[g]? = _ from h]
theorem Box.chg {S : Nat → Prop} (h : Box t w g v) (hc : Chg S w w') (hs : ¬ S g) : Box t w' g v := hc.heap h hs
theorem Box.no (h : Box t w g v) (hc : Chg No w w') : Box t w' g v := h.chg hc (fun x => x)
theorem Box.put (h : Box t w g v) {k : Nat} (hk : g ≠ k) (o : Nat) (u : Value) : Box t (w.setCell ⟨k, o, none⟩ u) g v := h.chg (Chg.put w k o u) hk
theorem Box.new (w : World) (v : Value) (t : TypeId) : Box t (w.alloc (.cells #[v] t)) w.heap.size v := heap_alloc_new w _
/-- A row of bytes does not lie in a box of another type. -/
theorem OwnB.apart {base : Nat} {xs : List UInt8} {u : Value} (ho : OwnB w base v xs) (h : Box t w g u) (ht : t ≠ 5) : ∀ b, v.ownBlock = some b → ¬ One g b := by
  intro b hb hx
  have hx : b = g := hx
  subst hx
  obtain ⟨c, fz, hc⟩ := ho.cells b hb
  have := hc.symm.trans h
  simp only [Option.some.injEq, Obj.cells.injEq] at this
  exact ht this.2.1.symm
end
end Go.Proofs.Ytccphnkdnifpfaa

namespace Go.Proofs.Ytccphnkdnifpfaa
set_option linter.unnecessarySimpa false
open Go.RowKit
set_option linter.unusedVariables false
set_option linter.unusedSimpArgs false
set_option maxRecDepth 100000

theorem wides_len (xs : List Nat) : (xs.flatMap wide).length = 8 * xs.length := by
  induction xs with
  | nil => rfl
  | cons a t ih => rw [List.flatMap_cons, List.length_append, wide_len, ih, List.length_cons]; omega

set_option maxHeartbeats 1600000 in
theorem word_cl (w : World) (g base : Nat) (v : Value) (bs : List UInt8) (A : Option Addr) (n c : Nat) (xs : List Nat) (hb : base ≤ w.heap.size) (hg : Box 30 w g v) (ho : OwnB w base v bs)
    (hs : ∀ W, Chg (One g) w W → Sl u64v W (.slice A n c) xs) (hx : ∀ x ∈ xs, x < 18446744073709551616) (hn : n ≤ 1000) (hm : bs.length ≤ 1000000) :
    Calls Try.prog 71 #[.slice A n c, .pointer (some ⟨g, 0, none⟩)] w fun e w' => e = .returned (.tuple #[]) ∧ ∃ v', Box 30 w' g v' ∧ OwnB w' base v' (bs ++ xs.flatMap wide) ∧ Chg (One g) w w' := by
  have HL := Lib.hid (hs w (Chg.refl _ _)).len
  have H := Lib.hid hs
  have HO := Lib.hid ho
  have HG := Lib.hid hg
  have HX := Lib.hid hx
  clear hs hg ho hx
  go_enter Try.func71, Try.ntmps71
  go_wp2
  go_loopw [7] (fun i wr => ∃ k : Nat, k ≤ n ∧ i = .int .i64 (k : Int) ∧ Hid (∃ v', Box 30 wr g v' ∧ OwnB wr base v' (bs ++ (xs.take k).flatMap wide)) ∧ Hid (Chg (One g) w wr)) (fun i _ => n - (intOf i).toNat)
  case atStart => exact ⟨0, Nat.zero_le _, rfl, ⟨v, HG.out, by simpa using HO.out⟩, Chg.refl _ _⟩
  case round =>
    obtain ⟨k, hk, rfl, HB, HC⟩ := hrel
    by_cases hlt : k < n
    · have hH := H.out _ HC.out
      obtain ⟨b, o, rfl, hcell⟩ := hH.addr (by rw [HL.out]; omega)
      have hc := hcell k (by rw [HL.out]; exact hlt)
      have HT : Hid (xs.take (k + 1) = xs.take k ++ [xs[k]'(by rw [HL.out]; exact hlt)]) := by rw [Hid, List.take_succ_eq_append_getElem]
      have hxl := HX.out _ (List.getElem_mem (by rw [HL.out]; exact hlt) : xs[k]'(by rw [HL.out]; exact hlt) ∈ xs)
      generalize xs[k]'(by rw [HL.out]; exact hlt) = x at *
      unfold u64v at hc
      obtain ⟨v1, hb1, ho1⟩ := HB.out
      have hlen : (bs ++ (xs.take k).flatMap wide).length ≤ 1008000 := by
        rw [List.length_append, wides_len, List.length_take]; omega
      generalize hys : bs ++ (xs.take k).flatMap wide = ys at *
      have HYS := Lib.hid hys
      obtain ⟨A1, n1, c1, rfl, HL1, HO1⟩ := ho1.form
      have HB1 := Lib.hid hb1
      have hcc := hb1.c
      have hn1 : n1 ≤ 1008000 := by rw [← HL1.out]; exact hlen
      clear hcell hH hys ho1 hlen hb1
      go_wp2_with fail
      refine (putword_calls _ A1 n1 c1 ys HO1.out.bytes HL1.out x _ rfl hxl (by omega)).mono ?_
      rintro e w1 ⟨v2, rfl, ho2, hc2⟩
      obtain ⟨A2, n2, c2, rfl, -, -⟩ := ho2.form
      have hb2 : Box 30 w1 g (.slice A1 n1 c1) := HB1.out.no hc2
      have hcc2 := hb2.c
      have hfr2 := hb2.fr
      have ho3 : OwnB w1 base (.slice A2 n2 c2) (ys ++ wide x) := ho2.mono (Nat.le_trans hb HC.out.size)
      have HO3 : Hid (OwnB (w1.setCell ⟨g, 0, none⟩ (.slice A2 n2 c2)) base (.slice A2 n2 c2) (ys ++ wide x)) := ho3.chg (Chg.put w1 g 0 _) (ho3.apart hb2 (by decide))
      have HB3 : Hid (Box 30 (w1.setCell ⟨g, 0, none⟩ (.slice A2 n2 c2)) g (.slice A2 n2 c2)) := hb2.set _
      have HC3 : Hid (Chg (One g) w (w1.setCell ⟨g, 0, none⟩ (.slice A2 n2 c2))) := (HC.out.no hc2).one (Chg.put w1 g 0 _) (.inr rfl)
      have HT3 : Hid (bs ++ (xs.take (k + 1)).flatMap wide = ys ++ wide x) := by rw [Hid, HT.out, List.flatMap_append, ← HYS.out]; simp
      clear ho2 hc2 hb2 ho3 hcc HO1 HB1
      go_wp2
      go_roundw
      case rel => exact ⟨k + 1, by omega, by simp, ⟨_, HB3.out, by rw [HT3.out]; exact HO3.out⟩, HC3.out⟩
      case measure => simp [intOf]; omega
    · have hkn : k = n := by omega
      subst hkn
      obtain ⟨v1, hb1, ho1⟩ := HB.out
      have HB1 := Lib.hid hb1
      have HO1 := Lib.hid ho1
      clear hb1 ho1
      go_wp2
      go_end0
      refine ⟨rfl, v1, HB1.out, ?_, HC.out⟩
      have := HO1.out
      rwa [List.take_of_length_le (by rw [HL.out]; exact Nat.le_refl _)] at this
end Go.Proofs.Ytccphnkdnifpfaa

namespace Go.Proofs.Ytccphnkdnifpfaa
set_option linter.unnecessarySimpa false
open Go.RowKit
set_option linter.unusedVariables false
set_option linter.unusedSimpArgs false
set_option maxRecDepth 100000

theorem look_no (w : World) (gw ga gl : Nat) (e wr : Int) (ah la : Nat) (h1 : Box 3 w gw (.int .i64 wr)) (h2 : Box 21 w ga (.int .i32 (ah : Int))) (h3 : Box 3 w gl (.int .i64 (la : Int)))
    (he : 0 ≤ e ∧ e < 1000) (hl : la < 1000) (h : 0 ≤ wr ∨ ah ≠ 65533 ∨ 3 ≤ e - la) :
    Calls Try.prog 102 #[.int .i64 e, .pointer (some ⟨gw, 0, none⟩), .pointer (some ⟨ga, 0, none⟩), .pointer (some ⟨gl, 0, none⟩)] w fun r w' => r = .returned (.tuple #[]) ∧ w' = w := by
  have c1 := h1.c
  have c2 := h2.c
  have c3 := h3.c
  clear h1 h2 h3
  by_cases q1 : wr < 0
  · by_cases q2 : ah = 65533
    · have b2 : ((ah : Int) == 65533) = true := by rw [q2]; rfl
      have q3 : ¬ e - (la : Int) < 3 := by omega
      clear h q2
      go_enter Try.func102, Try.ntmps102
      go_wp2
      go_end0
      exact ⟨rfl, rfl⟩
    · have b2 : ((ah : Int) == 65533) = false := by simp; omega
      clear h q2
      go_enter Try.func102, Try.ntmps102
      go_wp2
      go_end0
      exact ⟨rfl, rfl⟩
  · clear h
    go_enter Try.func102, Try.ntmps102
    go_wp2
    go_end0
    exact ⟨rfl, rfl⟩
theorem look_yes (w : World) (gw ga gl : Nat) (e wr : Int) (ah la : Nat) (h1 : Box 3 w gw (.int .i64 wr)) (h2 : Box 21 w ga (.int .i32 (ah : Int))) (h3 : Box 3 w gl (.int .i64 (la : Int)))
    (he : 0 ≤ e ∧ e < 1000) (hl : la < 1000) (q1 : wr < 0) (q2 : ah = 65533) (q3 : e - la < 3) :
    Calls Try.prog 102 #[.int .i64 e, .pointer (some ⟨gw, 0, none⟩), .pointer (some ⟨ga, 0, none⟩), .pointer (some ⟨gl, 0, none⟩)] w fun r w' => r = .returned (.tuple #[]) ∧ w' = w.setCell ⟨gw, 0, none⟩ (.int .i64 (la : Int)) := by
  have c1 := h1.c
  have c2 := h2.c
  have c3 := h3.c
  have f1 := h1.fr
  have b2 : ((ah : Int) == 65533) = true := by rw [q2]; rfl
  clear h1 h2 h3 q2
  go_enter Try.func102, Try.ntmps102
  go_wp2
  go_end0
  exact ⟨rfl, rfl⟩
end Go.Proofs.Ytccphnkdnifpfaa

namespace Go.Proofs.Ytccphnkdnifpfaa
set_option linter.unnecessarySimpa false
open Go.RowKit
set_option linter.unusedVariables false
set_option linter.unusedSimpArgs false
set_option maxRecDepth 100000

def spotV (p : Int × Int) : Value := .agg #[.int .i64 p.1, .int .i64 p.2]
theorem bytes_ne {s : ByteArray} {l : List UInt8} (h : s.data.toList ≠ l) : (s.toList == l) = false := by
  rw [Lib.toList_data, beq_eq_false_iff_ne]; exact h

theorem Chg.iterOne (b : World) (k : Nat) (s : ByteArray) (pos : Nat) : Chg (One k) b (b.iterAt k s pos) :=
  ⟨rfl, rfl, rfl, by rw [Lib.iterAt_size]; exact Nat.le_refl _, fun i hi hs => Lib.iterAt_other b k i s pos hs⟩

theorem cellAt {W : World} {g : Nat} {cs : Array Value} {t : TypeId} {fz : Nat × Nat} (h : W.heap[g]? = some (.cells cs t fz)) (i : Nat) (u : Value) (hi : cs[i]? = some u) : W.cell? ⟨g, i, none⟩ = some u := by
  simp [World.cell?, h, hi]
theorem frzAt {W : World} {g : Nat} {cs : Array Value} {t : TypeId} (h : W.heap[g]? = some (.cells cs t (0, 0))) (i : Nat) : W.frozen? ⟨g, i, none⟩ = false := by
  simp [World.frozen?, h]
/-- The boxes of name.Check: its answer, last, wrong, ahead, and the place in the text. -/
structure NI (w wr : World) (s : ByteArray) (pos ah la : Nat) (wv : Int) : Prop where
  b2 : wr.heap[w.heap.size]? = some (.cells #[.int .i64 0, .int .i64 0] 155 (0, 0))
  b3 : Box 3 wr (w.heap.size + 1) (.int .i64 (la : Int))
  b4 : Box 3 wr (w.heap.size + 1 + 1) (.int .i64 wv)
  b5 : Box 21 wr (w.heap.size + 1 + 1 + 1) (.int .i32 (ah : Int))
  it : wr.heap[w.heap.size + 1 + 1 + 1 + 1]? = some (.stringIter s pos)
  c : Chg No w wr
theorem NI.start (w : World) (s : ByteArray) : NI w (((((w.alloc (.cells #[.int .i64 0, .int .i64 0] 155)).alloc (.cells #[.int .i64 0] 3)).alloc (.cells #[.int .i64 (-1)] 3)).alloc (.cells #[.int .i32 32] 21)).iter s 0) s 0 32 0 (-1) := by
  have A : ∀ (W : World) (o o' : Obj) (k : Nat), W.heap[k]? = some o → (W.alloc o').heap[k]? = some o := fun W o o' k h => ((Chg.refl No W).alloc o').heap h (fun x => x)
  have i2 := heap_alloc_new w (.cells #[.int .i64 0, .int .i64 0] 155)
  have i3 := heap_alloc_new (w.alloc (.cells #[.int .i64 0, .int .i64 0] 155)) (.cells #[.int .i64 0] 3)
  have i4 := heap_alloc_new ((w.alloc (.cells #[.int .i64 0, .int .i64 0] 155)).alloc (.cells #[.int .i64 0] 3)) (.cells #[.int .i64 (-1)] 3)
  have i5 := heap_alloc_new (((w.alloc (.cells #[.int .i64 0, .int .i64 0] 155)).alloc (.cells #[.int .i64 0] 3)).alloc (.cells #[.int .i64 (-1)] 3)) (.cells #[.int .i32 32] 21)
  have i6 := World.iter_heap ((((w.alloc (.cells #[.int .i64 0, .int .i64 0] 155)).alloc (.cells #[.int .i64 0] 3)).alloc (.cells #[.int .i64 (-1)] 3)).alloc (.cells #[.int .i32 32] 21)) s 0
  simp only [World.size_alloc] at i2 i3 i4 i5 i6
  exact ⟨A _ _ _ _ (A _ _ _ _ (A _ _ _ _ (A _ _ _ _ i2))), A _ _ _ _ (A _ _ _ _ (A _ _ _ _ i3)), A _ _ _ _ (A _ _ _ _ i4), A _ _ _ _ i5, i6, (((((Chg.refl No w).alloc _).alloc _).alloc _).alloc _).alloc _⟩
theorem NI.next {w wr : World} {s : ByteArray} {pos ah la : Nat} {wv : Int} (h : NI w wr s pos ah la wv) (q : Nat) : NI w (wr.iterAt (w.heap.size + 1 + 1 + 1 + 1) s q) s q ah la wv := by
  have hc := Chg.iterOne wr (w.heap.size + 1 + 1 + 1 + 1) s q
  exact ⟨hc.heap h.b2 (by show ¬ _ = _; omega), h.b3.chg hc (by show ¬ _ = _; omega), h.b4.chg hc (by show ¬ _ = _; omega), h.b5.chg hc (by show ¬ _ = _; omega), Lib.iterAt_heap wr _ s pos q h.it, h.c.one hc (.inl (by omega))⟩
theorem NI.wrong {w wr : World} {s : ByteArray} {pos ah la : Nat} {wv : Int} (h : NI w wr s pos ah la wv) (k : Int) : NI w (wr.setCell ⟨w.heap.size + 1 + 1, 0, none⟩ (.int .i64 k)) s pos ah la k := by
  have hc := Chg.put wr (w.heap.size + 1 + 1) 0 (.int .i64 k)
  exact ⟨hc.heap h.b2 (by show ¬ _ = _; omega), h.b3.chg hc (by show ¬ _ = _; omega), h.b4.set _, h.b5.chg hc (by show ¬ _ = _; omega), hc.heap h.it (by show ¬ _ = _; omega), h.c.one hc (.inl (by omega))⟩
theorem NI.last {w wr : World} {s : ByteArray} {pos ah la : Nat} {wv : Int} (h : NI w wr s pos ah la wv) (k : Nat) : NI w (wr.setCell ⟨w.heap.size + 1, 0, none⟩ (.int .i64 (k : Int))) s pos ah k wv := by
  have hc := Chg.put wr (w.heap.size + 1) 0 (.int .i64 (k : Int))
  exact ⟨hc.heap h.b2 (by show ¬ _ = _; omega), h.b3.set _, h.b4.chg hc (by show ¬ _ = _; omega), h.b5.chg hc (by show ¬ _ = _; omega), hc.heap h.it (by show ¬ _ = _; omega), h.c.one hc (.inl (by omega))⟩
theorem NI.ahead {w wr : World} {s : ByteArray} {pos ah la : Nat} {wv : Int} (h : NI w wr s pos ah la wv) (k : Nat) : NI w (wr.setCell ⟨w.heap.size + 1 + 1 + 1, 0, none⟩ (.int .i32 (k : Int))) s pos k la wv := by
  have hc := Chg.put wr (w.heap.size + 1 + 1 + 1) 0 (.int .i32 (k : Int))
  exact ⟨hc.heap h.b2 (by show ¬ _ = _; omega), h.b3.chg hc (by show ¬ _ = _; omega), h.b4.chg hc (by show ¬ _ = _; omega), h.b5.set _, hc.heap h.it (by show ¬ _ = _; omega), h.c.one hc (.inl (by omega))⟩
/-- The last: the answer is stored. -/
theorem NI.done {w wr : World} {s : ByteArray} {pos ah la : Nat} {wv : Int} (h : NI w wr s pos ah la wv) (a b : Value) : Chg No w ((wr.setCell ⟨w.heap.size, 0, none⟩ a).setCell ⟨w.heap.size, 1, none⟩ b) :=
  (h.c.one (Chg.put wr _ 0 a) (.inl (Nat.le_refl _))).one (Chg.put _ _ 1 b) (.inl (Nat.le_refl _))
theorem NI.hip {w wr : World} {s : ByteArray} {pos ah la : Nat} {wv : Int} (h : NI w wr s pos ah la wv) : wr.iterPos (w.heap.size + 1 + 1 + 1 + 1) = pos := by
  unfold World.iterPos; rw [h.it]

set_option maxHeartbeats 3200000 in
theorem check_calls (w : World) (s : ByteArray) (hs : s.size ≤ 9223372036854775807) :
    Calls Try.prog 98 #[.string s] w fun e w' => e = .returned (spotV (spotF s.data.toList)) ∧ Chg No w w' := by
  have hmf : ∀ (fn : Fn) (first cap : Array Value) (w : World), (Instr.makeFunc fn first cap).run Try.prog w = .ok (.func fn first cap) w := fun _ _ _ _ => rfl
  have HS := Lib.hid (size_list s)
  by_cases h0 : s.data.toList = [] ∨ s.data.toList = [46] ∨ s.data.toList = [46, 46]
  · have HF : Hid (spotF s.data.toList = (140, 0)) := by rw [Hid, spotF, if_pos h0]
    have HE : s = ⟨#[]⟩ ∨ s = ⟨#[46]⟩ ∨ s = ⟨#[46, 46]⟩ := by
      rw [← mkS_self s]
      rcases h0 with h | h | h <;> rw [h] <;> simp [mkS]
    clear h0
    rcases HE with rfl | rfl | rfl
    · go_enter Try.func98, Try.ntmps98
      go_wp2
      exact bodyPost_ret (v := spotV (140, 0)) (by simp [results, Try.results98, go_sem, spotV]) rfl ⟨by rw [HF.out], (Chg.refl No w).alloc _⟩
    · go_enter Try.func98, Try.ntmps98
      go_wp2
      exact bodyPost_ret (v := spotV (140, 0)) (by simp [results, Try.results98, go_sem, spotV]) rfl ⟨by rw [HF.out], (Chg.refl No w).alloc _⟩
    · go_enter Try.func98, Try.ntmps98
      go_wp2
      exact bodyPost_ret (v := spotV (140, 0)) (by simp [results, Try.results98, go_sem, spotV]) rfl ⟨by rw [HF.out], (Chg.refl No w).alloc _⟩
  · have n1 := bytes_ne (fun h => h0 (.inl h))
    have n2 := bytes_ne (fun h => h0 (.inr (.inl h)))
    have n3 := bytes_ne (fun h => h0 (.inr (.inr h)))
    by_cases h32 : 32 < s.size
    · have HF : Hid (spotF s.data.toList = (3, 32)) := by rw [Hid, spotF, if_neg h0, if_pos (by rw [HS.out]; exact h32)]
      have b32 : (32 : Int) < (s.size : Int) := by omega
      clear h0
      go_enter Try.func98, Try.ntmps98
      go_wp2
      exact bodyPost_ret (v := spotV (3, 32)) (by simp [results, Try.results98, go_sem, spotV]) rfl ⟨by rw [HF.out], (Chg.refl No w).alloc _⟩
    · have HF := Lib.hid (show spotF s.data.toList = _ by rw [spotF, if_neg h0, if_neg (by rw [HS.out]; exact h32)])
      have b32 : ¬ (32 : Int) < (s.size : Int) := by omega
      clear h0
      go_enter Try.func98, Try.ntmps98
      go_wp2
      go_loopw [] (fun wr => ∃ (pos ah la : Nat) (wv : Int), pos ≤ s.size ∧ la ≤ pos ∧ Hid (NI w wr s pos ah la wv) ∧ Hid (wv = if ctlN ah = true then (la : Int) else -1) ∧ Hid (pos = 0 → ah = 32) ∧ Hid (wrongAt 0 (pcs s.data.toList) = if (ctlN ah || (ah == 65533 && decide (pos - la < 3))) = true then some la else wrongAt pos (pcs (s.data.toList.drop pos)))) (fun wr => s.size - wr.iterPos (w.heap.size + 1 + 1 + 1 + 1))
      case atStart => exact ⟨0, 32, 0, -1, Nat.zero_le _, Nat.le_refl _, NI.start w s, rfl, fun _ => rfl, rfl⟩
      case round =>
        obtain ⟨pos, ah, la, wv, hpos, hla, HN, HV, H0, HU⟩ := hrel
        by_cases hp : pos < s.size
        · have hl := drop_ne hp
          obtain ⟨q1, q2, q3⟩ := decL_facts _ hl
          have HPC := Lib.hid (wrong_cons pos _ hl)
          have hnx := fun ty => Lib.run_next_any_at (P := Try.prog) wr (w.heap.size + 1 + 1 + 1 + 1) s pos ty HN.out.it hp
          rw [decode_drop] at hnx
          have hbs := brk_short _ hl
          rw [List.length_drop, HS.out] at q2
          rw [List.drop_drop] at HPC
          generalize decL (s.data.toList.drop pos) = D at *
          obtain ⟨r, k⟩ := D
          simp only at q1 q2 q3 hnx HPC hbs
          have HB := Lib.hid hbs
          have hip := HN.out.hip
          have HN1 := Lib.hid (HN.out.next (pos + k))
          clear hbs hl HN
          generalize brk (s.data.toList.drop pos) = bk at *
          generalize wr.iterAt (w.heap.size + 1 + 1 + 1 + 1) s (pos + k) = wn at *
          by_cases hA : ctlN ah = true
          · have hpp : 0 < pos := by rcases Nat.eq_zero_or_pos pos with h | h; (rw [H0.out h] at hA; cases hA); exact h
            have hv : wv = (la : Int) := by rw [HV.out, if_pos hA]
            have HW : Hid (wrongAt 0 (pcs s.data.toList) = some la) := by rw [Hid, HU.out, hA]; rfl
            subst hv
            clear hA HV HU HPC HB H0
            have c2a := cellAt HN1.out.b2 0 _ rfl
            have c2b := cellAt HN1.out.b2 1 _ rfl
            have f2 := frzAt HN1.out.b2
            have c3 := HN1.out.b3.c
            have f3 := HN1.out.b3.fr
            have c4 := HN1.out.b4.c
            have f4 := HN1.out.b4.fr
            have c5 := HN1.out.b5.c
            have f5 := HN1.out.b5.fr
            have i0 : (0 : Int) < (pos : Int) := by omega
            go_wp2_with fail
            clear c2a c2b f2 c3 c4 c5 f3 f4 f5
            refine (look_no _ _ _ _ (pos : Int) (la : Int) ah la HN1.out.b4 HN1.out.b5 HN1.out.b3 (by omega) (by omega) (.inl (by omega))).mono ?_
            rintro e w' ⟨rfl, rfl⟩
            have c2a := cellAt HN1.out.b2 0 _ rfl
            have c2b := cellAt HN1.out.b2 1 _ rfl
            have f2 := frzAt HN1.out.b2
            have c3 := HN1.out.b3.c
            have f3 := HN1.out.b3.fr
            have c4 := HN1.out.b4.c
            have f4 := HN1.out.b4.fr
            have c5 := HN1.out.b5.c
            have f5 := HN1.out.b5.fr
            go_wp2_with fail
            clear c2a c2b f2 c3 c4 c5 f3 f4 f5
            refine (look_no _ _ _ _ (s.size : Int) la _ _ HN1.out.b4 HN1.out.b5 HN1.out.b3 (by omega) (by omega) (.inl (by omega))).mono ?_
            rintro e w' ⟨rfl, rfl⟩
            have c2a := cellAt HN1.out.b2 0 _ rfl
            have c2b := cellAt HN1.out.b2 1 _ rfl
            have f2 := frzAt HN1.out.b2
            have c3 := HN1.out.b3.c
            have f3 := HN1.out.b3.fr
            have c4 := HN1.out.b4.c
            have f4 := HN1.out.b4.fr
            have c5 := HN1.out.b5.c
            have f5 := HN1.out.b5.fr
            go_wp2
            exact bodyPost_ret (v := spotV (140, (la : Int))) (by simp [results, Try.results98, go_sem, spotV, *]) rfl ⟨by rw [HF.out, HW.out], HN1.out.done _ _⟩
          · have hv : wv = -1 := by rw [HV.out, if_neg hA]
            have hA' : ctlN ah = false := by simpa using hA
            subst hv
            by_cases hB : ah = 65533 ∧ pos - la < 3
            · have hpp : 0 < pos := by rcases Nat.eq_zero_or_pos pos with h | h; (have := H0.out h; omega); exact h
              have HW : Hid (wrongAt 0 (pcs s.data.toList) = some la) := by rw [Hid, HU.out, hB.1]; simp [hB.2]
              have hq := hB.1
              have hq2 := hB.2
              clear hA hA' HV HU HPC HB H0 hB
              have c2a := cellAt HN1.out.b2 0 _ rfl
              have c2b := cellAt HN1.out.b2 1 _ rfl
              have f2 := frzAt HN1.out.b2
              have c3 := HN1.out.b3.c
              have f3 := HN1.out.b3.fr
              have c4 := HN1.out.b4.c
              have f4 := HN1.out.b4.fr
              have c5 := HN1.out.b5.c
              have f5 := HN1.out.b5.fr
              have i0 : (0 : Int) < (pos : Int) := by omega
              go_wp2_with fail
              clear c2a c2b f2 c3 c4 c5 f3 f4 f5
              refine (look_yes wn _ _ _ (pos : Int) (-1) ah la HN1.out.b4 HN1.out.b5 HN1.out.b3 (by omega) (by omega) (by omega) hq (by omega)).mono ?_
              rintro e w' ⟨rfl, rfl⟩
              have HN2 := Lib.hid (HN1.out.wrong (la : Int))
              generalize wn.setCell ⟨w.heap.size + 1 + 1, 0, none⟩ (.int .i64 (la : Int)) = wm at *
              have c2a := cellAt HN2.out.b2 0 _ rfl
              have c2b := cellAt HN2.out.b2 1 _ rfl
              have f2 := frzAt HN2.out.b2
              have c3 := HN2.out.b3.c
              have f3 := HN2.out.b3.fr
              have c4 := HN2.out.b4.c
              have f4 := HN2.out.b4.fr
              have c5 := HN2.out.b5.c
              have f5 := HN2.out.b5.fr
              go_wp2_with fail
              clear c2a c2b f2 c3 c4 c5 f3 f4 f5
              refine (look_no _ _ _ _ (s.size : Int) la _ _ HN2.out.b4 HN2.out.b5 HN2.out.b3 (by omega) (by omega) (.inl (by omega))).mono ?_
              rintro e w' ⟨rfl, rfl⟩
              have c2a := cellAt HN2.out.b2 0 _ rfl
              have c2b := cellAt HN2.out.b2 1 _ rfl
              have f2 := frzAt HN2.out.b2
              have c3 := HN2.out.b3.c
              have f3 := HN2.out.b3.fr
              have c4 := HN2.out.b4.c
              have f4 := HN2.out.b4.fr
              have c5 := HN2.out.b5.c
              have f5 := HN2.out.b5.fr
              go_wp2
              exact bodyPost_ret (v := spotV (140, (la : Int))) (by simp [results, Try.results98, go_sem, spotV, *]) rfl ⟨by rw [HF.out, HW.out], HN2.out.done _ _⟩
            · have HG : Hid ((ctlN ah || (ah == 65533 && decide (pos - la < 3))) = false) := by
                rw [Hid, hA', Bool.false_or]
                simp only [Bool.and_eq_false_iff, beq_eq_false_iff_ne, decide_eq_false_iff_not]
                by_cases h1 : ah = 65533
                · exact .inr fun h2 => hB ⟨h1, h2⟩
                · exact .inl h1
              have hno : 0 ≤ (-1 : Int) ∨ ah ≠ 65533 ∨ 3 ≤ (pos : Int) - la := by
                by_cases h1 : ah = 65533
                · have := fun h => hB ⟨h1, h⟩; omega
                · exact .inr (.inl h1)
              have HNW : Hid (wrongAt 0 (pcs s.data.toList) = if (ctlN r || (r == 65533 && decide (pos + k - pos < 3))) = true then some pos else wrongAt (pos + k) (pcs (s.data.toList.drop (pos + k)))) := by
                rw [Hid, HU.out, HG.out, if_neg (by simp), HPC.out, badN, HB.out, Nat.add_sub_cancel_left]
              clear hA hA' hB HV HU HPC HB HG
              by_cases hp0 : pos = 0
              · have i0 : ¬ (0 : Int) < (pos : Int) := by omega
                clear hp0
                by_cases hr1 : r < 32
                · skip
                  have j1 : (r : Int) < 32 := by omega
                  have HC : Hid (ctlN r = true) := by simp [Hid, ctlN, hr1]
                  clear hr1
                  have c2a := cellAt HN1.out.b2 0 _ rfl
                  have c2b := cellAt HN1.out.b2 1 _ rfl
                  have f2 := frzAt HN1.out.b2
                  have c3 := HN1.out.b3.c
                  have f3 := HN1.out.b3.fr
                  have c4 := HN1.out.b4.c
                  have f4 := HN1.out.b4.fr
                  have c5 := HN1.out.b5.c
                  have f5 := HN1.out.b5.fr
                  go_wp2
                  go_roundw
                  case rel => exact ⟨pos + k, r, pos, (pos : Int), by omega, by omega, (((HN1.out.last pos).ahead r).wrong (pos : Int)), by rw [Hid, HC.out]; rfl, fun h => by omega, HNW.out⟩
                  case measure => have h1 := (((HN1.out.last pos).ahead r).wrong (pos : Int)).hip; rw [hip, h1]; omega
      
                by_cases hr2 : r = 127
                · skip
                  have j1 : ¬ (r : Int) < 32 := by omega
                  have j2 : ((r : Int) == 127) = true := by rw [hr2]; rfl
                  have HC : Hid (ctlN r = true) := by rw [Hid, hr2]; rfl
                  clear hr1 hr2
                  have c2a := cellAt HN1.out.b2 0 _ rfl
                  have c2b := cellAt HN1.out.b2 1 _ rfl
                  have f2 := frzAt HN1.out.b2
                  have c3 := HN1.out.b3.c
                  have f3 := HN1.out.b3.fr
                  have c4 := HN1.out.b4.c
                  have f4 := HN1.out.b4.fr
                  have c5 := HN1.out.b5.c
                  have f5 := HN1.out.b5.fr
                  go_wp2
                  go_roundw
                  case rel => exact ⟨pos + k, r, pos, (pos : Int), by omega, by omega, (((HN1.out.last pos).ahead r).wrong (pos : Int)), by rw [Hid, HC.out]; rfl, fun h => by omega, HNW.out⟩
                  case measure => have h1 := (((HN1.out.last pos).ahead r).wrong (pos : Int)).hip; rw [hip, h1]; omega
      
                by_cases hr3 : r = 47
                · skip
                  have j1 : ¬ (r : Int) < 32 := by omega
                  have j2 : ((r : Int) == 127) = false := by simp; omega
                  have j3 : ((r : Int) == 47) = true := by rw [hr3]; rfl
                  have HC : Hid (ctlN r = true) := by rw [Hid, hr3]; rfl
                  clear hr1 hr2 hr3
                  have c2a := cellAt HN1.out.b2 0 _ rfl
                  have c2b := cellAt HN1.out.b2 1 _ rfl
                  have f2 := frzAt HN1.out.b2
                  have c3 := HN1.out.b3.c
                  have f3 := HN1.out.b3.fr
                  have c4 := HN1.out.b4.c
                  have f4 := HN1.out.b4.fr
                  have c5 := HN1.out.b5.c
                  have f5 := HN1.out.b5.fr
                  go_wp2
                  go_roundw
                  case rel => exact ⟨pos + k, r, pos, (pos : Int), by omega, by omega, (((HN1.out.last pos).ahead r).wrong (pos : Int)), by rw [Hid, HC.out]; rfl, fun h => by omega, HNW.out⟩
                  case measure => have h1 := (((HN1.out.last pos).ahead r).wrong (pos : Int)).hip; rw [hip, h1]; omega
      
                have j1 : ¬ (r : Int) < 32 := by omega
                have j2 : ((r : Int) == 127) = false := by simp; omega
                have j3 : ((r : Int) == 47) = false := by simp; omega
                have HC : Hid (ctlN r = false) := by simp [Hid, ctlN, hr1, hr2, hr3]
                clear hr1 hr2 hr3
                have c2a := cellAt HN1.out.b2 0 _ rfl
                have c2b := cellAt HN1.out.b2 1 _ rfl
                have f2 := frzAt HN1.out.b2
                have c3 := HN1.out.b3.c
                have f3 := HN1.out.b3.fr
                have c4 := HN1.out.b4.c
                have f4 := HN1.out.b4.fr
                have c5 := HN1.out.b5.c
                have f5 := HN1.out.b5.fr
                go_wp2
                go_roundw
                case rel => exact ⟨pos + k, r, pos, -1, by omega, by omega, ((HN1.out.last pos).ahead r), by rw [Hid, HC.out]; rfl, fun h => by omega, HNW.out⟩
                case measure => have h1 := ((HN1.out.last pos).ahead r).hip; rw [hip, h1]; omega
              · have i0 : (0 : Int) < (pos : Int) := by omega
                clear hp0
                by_cases hr1 : r < 32
                · skip
                  have j1 : (r : Int) < 32 := by omega
                  have HC : Hid (ctlN r = true) := by simp [Hid, ctlN, hr1]
                  clear hr1
                  have c2a := cellAt HN1.out.b2 0 _ rfl
                  have c2b := cellAt HN1.out.b2 1 _ rfl
                  have f2 := frzAt HN1.out.b2
                  have c3 := HN1.out.b3.c
                  have f3 := HN1.out.b3.fr
                  have c4 := HN1.out.b4.c
                  have f4 := HN1.out.b4.fr
                  have c5 := HN1.out.b5.c
                  have f5 := HN1.out.b5.fr
                  go_wp2_with fail
                  clear c2a c2b f2 c3 c4 c5 f3 f4 f5
                  refine (look_no wn _ _ _ (pos : Int) (-1) ah la HN1.out.b4 HN1.out.b5 HN1.out.b3 (by omega) (by omega) hno).mono ?_
                  rintro e w' ⟨rfl, rfl⟩
                  have c2a := cellAt HN1.out.b2 0 _ rfl
                  have c2b := cellAt HN1.out.b2 1 _ rfl
                  have f2 := frzAt HN1.out.b2
                  have c3 := HN1.out.b3.c
                  have f3 := HN1.out.b3.fr
                  have c4 := HN1.out.b4.c
                  have f4 := HN1.out.b4.fr
                  have c5 := HN1.out.b5.c
                  have f5 := HN1.out.b5.fr
                  go_wp2
                  go_roundw
                  case rel => exact ⟨pos + k, r, pos, (pos : Int), by omega, by omega, (((HN1.out.last pos).ahead r).wrong (pos : Int)), by rw [Hid, HC.out]; rfl, fun h => by omega, HNW.out⟩
                  case measure => have h1 := (((HN1.out.last pos).ahead r).wrong (pos : Int)).hip; rw [hip, h1]; omega
      
                by_cases hr2 : r = 127
                · skip
                  have j1 : ¬ (r : Int) < 32 := by omega
                  have j2 : ((r : Int) == 127) = true := by rw [hr2]; rfl
                  have HC : Hid (ctlN r = true) := by rw [Hid, hr2]; rfl
                  clear hr1 hr2
                  have c2a := cellAt HN1.out.b2 0 _ rfl
                  have c2b := cellAt HN1.out.b2 1 _ rfl
                  have f2 := frzAt HN1.out.b2
                  have c3 := HN1.out.b3.c
                  have f3 := HN1.out.b3.fr
                  have c4 := HN1.out.b4.c
                  have f4 := HN1.out.b4.fr
                  have c5 := HN1.out.b5.c
                  have f5 := HN1.out.b5.fr
                  go_wp2_with fail
                  clear c2a c2b f2 c3 c4 c5 f3 f4 f5
                  refine (look_no wn _ _ _ (pos : Int) (-1) ah la HN1.out.b4 HN1.out.b5 HN1.out.b3 (by omega) (by omega) hno).mono ?_
                  rintro e w' ⟨rfl, rfl⟩
                  have c2a := cellAt HN1.out.b2 0 _ rfl
                  have c2b := cellAt HN1.out.b2 1 _ rfl
                  have f2 := frzAt HN1.out.b2
                  have c3 := HN1.out.b3.c
                  have f3 := HN1.out.b3.fr
                  have c4 := HN1.out.b4.c
                  have f4 := HN1.out.b4.fr
                  have c5 := HN1.out.b5.c
                  have f5 := HN1.out.b5.fr
                  go_wp2
                  go_roundw
                  case rel => exact ⟨pos + k, r, pos, (pos : Int), by omega, by omega, (((HN1.out.last pos).ahead r).wrong (pos : Int)), by rw [Hid, HC.out]; rfl, fun h => by omega, HNW.out⟩
                  case measure => have h1 := (((HN1.out.last pos).ahead r).wrong (pos : Int)).hip; rw [hip, h1]; omega
      
                by_cases hr3 : r = 47
                · skip
                  have j1 : ¬ (r : Int) < 32 := by omega
                  have j2 : ((r : Int) == 127) = false := by simp; omega
                  have j3 : ((r : Int) == 47) = true := by rw [hr3]; rfl
                  have HC : Hid (ctlN r = true) := by rw [Hid, hr3]; rfl
                  clear hr1 hr2 hr3
                  have c2a := cellAt HN1.out.b2 0 _ rfl
                  have c2b := cellAt HN1.out.b2 1 _ rfl
                  have f2 := frzAt HN1.out.b2
                  have c3 := HN1.out.b3.c
                  have f3 := HN1.out.b3.fr
                  have c4 := HN1.out.b4.c
                  have f4 := HN1.out.b4.fr
                  have c5 := HN1.out.b5.c
                  have f5 := HN1.out.b5.fr
                  go_wp2_with fail
                  clear c2a c2b f2 c3 c4 c5 f3 f4 f5
                  refine (look_no wn _ _ _ (pos : Int) (-1) ah la HN1.out.b4 HN1.out.b5 HN1.out.b3 (by omega) (by omega) hno).mono ?_
                  rintro e w' ⟨rfl, rfl⟩
                  have c2a := cellAt HN1.out.b2 0 _ rfl
                  have c2b := cellAt HN1.out.b2 1 _ rfl
                  have f2 := frzAt HN1.out.b2
                  have c3 := HN1.out.b3.c
                  have f3 := HN1.out.b3.fr
                  have c4 := HN1.out.b4.c
                  have f4 := HN1.out.b4.fr
                  have c5 := HN1.out.b5.c
                  have f5 := HN1.out.b5.fr
                  go_wp2
                  go_roundw
                  case rel => exact ⟨pos + k, r, pos, (pos : Int), by omega, by omega, (((HN1.out.last pos).ahead r).wrong (pos : Int)), by rw [Hid, HC.out]; rfl, fun h => by omega, HNW.out⟩
                  case measure => have h1 := (((HN1.out.last pos).ahead r).wrong (pos : Int)).hip; rw [hip, h1]; omega
      
                have j1 : ¬ (r : Int) < 32 := by omega
                have j2 : ((r : Int) == 127) = false := by simp; omega
                have j3 : ((r : Int) == 47) = false := by simp; omega
                have HC : Hid (ctlN r = false) := by simp [Hid, ctlN, hr1, hr2, hr3]
                clear hr1 hr2 hr3
                have c2a := cellAt HN1.out.b2 0 _ rfl
                have c2b := cellAt HN1.out.b2 1 _ rfl
                have f2 := frzAt HN1.out.b2
                have c3 := HN1.out.b3.c
                have f3 := HN1.out.b3.fr
                have c4 := HN1.out.b4.c
                have f4 := HN1.out.b4.fr
                have c5 := HN1.out.b5.c
                have f5 := HN1.out.b5.fr
                go_wp2_with fail
                clear c2a c2b f2 c3 c4 c5 f3 f4 f5
                refine (look_no wn _ _ _ (pos : Int) (-1) ah la HN1.out.b4 HN1.out.b5 HN1.out.b3 (by omega) (by omega) hno).mono ?_
                rintro e w' ⟨rfl, rfl⟩
                have c2a := cellAt HN1.out.b2 0 _ rfl
                have c2b := cellAt HN1.out.b2 1 _ rfl
                have f2 := frzAt HN1.out.b2
                have c3 := HN1.out.b3.c
                have f3 := HN1.out.b3.fr
                have c4 := HN1.out.b4.c
                have f4 := HN1.out.b4.fr
                have c5 := HN1.out.b5.c
                have f5 := HN1.out.b5.fr
                go_wp2
                go_roundw
                case rel => exact ⟨pos + k, r, pos, -1, by omega, by omega, ((HN1.out.last pos).ahead r), by rw [Hid, HC.out]; rfl, fun h => by omega, HNW.out⟩
                case measure => have h1 := ((HN1.out.last pos).ahead r).hip; rw [hip, h1]; omega
        · have hnx := fun ty => Lib.run_next_end_at (P := Try.prog) wr (w.heap.size + 1 + 1 + 1 + 1) s pos ty HN.out.it hp
          have HE : Hid (s.data.toList.drop pos = []) := by rw [Hid]; exact List.drop_of_length_le (by rw [HS.out]; omega)
          have hps : pos = s.size := by omega
          subst hps
          by_cases hA : ctlN ah = true
          · have hv : wv = (la : Int) := by rw [HV.out, if_pos hA]
            have HW : Hid (wrongAt 0 (pcs s.data.toList) = some la) := by rw [Hid, HU.out, hA]; rfl
            subst hv
            clear hA HV HU H0
            have c2a := cellAt HN.out.b2 0 _ rfl
            have c2b := cellAt HN.out.b2 1 _ rfl
            have f2 := frzAt HN.out.b2
            have c3 := HN.out.b3.c
            have f3 := HN.out.b3.fr
            have c4 := HN.out.b4.c
            have f4 := HN.out.b4.fr
            have c5 := HN.out.b5.c
            have f5 := HN.out.b5.fr
            go_wp2_with fail
            clear c2a c2b f2 c3 c4 c5 f3 f4 f5
            refine (look_no _ _ _ _ (s.size : Int) la _ _ HN.out.b4 HN.out.b5 HN.out.b3 (by omega) (by omega) (.inl (by omega))).mono ?_
            rintro e w' ⟨rfl, rfl⟩
            have c2a := cellAt HN.out.b2 0 _ rfl
            have c2b := cellAt HN.out.b2 1 _ rfl
            have f2 := frzAt HN.out.b2
            have c3 := HN.out.b3.c
            have f3 := HN.out.b3.fr
            have c4 := HN.out.b4.c
            have f4 := HN.out.b4.fr
            have c5 := HN.out.b5.c
            have f5 := HN.out.b5.fr
            go_wp2
            exact bodyPost_ret (v := spotV (140, (la : Int))) (by simp [results, Try.results98, go_sem, spotV, *]) rfl ⟨by rw [HF.out, HW.out], HN.out.done _ _⟩
          · have hv : wv = -1 := by rw [HV.out, if_neg hA]
            have hA' : ctlN ah = false := by simpa using hA
            subst hv
            by_cases hB : ah = 65533 ∧ s.size - la < 3
            · have HW : Hid (wrongAt 0 (pcs s.data.toList) = some la) := by rw [Hid, HU.out, hB.1]; simp [hB.2]
              have hq := hB.1
              have hq2 := hB.2
              clear hA hA' HV HU H0 hB
              have c2a := cellAt HN.out.b2 0 _ rfl
              have c2b := cellAt HN.out.b2 1 _ rfl
              have f2 := frzAt HN.out.b2
              have c3 := HN.out.b3.c
              have f3 := HN.out.b3.fr
              have c4 := HN.out.b4.c
              have f4 := HN.out.b4.fr
              have c5 := HN.out.b5.c
              have f5 := HN.out.b5.fr
              go_wp2_with fail
              clear c2a c2b f2 c3 c4 c5 f3 f4 f5
              refine (look_yes wr _ _ _ (s.size : Int) (-1) ah la HN.out.b4 HN.out.b5 HN.out.b3 (by omega) (by omega) (by omega) hq (by omega)).mono ?_
              rintro e w' ⟨rfl, rfl⟩
              have HN2 := Lib.hid (HN.out.wrong (la : Int))
              generalize wr.setCell ⟨w.heap.size + 1 + 1, 0, none⟩ (.int .i64 (la : Int)) = wm at *
              have c2a := cellAt HN2.out.b2 0 _ rfl
              have c2b := cellAt HN2.out.b2 1 _ rfl
              have f2 := frzAt HN2.out.b2
              have c3 := HN2.out.b3.c
              have f3 := HN2.out.b3.fr
              have c4 := HN2.out.b4.c
              have f4 := HN2.out.b4.fr
              have c5 := HN2.out.b5.c
              have f5 := HN2.out.b5.fr
              go_wp2
              exact bodyPost_ret (v := spotV (140, (la : Int))) (by simp [results, Try.results98, go_sem, spotV, *]) rfl ⟨by rw [HF.out, HW.out], HN2.out.done _ _⟩
            · have hno : 0 ≤ (-1 : Int) ∨ ah ≠ 65533 ∨ 3 ≤ (s.size : Int) - la := by
                by_cases h1 : ah = 65533
                · have := fun h => hB ⟨h1, h⟩; omega
                · exact .inr (.inl h1)
              have HW : Hid (wrongAt 0 (pcs s.data.toList) = none) := by
                rw [Hid, HU.out, hA', Bool.false_or, HE.out]
                by_cases h1 : ah = 65533
                · have h2 : ¬ s.size - la < 3 := fun h => hB ⟨h1, h⟩
                  simp [h2, pcs_nil, wrongAt]
                · simp [h1, pcs_nil, wrongAt]
              clear hA hA' hB HV HU H0
              have c2a := cellAt HN.out.b2 0 _ rfl
              have c2b := cellAt HN.out.b2 1 _ rfl
              have f2 := frzAt HN.out.b2
              have c3 := HN.out.b3.c
              have f3 := HN.out.b3.fr
              have c4 := HN.out.b4.c
              have f4 := HN.out.b4.fr
              have c5 := HN.out.b5.c
              have f5 := HN.out.b5.fr
              go_wp2_with fail
              clear c2a c2b f2 c3 c4 c5 f3 f4 f5
              refine (look_no wr _ _ _ (s.size : Int) (-1) ah la HN.out.b4 HN.out.b5 HN.out.b3 (by omega) (by omega) hno).mono ?_
              rintro e w' ⟨rfl, rfl⟩
              have c2a := cellAt HN.out.b2 0 _ rfl
              have c2b := cellAt HN.out.b2 1 _ rfl
              have f2 := frzAt HN.out.b2
              have c3 := HN.out.b3.c
              have f3 := HN.out.b3.fr
              have c4 := HN.out.b4.c
              have f4 := HN.out.b4.fr
              have c5 := HN.out.b5.c
              have f5 := HN.out.b5.fr
              go_wp2
              exact bodyPost_ret (v := spotV (0, 0)) (by simp [results, Try.results98, go_sem, spotV, *]) rfl ⟨by rw [HF.out, HW.out], HN.out.done _ _⟩
end Go.Proofs.Ytccphnkdnifpfaa

