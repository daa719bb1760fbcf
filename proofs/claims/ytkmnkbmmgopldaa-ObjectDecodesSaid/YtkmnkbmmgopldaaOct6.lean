/-
  Contracts of the Reader's methods Word, Text, Raw.
-/
import Derived.Test.YtkmnkbmmgopldaaOct5
namespace Go.Proofs.Ytkmnkbmmgopldaa
open Go.RowKit
set_option linter.unusedVariables false
set_option linter.unusedSimpArgs false

/-- The number whose wide form bytes are, on top of x. -/
def beF (x : Nat) : List UInt8 → Nat
  | [] => x
  | c :: t => beF (x * 256 + c.toNat) t
theorem beF_lt (xs : List UInt8) : ∀ x : Nat, beF x xs < (x + 1) * 256 ^ xs.length := by
  induction xs with
  | nil => intro x; simp [beF]
  | cons c t ih =>
    intro x
    have h := ih (x * 256 + c.toNat)
    have hc : c.toNat < 256 := c.toNat_lt
    have h2 : (x * 256 + c.toNat + 1) * 256 ^ t.length ≤ ((x + 1) * 256) * 256 ^ t.length := Nat.mul_le_mul_right _ (by omega)
    simp only [beF, List.length_cons, Nat.pow_succ]
    rw [Nat.mul_comm (256 ^ t.length) 256, ← Nat.mul_assoc]
    omega
theorem beF_take (xs : List UInt8) : ∀ (x k : Nat) (hk : k < xs.length), beF x (xs.take (k + 1)) = beF x (xs.take k) * 256 + (xs[k]).toNat := by
  induction xs with
  | nil => intro x k hk; simp at hk
  | cons c t ih =>
    intro x k hk
    cases k with
    | zero => simp [beF]
    | succ k =>
      simp only [List.take_succ_cons, beF, List.getElem_cons_succ]
      exact ih _ _ (by simpa using hk)

theorem shl8_or (y u : Nat) (hy : y < 72057594037927936) (hu : u < 256) : bits .or .u64 (IntKind.u64.wrap ((y : Int) * 256)) (u : Int) = ((y * 256 + u : Nat) : Int) := by
  have e : (y : Int) * 256 = ((y * 256 : Nat) : Int) := by simp
  rw [e, wrap_u64_nat _ (by omega), or_u64 _ _ (by omega) (by omega), Nat.or_comm]
  have := or_add y u 8 (by simpa using hu)
  simp only [Nat.reducePow] at this
  rw [this, Nat.add_comm]

def rWord (r : Rd) : Nat × Rd :=
  if r.err ≠ 0 then (0, r) else if r.rest.length < 8 then (0, ⟨r.rest, 110⟩) else (beF 0 (r.rest.take 8), ⟨r.rest.drop 8, 0⟩)

set_option maxRecDepth 100000 in
set_option maxHeartbeats 800000 in
theorem word_calls (w : World) (g d : Nat) (r : Rd) (h : RdrAt w g d r) :
    Calls Try.prog 51 #[.pointer (some ⟨g, 0, none⟩)] w fun e w' => e = .returned (.int .u64 ((rWord r).1 : Int)) ∧ RdrAt w' g d (rWord r).2 ∧ Chg (One g) w w' := by
  obtain ⟨xs, err⟩ := r
  have H := Lib.hid h
  obtain ⟨A, c, c0, c1, c2, hn, hm, H2, H3⟩ := h.open
  by_cases he : err = 0
  · subst he
    by_cases h8 : xs.length < 8
    · have HU : Hid (rWord ⟨xs, 0⟩ = (0, ⟨xs, 110⟩)) := by simp [Hid, rWord, h8]
      go_enter Try.func51, Try.ntmps51
      go_wp2_with (first | (go_at_call 75; refine (ready_at _ _ _ _ h).mono ?_; rintro e w' ⟨rfl, rfl⟩) | (go_at_call 76; refine (refuse_at _ _ _ _ _ _ h).mono ?_; rintro e w' ⟨rfl, hr, hc⟩))
      go_ret
      exact ⟨by rw [HU.out]; rfl, by rw [HU.out]; exact hr, hc⟩
    · have HU : Hid (rWord ⟨xs, 0⟩ = (beF 0 (xs.take 8), ⟨xs.drop 8, 0⟩)) := by simp [Hid, rWord, h8]
      go_enter Try.func51, Try.ntmps51
      go_wp2_with (go_at_call 75; refine (ready_at _ _ _ _ h).mono ?_; rintro e w' ⟨rfl, rfl⟩)
      refine (take_at _ _ _ _ _ 8 H.out (by omega) (by omega)).mono ?_
      rintro e w1 ⟨A', rfl, hb, hr, hc, hp⟩
      simp only [show (8 : Int).toNat = 8 from rfl] at hb hr ⊢
      have hl8 : (xs.take 8).length = 8 := by rw [List.length_take]; omega
      obtain ⟨b, o, rfl, hcell⟩ := hb.addr (by omega)
      generalize xs.take 8 = ys at *
      have HP := Lib.hid hp
      have HC := Lib.hid hcell
      have HL := Lib.hid hl8
      have HB := Lib.hid hb
      clear hp hcell hl8 c0 c1 c2 h hb
      go_wp2
      go_loop [3, 31] (fun x i => ∃ k : Nat, k ≤ 8 ∧ i = .int .i64 (k : Int) ∧ x = .int .u64 ((beF 0 (ys.take k) : Nat) : Int)) (fun _ i => 8 - (intOf i).toNat)
      case atStart => exact ⟨0, by omega, rfl, rfl⟩
      case round =>
        obtain ⟨k, hk, rfl, rfl⟩ := hrel
        by_cases hlt : k < 8
        · have hc := HC.out k (by rw [HL.out]; exact hlt)
          have HT := Lib.hid (beF_take ys 0 k (by rw [HL.out]; exact hlt))
          generalize ys[k]'(by rw [HL.out]; exact hlt) = u at hc HT
          have hu : u.toNat < 256 := u.toNat_lt
          have hbl : beF 0 (ys.take k) < 72057594037927936 := by
            have h1 := beF_lt (ys.take k) 0
            have h2 : (ys.take k).length ≤ 7 := by rw [List.length_take]; omega
            have h3 := Nat.pow_le_pow_right (n := 256) (by decide) h2
            have h4 : (256 : Nat) ^ 7 = 72057594037927936 := by decide
            omega
          have HO := Lib.hid (shl8_or _ u.toNat hbl hu)
          clear hbl
          generalize hy : beF 0 (ys.take k) = y at *
          have HY := Lib.hid hy
          clear hy
          go_wp2
          go_round
          case rel => exact ⟨k + 1, by omega, by go_num, by rw [HT.out]; exact congrArg (Value.int .u64) HO.out⟩
          case measure => simp [intOf]; omega
        · have hk8 : k = 8 := by omega
          subst hk8
          go_wp2
          go_ret
          exact ⟨by rw [HU.out]; refine ret1 ?_; rw [List.take_of_length_le (by rw [HL.out]; omega)], by rw [HU.out]; exact hr, hc⟩
  · have hb : (err == 0) = false := by simpa using he
    go_enter Try.func51, Try.ntmps51
    go_wp2_with (go_at_call 75; refine (ready_at _ _ _ _ h).mono ?_; rintro e w' ⟨rfl, rfl⟩)
    go_ret
    simp only [rWord, ne_eq, he, not_false_eq_true, if_true]
    exact ⟨rfl, H.out, Chg.refl _ _⟩

set_option maxHeartbeats 400000 in
theorem word_none (w : World) : Calls Try.prog 51 #[.pointer none] w fun e w' => e = .returned (.int .u64 0) ∧ w = w' := by
  go_enter Try.func51, Try.ntmps51
  go_wp2
  go_ret
  exact ⟨rfl, rfl⟩

def rText (most : Int) (r : Rd) : List UInt8 × Rd :=
  if r.err ≠ 0 then ([], r)
  else if most < 0 then ([], ⟨r.rest, 2⟩)
  else if (numF 0 0 r.rest).2.2 ≠ 0 then ([], ⟨r.rest, (numF 0 0 r.rest).2.2⟩)
  else if most < ((numF 0 0 r.rest).1 : Int) then ([], ⟨r.rest, 3⟩)
  else if r.rest.length - (numF 0 0 r.rest).2.1 < (numF 0 0 r.rest).1 then ([], ⟨r.rest, 110⟩)
  else ((r.rest.drop (numF 0 0 r.rest).2.1).take (numF 0 0 r.rest).1, ⟨(r.rest.drop (numF 0 0 r.rest).2.1).drop (numF 0 0 r.rest).1, 0⟩)

set_option maxRecDepth 100000 in
set_option maxHeartbeats 800000 in
theorem text_calls (w : World) (g d : Nat) (r : Rd) (most : Int) (hmost : most ≤ 9223372036854775807) (h : RdrAt w g d r) (hx : r.rest.length ≤ 140737488355328) :
    Calls Try.prog 50 #[.pointer (some ⟨g, 0, none⟩), .int .i64 most] w fun e w' => e = .returned (.string (mkS (rText most r).1)) ∧ RdrAt w' g d (rText most r).2 ∧ Chg (One g) w w' := by
  obtain ⟨xs, err⟩ := r
  have H := Lib.hid h
  obtain ⟨A, c, c0, c1, c2, hn, hm, H2, H3⟩ := h.open
  simp only at hx
  by_cases he : err = 0
  · subst he
    by_cases hm0 : most < 0
    · have HU : Hid (rText most ⟨xs, 0⟩ = ([], ⟨xs, 2⟩)) := by simp [Hid, rText, hm0]
      go_enter Try.func50, Try.ntmps50
      go_wp2_with (first | (go_at_call 75; refine (ready_at _ _ _ _ h).mono ?_; rintro e w' ⟨rfl, rfl⟩) | (go_at_call 76; refine (refuse_at _ _ _ _ _ _ h).mono ?_; rintro e w' ⟨rfl, hr, hc⟩))
      go_ret
      exact ⟨by rw [HU.out]; rfl, by rw [HU.out]; exact hr, hc⟩
    · obtain ⟨f1, f2, f3, f4, f5⟩ := numF_at xs
      have HU : Hid (rText most ⟨xs, 0⟩ = if (numF 0 0 xs).2.2 ≠ 0 then ([], ⟨xs, (numF 0 0 xs).2.2⟩)
        else if most < ((numF 0 0 xs).1 : Int) then ([], ⟨xs, 3⟩)
        else if xs.length - (numF 0 0 xs).2.1 < (numF 0 0 xs).1 then ([], ⟨xs, 110⟩)
        else ((xs.drop (numF 0 0 xs).2.1).take (numF 0 0 xs).1, ⟨(xs.drop (numF 0 0 xs).2.1).drop (numF 0 0 xs).1, 0⟩)) := by simp [Hid, rText, hm0]
      have HC := Lib.hid (number_calls w A xs.length c xs H2.out rfl hx)
      generalize hN : numF 0 0 xs = N at *
      obtain ⟨v, n, ee⟩ := N
      have HN := Lib.hid hN
      simp only at f1 f2 HU
      clear f3 f4 f5 hN
      by_cases hee : ee = 0
      · subst hee
        by_cases hv : most < (v : Int)
        · go_enter Try.func50, Try.ntmps50
          go_wp2_with (first | (go_at_call 75; refine (ready_at _ _ _ _ h).mono ?_; rintro e w' ⟨rfl, rfl⟩) | (go_at_call 78; refine HC.out.mono ?_; rintro e w' ⟨rfl, rfl⟩) | (go_at_call 76; refine (refuse_at _ _ _ _ _ _ h).mono ?_; rintro e w' ⟨rfl, hr, hc⟩))
          go_ret
          exact ⟨by rw [HU.out, if_neg (by simp), if_pos hv]; rfl, by rw [HU.out, if_neg (by simp), if_pos hv]; exact hr, hc⟩
        · by_cases hs : xs.length - n < v
          · go_enter Try.func50, Try.ntmps50
            go_wp2_with (first | (go_at_call 75; refine (ready_at _ _ _ _ h).mono ?_; rintro e w' ⟨rfl, rfl⟩) | (go_at_call 78; refine HC.out.mono ?_; rintro e w' ⟨rfl, rfl⟩) | (go_at_call 76; refine (refuse_at _ _ _ _ _ _ h).mono ?_; rintro e w' ⟨rfl, hr, hc⟩))
            go_ret
            exact ⟨by rw [HU.out, if_neg (by simp), if_neg (show ¬ most < (v : Int) by omega), if_pos hs]; rfl, by rw [HU.out, if_neg (by simp), if_neg (show ¬ most < (v : Int) by omega), if_pos hs]; exact hr, hc⟩
          · go_enter Try.func50, Try.ntmps50
            go_wp2_with (first | (go_at_call 75; refine (ready_at _ _ _ _ h).mono ?_; rintro e w' ⟨rfl, rfl⟩) | (go_at_call 78; refine HC.out.mono ?_; rintro e w' ⟨rfl, rfl⟩))
            refine (take_at _ _ _ _ _ n H.out (by omega) (by omega)).mono ?_
            rintro e w1 ⟨A1, rfl, hb1, hr1, hc1, hp1⟩
            have HP1 := Lib.hid hp1
            clear hp1 c0 c1 c2 h
            simp only [Int.toNat_natCast] at hr1
            go_wp2_with fail
            refine (take_at _ _ _ _ _ v hr1 (by omega) (by rw [List.length_drop]; omega)).mono ?_
            rintro e w2 ⟨A2, rfl, hb2, hr2, hc2, hp2⟩
            have HP2 := Lib.hid hp2
            clear hp2
            simp only [Int.toNat_natCast] at hb2 hr2 ⊢
            have hcv := hb2.text Try.underlying38 Try.underlying5 Try.underlying9
            go_wp2
            go_ret
            exact ⟨by rw [HU.out, if_neg (by simp), if_neg (show ¬ most < (v : Int) by omega), if_neg (show ¬ xs.length - n < v by omega)]; rfl, by rw [HU.out, if_neg (by simp), if_neg (show ¬ most < (v : Int) by omega), if_neg (show ¬ xs.length - n < v by omega)]; exact hr2, hc1.one hc2 (.inr rfl)⟩
      · have hb : (ee == 0) = false := by simpa using hee
        have hb' : (ee != 0) = true := by simpa using hee
        have HE := Lib.hid hee
        clear hee
        go_enter Try.func50, Try.ntmps50
        go_wp2_with (first | (go_at_call 75; refine (ready_at _ _ _ _ h).mono ?_; rintro e w' ⟨rfl, rfl⟩) | (go_at_call 78; refine HC.out.mono ?_; rintro e w' ⟨rfl, rfl⟩) | (go_at_call 76; refine (refuse_at _ _ _ _ _ _ h).mono ?_; rintro e w' ⟨rfl, hr, hc⟩))
        go_ret
        exact ⟨by rw [HU.out, if_pos HE.out]; rfl, by rw [HU.out, if_pos HE.out]; exact hr, hc⟩
  · have hb : (err == 0) = false := by simpa using he
    go_enter Try.func50, Try.ntmps50
    go_wp2_with (go_at_call 75; refine (ready_at _ _ _ _ h).mono ?_; rintro e w' ⟨rfl, rfl⟩)
    go_ret
    simp only [rText, ne_eq, he, not_false_eq_true, if_true]
    exact ⟨rfl, H.out, Chg.refl _ _⟩

set_option maxHeartbeats 400000 in
theorem text_none (w : World) (most : Int) : Calls Try.prog 50 #[.pointer none, .int .i64 most] w fun e w' => e = .returned (.string ⟨#[]⟩) ∧ w = w' := by
  go_enter Try.func50, Try.ntmps50
  go_wp2
  go_ret
  exact ⟨rfl, rfl⟩

/-- What Raw reads. -/
def rRaw (n : Int) (r : Rd) : List UInt8 × Rd :=
  if r.err ≠ 0 then ([], r) else if n < 0 then ([], ⟨r.rest, 2⟩) else if (r.rest.length : Int) < n then ([], ⟨r.rest, 110⟩)
  else (r.rest.take n.toNat, ⟨r.rest.drop n.toNat, 0⟩)

set_option maxRecDepth 100000 in
set_option maxHeartbeats 800000 in
theorem raw_calls (w : World) (g d : Nat) (r : Rd) (n : Int) (h : RdrAt w g d r) (hx : r.rest.length ≤ 140737488355328) :
    Calls Try.prog 46 #[.pointer (some ⟨g, 0, none⟩), .int .i64 n] w fun e w' => ∃ v, e = .returned v ∧ OwnB w' w.heap.size v (rRaw n r).1 ∧ RdrAt w' g d (rRaw n r).2 ∧ Chg (One g) w w' := by
  obtain ⟨xs, err⟩ := r
  have H := Lib.hid h
  obtain ⟨A, c, c0, c1, c2, hn, hm, H2, H3⟩ := h.open
  simp only at hx
  by_cases he : err = 0
  · subst he
    by_cases hm0 : n < 0
    · have HU : Hid (rRaw n ⟨xs, 0⟩ = ([], ⟨xs, 2⟩)) := by simp [Hid, rRaw, hm0]
      go_enter Try.func46, Try.ntmps46
      go_wp2_with (first | (go_at_call 75; refine (ready_at _ _ _ _ h).mono ?_; rintro e w' ⟨rfl, rfl⟩) | (go_at_call 76; refine (refuse_at _ _ _ _ _ _ h).mono ?_; rintro e w' ⟨rfl, hr, hc⟩))
      go_ret
      exact ⟨_, rfl, by rw [HU.out]; exact World.ownsRow_nil _ _ _ _, by rw [HU.out]; exact hr, hc⟩
    · by_cases hl : (xs.length : Int) < n
      · have HU : Hid (rRaw n ⟨xs, 0⟩ = ([], ⟨xs, 110⟩)) := by simp [Hid, rRaw, hm0, hl]
        go_enter Try.func46, Try.ntmps46
        go_wp2_with (first | (go_at_call 75; refine (ready_at _ _ _ _ h).mono ?_; rintro e w' ⟨rfl, rfl⟩) | (go_at_call 76; refine (refuse_at _ _ _ _ _ _ h).mono ?_; rintro e w' ⟨rfl, hr, hc⟩))
        go_ret
        exact ⟨_, rfl, by rw [HU.out]; exact World.ownsRow_nil _ _ _ _, by rw [HU.out]; exact hr, hc⟩
      · have HU : Hid (rRaw n ⟨xs, 0⟩ = (xs.take n.toNat, ⟨xs.drop n.toNat, 0⟩)) := by simp [Hid, rRaw, hm0, hl]
        go_enter Try.func46, Try.ntmps46
        go_wp2_with (go_at_call 75; refine (ready_at _ _ _ _ h).mono ?_; rintro e w' ⟨rfl, rfl⟩)
        refine (take_at _ _ _ _ _ n H.out (by omega) (by omega)).mono ?_
        rintro e w1 ⟨A', rfl, hb, hr, hc, hp⟩
        have HP := Lib.hid hp
        clear hp c0 c1 c2 h
        go_wp2_with fail
        refine (clone_any _ _ _ _ _ hb (by omega)).mono ?_
        rintro e w2 ⟨v, rfl, hown, hc2⟩
        go_wp2
        go_ret
        exact ⟨_, rfl, by rw [HU.out]; exact hown.mono hc.size, by rw [HU.out]; exact hr.no hc2, hc.no hc2⟩
  · have hb : (err == 0) = false := by simpa using he
    go_enter Try.func46, Try.ntmps46
    go_wp2_with (go_at_call 75; refine (ready_at _ _ _ _ h).mono ?_; rintro e w' ⟨rfl, rfl⟩)
    go_ret
    simp only [rRaw, ne_eq, he, not_false_eq_true, if_true]
    exact ⟨_, rfl, World.ownsRow_nil _ _ _ _, H.out, Chg.refl _ _⟩

set_option maxHeartbeats 400000 in
theorem raw_none (w : World) (n : Int) : Calls Try.prog 46 #[.pointer none, .int .i64 n] w fun e w' => e = .returned (.slice none 0 0) ∧ w = w' := by
  go_enter Try.func46, Try.ntmps46
  go_wp2
  go_ret
  exact ⟨rfl, rfl⟩
end Go.Proofs.Ytkmnkbmmgopldaa
