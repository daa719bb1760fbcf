/-
  The walk of OctetOne: a number has one short form.
-/
import Derived.Test.YtikfplfhndhjbaaLaw01w
import Derived.Deep.RegionHeld3
namespace Go.Proofs.Ytikfplfhndhjbaa
open Go.RowKit
set_option linter.unusedVariables false
set_option linter.unusedSimpArgs false

/-! ### The plain law: what is read is what is written of it. -/
theorem numF_leb (xs : List UInt8) : ∀ (i x v n : Nat), i ≤ 9 → x < 128 ^ i → numF i x xs = (v, n, 0) → ∃ m, n = i + m ∧ 0 < m ∧ x ≤ v ∧ (v - x) % 128 ^ i = 0 ∧ (0 < i → 0 < (v - x) / 128 ^ i) ∧ leb ((v - x) / 128 ^ i) = xs.take m := by
  induction xs with
  | nil => intro i x v n hi hx h; simp [numF] at h
  | cons c t ih =>
    intro i x v n hi hx h
    by_cases hb : i = 9 ∧ 1 < c.toNat ∨ 0 < i ∧ c.toNat = 0
    · rw [numF_bad i x c t hb] at h; simp at h
    · have hc256 : c.toNat < 256 := c.toNat_lt
      have hpos : 0 < 128 ^ i := Nat.pow_pos (by decide)
      by_cases hc : c.toNat < 128
      · rw [numF_last i x c t hb hc] at h
        simp only [Prod.mk.injEq, and_true] at h
        obtain ⟨rfl, rfl⟩ := h
        have e : (x + c.toNat % 128 * 128 ^ i - x) / 128 ^ i = c.toNat := by
          rw [Nat.add_sub_cancel_left, Nat.mul_div_cancel _ hpos]; omega
        refine ⟨1, rfl, by omega, by omega, ?_, ?_, ?_⟩
        · rw [Nat.add_sub_cancel_left]; exact Nat.mul_mod_left _ _
        · intro h0; rw [e]
          rcases Nat.eq_zero_or_pos c.toNat with h1 | h1
          · exact absurd (Or.inr ⟨h0, h1⟩) hb
          · exact h1
        · rw [e, leb_small _ hc]
          simp
      · rw [numF_more i x c t hb hc] at h
        have hi9 : i < 9 := by
          rcases Nat.lt_or_ge i 9 with h' | h'
          · exact h'
          · exact absurd (Or.inl ⟨by omega, by omega⟩) hb
        obtain ⟨m, h1, h2, h4, h5, h6, h7⟩ := ih (i + 1) _ v n (by omega) (acc_lt i x c.toNat hx) h
        have hq := h6 (by omega)
        -- v - x = (c % 128) * 128^i + q * 128^(i+1)
        generalize hQ : (v - (x + c.toNat % 128 * 128 ^ i)) / 128 ^ (i + 1) = q at *
        have hv : v - (x + c.toNat % 128 * 128 ^ i) = q * 128 ^ (i + 1) := by
          have := Nat.div_add_mod (v - (x + c.toNat % 128 * 128 ^ i)) (128 ^ (i + 1))
          rw [h5, hQ, Nat.add_zero, Nat.mul_comm] at this
          exact this.symm
        have hvx : v - x = (c.toNat % 128 + q * 128) * 128 ^ i := by
          rw [Nat.pow_succ] at hv
          rw [Nat.add_mul, Nat.mul_assoc, Nat.mul_comm 128 (128 ^ i)]
          omega
        have hdiv : (v - x) / 128 ^ i = c.toNat % 128 + q * 128 := by rw [hvx, Nat.mul_div_cancel _ hpos]
        refine ⟨m + 1, by omega, by omega, by omega, ?_, ?_, ?_⟩
        · rw [hvx]; exact Nat.mul_mod_left _ _
        · intro _; rw [hdiv]; omega
        · rw [hdiv, leb_big _ (by omega), List.take_succ_cons, ← h7]
          congr 1
          · have e1 : (c.toNat % 128 + q * 128) % 128 + 128 = c.toNat := by omega
            rw [e1]; simp
          · congr 1; omega
theorem Bytes.takeN {w : World} {A : Option Addr} {n c k m : Nat} {xs : List UInt8} (h : Bytes w (.slice A n c) xs) (hl : xs.length = n) (hk : k ≤ n) (hkm : k ≤ m) (hmc : m ≤ c) :
    Bytes w (.slice A k m) (xs.take k) := by
  subst hl
  exact h.take hk hkm hmc
theorem OwnB.form {w : World} {base : Nat} {v : Value} {xs : List UInt8} (h : OwnB w base v xs) : ∃ A n c, v = .slice A n c ∧ Hid (xs.length = n) ∧ Hid (OwnB w base (.slice A n c) xs) := by
  obtain ⟨A, c, rfl, -, -⟩ := h.bytes.form
  exact ⟨A, _, c, rfl, rfl, h⟩
theorem numF_leb0 (xs : List UInt8) (v n : Nat) (h : numF 0 0 xs = (v, n, 0)) : leb v = xs.take n := by
  obtain ⟨m, h1, _, _, _, _, h7⟩ := numF_leb xs 0 0 v n (by omega) (by simp) h
  simp at h7
  rw [h7, h1, Nat.zero_add]

set_option maxRecDepth 100000 in
set_option maxHeartbeats 1600000 in
theorem octetOne_core (w : World) (A0 : Option Addr) (n0 c0 : Nat) (xs : List UInt8) (hb : Bytes w (.slice A0 n0 c0) xs) (hl : xs.length = n0) (hn : n0 ≤ 140737488351232) :
    Calls Try.prog 4 #[.slice A0 n0 c0] w fun e w' => e = .returned (.bool true) ∧ Chg No w w' := by
  have HB := Lib.hid hb
  have HL := Lib.hid hl
  have hcc : n0 ≤ c0 ∧ c0 ≤ maxLen := by
    obtain ⟨_, _, he, h1, h2, _⟩ := hb
    simp only [Value.slice.injEq] at he
    omega
  obtain ⟨hc1', hc2'⟩ := hcc
  unfold maxLen at hc2'
  clear hb hl
  go_enter Try.func4, Try.ntmps4
  go_wp2_with fail
  refine (wakes_calls _).mono ?_
  rintro e w1 ⟨rfl, hc1⟩
  have HC1 := Lib.hid hc1
  have hs1 := hc1.size
  clear hc1
  go_wp2_with fail
  refine (read_calls _ _ _ _ xs (HB.out.no HC1.out) (by omega)).mono ?_
  rintro e w' ⟨w2, v, rfl, rfl, hown, hc⟩
  have hsz : w.heap.size ≤ w2.heap.size := by have := hc.size; omega
  obtain ⟨d, hd, hr⟩ := RdrAt.made hown hc.size
  have hd' : w.heap.size ≤ d := by omega
  have HC : Hid (Chg No w (w2.alloc (.cells #[.bool true, v, .int .i64 0] 70))) := (HC1.out.no hc).alloc _
  clear hown hc hd HC1 hs1
  generalize hgw : w2.heap.size = g at *
  generalize w2.alloc (.cells #[.bool true, v, .int .i64 0] 70) = w3 at *
  clear hgw
  go_wp2_with fail
  refine (wakes_calls _).mono ?_
  rintro e w4 ⟨rfl, hc4⟩
  have HR4 := Lib.hid (hr.no hc4)
  have HC4 : Hid (Chg No w w4) := HC.out.no hc4
  clear hc4 hr HC
  go_wp2_with fail
  refine (uint_calls _ _ d _ HR4.out (by rw [HL.out]; omega)).mono ?_
  rintro e w5 ⟨rfl, hr5, hc5⟩
  have HC5 : Hid (Chg No w w5) := HC4.out.one hc5 (.inl (by omega))
  obtain ⟨f1, f2, f3, f4, f5⟩ := numF_at xs
  have HLeb := Lib.hid (numF_leb0 xs)
  have HU : Hid (rUint ⟨xs, 0⟩ = if (numF 0 0 xs).2.2 ≠ 0 then (0, ⟨xs, (numF 0 0 xs).2.2⟩) else ((numF 0 0 xs).1, ⟨xs.drop (numF 0 0 xs).2.1, 0⟩)) := by simp [Hid, rUint]
  clear hc5 HC4 HR4
  generalize hN : numF 0 0 xs = N at *
  obtain ⟨x, n, ee⟩ := N
  have HN := Lib.hid hN
  simp only at f1 f2 f5
  clear f3 f4 hN
  by_cases hee : ee = 0
  · subst hee
    obtain ⟨f5, f6⟩ := f5 rfl
    rw [show rUint ⟨xs, 0⟩ = (x, ⟨xs.drop n, 0⟩) from by rw [HU.out]; rfl] at hr5 ⊢
    have HR5 := Lib.hid hr5
    clear hr5 HU
    go_wp2_with (first | (go_at_call 21; refine (err_calls _ _ d _ HR5.out).mono ?_; rintro e w' ⟨rfl, rfl⟩))
    refine (left_calls _ _ d _ HR5.out).mono ?_
    rintro e w' ⟨rfl, rfl⟩
    simp only [List.length_drop, HL.out]
    have hsub : (n0 : Int) - ((n0 - n : Nat) : Int) = (n : Int) := by have := HL.out; omega
    have hnn : n ≤ n0 := by have := HL.out; omega
    clear f1 f5
    go_wp2
    have hg1 : (1 : Int) ≤ (n : Int) := by omega
    have hg2 : (n : Int) ≤ 10 := by omega
    have hg3 : (n : Int) ≤ (c0 : Int) := by omega
    have hg0 : (0 : Int) ≤ (n : Int) := by omega
    have BT := Lib.hid (((HB.out.no HC5.out).takeN HL.out (k := n) (m := c0) hnn (by omega) (Nat.le_refl _)).no (w' := w5.drew) ((Chg.refl _ _).drew))
    have hcv5 := BT.out.text (P := Try.prog) Try.underlying22 Try.underlying5 Try.underlying9
    refine wp_region_held_drew (S := fun W => (convert 22 9 (.slice A0 n c0)).run Try.prog W = .ok (.string (mkS (xs.take n))) W) (by kernel_rfl) hcv5 (fun hSw => ?_)
    refine wpAnyH_take (i := 0) (oi := { dst := some 35, op := Go.Op.move (Go.Operand.tmp 5), type := 3, pos := "outright.go:75", after := #[], guard := none }) (v := ?_) rfl (by kernel_rfl) (by kernel_rfl) (by kernel_rfl) (fun _ _ _ h => h) (Or.inl ⟨by rfl, ?_⟩) hSw ?_
    rotate_left
    · (intro W hW; (try dsimp only at hW); go_simp; try with_reducible rfl)
    try simp only [Act.put, List.setIfInBounds_toArray, List.set_cons_zero, List.set_cons_succ]
    refine wpAnyH_take (i := 1) (oi := { dst := some 36, op := Go.Op.binOp Go.BinOp.geq 3 (Go.Operand.tmp 35) (Go.Operand.const (Go.Value.int Go.IntKind.i64 1)) 3, type := 4, pos := "outright.go:75", after := #[{ on := 0, ground := Go.Ground.data }], guard := none }) (v := ?_) rfl (by kernel_rfl) (by kernel_rfl) (by kernel_rfl) (fun _ _ _ h => h) (Or.inl ⟨by rfl, ?_⟩) hSw ?_
    rotate_left
    · (intro W hW; (try dsimp only at hW); go_simp; try with_reducible rfl)
    try simp only [Act.put, List.setIfInBounds_toArray, List.set_cons_zero, List.set_cons_succ]
    refine wpAnyH_take (i := 2) (oi := { dst := some 37, op := Go.Op.move (Go.Operand.tmp 36), type := 4, pos := "outright.go:75", after := #[{ on := 1, ground := Go.Ground.data }], guard := none }) (v := ?_) rfl (by kernel_rfl) (by kernel_rfl) (by kernel_rfl) (fun _ _ _ h => h) (Or.inl ⟨by rfl, ?_⟩) hSw ?_
    rotate_left
    · (intro W hW; (try dsimp only at hW); go_simp; try with_reducible rfl)
    try simp only [Act.put, List.setIfInBounds_toArray, List.set_cons_zero, List.set_cons_succ]
    refine wpAnyH_take (i := 3) (oi := { dst := some 38, op := Go.Op.move (Go.Operand.tmp 5), type := 3, pos := "outright.go:75", after := #[{ on := 2, ground := Go.Ground.guard }], guard := some (2, true) }) (v := ?_) rfl (by kernel_rfl) (by kernel_rfl) (by kernel_rfl) (fun _ _ _ h => h) (Or.inl ⟨by rfl, ?_⟩) hSw ?_
    rotate_left
    · (intro W hW; (try dsimp only at hW); go_simp; try with_reducible rfl)
    try simp only [Act.put, List.setIfInBounds_toArray, List.set_cons_zero, List.set_cons_succ]
    refine wpAnyH_take (i := 4) (oi := { dst := some 39, op := Go.Op.binOp Go.BinOp.leq 3 (Go.Operand.tmp 38) (Go.Operand.const (Go.Value.int Go.IntKind.i64 10)) 3, type := 4, pos := "outright.go:75", after := #[{ on := 3, ground := Go.Ground.data }, { on := 2, ground := Go.Ground.guard }], guard := some (2, true) }) (v := ?_) rfl (by kernel_rfl) (by kernel_rfl) (by kernel_rfl) (fun _ _ _ h => h) (Or.inl ⟨by rfl, ?_⟩) hSw ?_
    rotate_left
    · (intro W hW; (try dsimp only at hW); go_simp; try with_reducible rfl)
    try simp only [Act.put, List.setIfInBounds_toArray, List.set_cons_zero, List.set_cons_succ]
    refine wpAnyH_take (i := 5) (oi := { dst := some 40, op := Go.Op.pick (Go.Operand.tmp 37) (Go.Operand.tmp 39) (Go.Operand.const (Go.Value.bool false)), type := 4, pos := "outright.go:75", after := #[{ on := 2, ground := Go.Ground.data }, { on := 4, ground := Go.Ground.data }], guard := none }) (v := ?_) rfl (by kernel_rfl) (by kernel_rfl) (by kernel_rfl) (fun _ _ _ h => h) (Or.inl ⟨by rfl, ?_⟩) hSw ?_
    rotate_left
    · (intro W hW; (try dsimp only at hW); go_simp; try with_reducible rfl)
    try simp only [Act.put, List.setIfInBounds_toArray, List.set_cons_zero, List.set_cons_succ]
    refine wpAnyH_take (i := 6) (oi := { dst := some 41, op := Go.Op.move (Go.Operand.tmp 40), type := 4, pos := "outright.go:75", after := #[{ on := 5, ground := Go.Ground.data }, { on := 2, ground := Go.Ground.chain }], guard := none }) (v := ?_) rfl (by kernel_rfl) (by kernel_rfl) (by kernel_rfl) (fun _ _ _ h => h) (Or.inl ⟨by rfl, ?_⟩) hSw ?_
    rotate_left
    · (intro W hW; (try dsimp only at hW); go_simp; try with_reducible rfl)
    try simp only [Act.put, List.setIfInBounds_toArray, List.set_cons_zero, List.set_cons_succ]
    refine wpAnyH_take (i := 7) (oi := { dst := some 42, op := Go.Op.move (Go.Operand.tmp 4), type := 23, pos := "outright.go:75", after := #[{ on := 6, ground := Go.Ground.guard }], guard := some (6, true) }) (v := ?_) rfl (by kernel_rfl) (by kernel_rfl) (by kernel_rfl) (fun _ _ _ h => h) (Or.inl ⟨by rfl, ?_⟩) hSw ?_
    rotate_left
    · (intro W hW; (try dsimp only at hW); go_simp; try with_reducible rfl)
    try simp only [Act.put, List.setIfInBounds_toArray, List.set_cons_zero, List.set_cons_succ]
    refine wpAnyH_take (i := 10) (oi := { dst := some 45, op := Go.Op.move (Go.Operand.tmp 0), type := 22, pos := "outright.go:75", after := #[{ on := 6, ground := Go.Ground.guard }], guard := some (6, true) }) (v := ?_) rfl (by kernel_rfl) (by kernel_rfl) (by kernel_rfl) (fun _ _ _ h => h) (Or.inl ⟨by rfl, ?_⟩) hSw ?_
    rotate_left
    · (intro W hW; (try dsimp only at hW); go_simp; try with_reducible rfl)
    try simp only [Act.put, List.setIfInBounds_toArray, List.set_cons_zero, List.set_cons_succ]
    refine wpAnyH_take (i := 11) (oi := { dst := some 46, op := Go.Op.move (Go.Operand.tmp 5), type := 3, pos := "outright.go:75", after := #[{ on := 6, ground := Go.Ground.guard }], guard := some (6, true) }) (v := ?_) rfl (by kernel_rfl) (by kernel_rfl) (by kernel_rfl) (fun _ _ _ h => h) (Or.inl ⟨by rfl, ?_⟩) hSw ?_
    rotate_left
    · (intro W hW; (try dsimp only at hW); go_simp; try with_reducible rfl)
    try simp only [Act.put, List.setIfInBounds_toArray, List.set_cons_zero, List.set_cons_succ]
    refine wpAnyH_take (i := 12) (oi := { dst := some 47, op := Go.Op.slice 22 (Go.Operand.tmp 45) none (some (Go.Operand.tmp 46)) none, type := 22, pos := "outright.go:75", after := #[{ on := 10, ground := Go.Ground.data }, { on := 11, ground := Go.Ground.data }, { on := 6, ground := Go.Ground.guard }], guard := some (6, true) }) (v := ?_) rfl (by kernel_rfl) (by kernel_rfl) (by kernel_rfl) (fun _ _ _ h => h) (Or.inl ⟨by rfl, ?_⟩) hSw ?_
    rotate_left
    · (intro W hW; (try dsimp only at hW); go_simp; try with_reducible rfl)
    try simp only [Act.put, List.setIfInBounds_toArray, List.set_cons_zero, List.set_cons_succ]
    refine wpAnyH_take (i := 13) (oi := { dst := some 48, op := Go.Op.convert 22 9 (Go.Operand.tmp 47), type := 9, pos := "outright.go:75", after := #[{ on := 12, ground := Go.Ground.data }, { on := 6, ground := Go.Ground.guard }], guard := some (6, true) }) (v := ?_) rfl (by kernel_rfl) (by kernel_rfl) (by kernel_rfl) (fun _ _ _ h => h) (Or.inl ⟨by rfl, ?_⟩) hSw ?_
    rotate_left
    · (intro W hW; (try dsimp only at hW); go_simp; try with_reducible rfl)
    try simp only [Act.put, List.setIfInBounds_toArray, List.set_cons_zero, List.set_cons_succ]
    refine wpAnyH_ready (rs := [8]) (by kernel_rfl) (by simp) ?_
    refine AllReadyH.cons (o := { dst := some 43, op := Go.Op.call { callee := Go.Callee.value (Go.Operand.func 12), args := #[Go.Operand.const (Go.Value.slice none 0 0), Go.Operand.tmp 42], argTypes := #[22, 23] }, type := 22, pos := "outright.go:75", after := #[{ on := 7, ground := Go.Ground.data }, { on := 6, ground := Go.Ground.chain }, { on := 6, ground := Go.Ground.guard }], guard := some (6, true) }) rfl (fun K hK => ?_) AllReadyH.nil
    rw [if_pos (by rfl)]
    go_simp
    refine (putuint_calls _ none 0 0 [] (Bytes.nil _) rfl x _ rfl f2 (by omega)).mono ?_
    rintro e w6 ⟨v6, rfl, ho6, hc6⟩
    obtain ⟨A6, n6, c6, rfl, HL6, HO6⟩ := ho6.form
    have hcv6 := HO6.out.bytes.text (P := Try.prog) Try.underlying22 Try.underlying5 Try.underlying9
    have hcvb := (BT.out.no hc6).text (P := Try.prog) Try.underlying22 Try.underlying5 Try.underlying9
    refine hK.out _ _ hcvb (fun hSw => ?_)
    clear hK
    try simp only [Act.put, List.setIfInBounds_toArray, List.set_cons_zero, List.set_cons_succ]
    refine wpAnyH_ready (rs := [9]) (by kernel_rfl) (by simp) ?_
    refine AllReadyH.cons (o := { dst := some 44, op := Go.Op.convert 22 9 (Go.Operand.tmp 43), type := 9, pos := "outright.go:75", after := #[{ on := 8, ground := Go.Ground.data }, { on := 6, ground := Go.Ground.guard }], guard := some (6, true) }) rfl (fun K hK => ?_) AllReadyH.nil
    rw [if_pos (by rfl)]
    go_simp
    refine hK.out _ _ hcvb (fun hSw => ?_)
    clear hK
    try simp only [Act.put, List.setIfInBounds_toArray, List.set_cons_zero, List.set_cons_succ]
    refine wpAnyH_take (i := 14) (oi := { dst := some 49, op := Go.Op.binOp Go.BinOp.eql 9 (Go.Operand.tmp 44) (Go.Operand.tmp 48) 9, type := 4, pos := "outright.go:75", after := #[{ on := 9, ground := Go.Ground.data }, { on := 13, ground := Go.Ground.data }, { on := 6, ground := Go.Ground.guard }], guard := some (6, true) }) (v := ?_) rfl (by kernel_rfl) (by kernel_rfl) (by kernel_rfl) (fun _ _ _ h => h) (Or.inl ⟨by rfl, ?_⟩) hSw ?_
    rotate_left
    · (intro W hW; (try dsimp only at hW); go_simp; try with_reducible rfl)
    try simp only [Act.put, List.setIfInBounds_toArray, List.set_cons_zero, List.set_cons_succ]
    refine wpAnyH_take (i := 15) (oi := { dst := some 50, op := Go.Op.pick (Go.Operand.tmp 41) (Go.Operand.tmp 49) (Go.Operand.const (Go.Value.bool false)), type := 4, pos := "outright.go:75", after := #[{ on := 6, ground := Go.Ground.data }, { on := 14, ground := Go.Ground.data }], guard := none }) (v := ?_) rfl (by kernel_rfl) (by kernel_rfl) (by kernel_rfl) (fun _ _ _ h => h) (Or.inl ⟨by rfl, ?_⟩) hSw ?_
    rotate_left
    · (intro W hW; (try dsimp only at hW); go_simp; try with_reducible rfl)
    try simp only [Act.put, List.setIfInBounds_toArray, List.set_cons_zero, List.set_cons_succ]
    refine wpAnyH_ready (rs := [16]) (by kernel_rfl) (by simp) ?_
    refine AllReadyH.cons (o := { dst := some 2, op := Go.Op.assign (Go.Operand.tmp 50), type := 4, pos := "outright.go:75", after := #[{ on := 15, ground := Go.Ground.data }, { on := 8, ground := Go.Ground.chain }, { on := 0, ground := Go.Ground.phase }, { on := 1, ground := Go.Ground.phase }, { on := 2, ground := Go.Ground.phase }, { on := 3, ground := Go.Ground.phase }, { on := 4, ground := Go.Ground.phase }, { on := 5, ground := Go.Ground.phase }, { on := 6, ground := Go.Ground.phase }, { on := 7, ground := Go.Ground.phase }, { on := 8, ground := Go.Ground.phase }, { on := 9, ground := Go.Ground.phase }, { on := 10, ground := Go.Ground.phase }, { on := 11, ground := Go.Ground.phase }, { on := 12, ground := Go.Ground.phase }, { on := 13, ground := Go.Ground.phase }, { on := 14, ground := Go.Ground.phase }, { on := 15, ground := Go.Ground.phase }], guard := none }) rfl (fun K hK => ?_) AllReadyH.nil
    rw [if_pos (by rfl)]
    go_simp
    refine hK.out _ _ hcvb (fun hSw => ?_)
    clear hK
    try simp only [Act.put, List.setIfInBounds_toArray, List.set_cons_zero, List.set_cons_succ]
    refine wpAnyH_done (by kernel_rfl) ?_ _
    go_wp2
    go_ret
    have hl := HLeb.out x n rfl
    exact ⟨by simp [hl], (HC5.out.drew).no hc6⟩
  · have hb : (ee != 0) = true := by simpa using hee
    rw [show rUint ⟨xs, 0⟩ = (0, ⟨xs, ee⟩) from by rw [HU.out, if_pos hee]] at hr5 ⊢
    have HR5 := Lib.hid hr5
    clear hr5 HU hee
    go_wp2_with (first | (go_at_call 21; refine (err_calls _ _ d _ HR5.out).mono ?_; rintro e w' ⟨rfl, rfl⟩))
    refine (left_calls _ _ d _ HR5.out).mono ?_
    rintro e w' ⟨rfl, rfl⟩
    simp only [HL.out]
    go_wp2
    go_ret
    exact ⟨rfl, HC5.out⟩
theorem octetOne_walk (w : World) (A0 : Option Addr) (n0 c0 : Nat) (xs : List UInt8) (hb : Bytes w (.slice A0 n0 c0) xs) (hl : xs.length = n0) (hn : n0 ≤ 140737488351232) :
    Calls Try.prog 4 #[.slice A0 n0 c0] w fun e w' => e = .returned (.bool true) ∧ Below w.heap.size w w' :=
  (octetOne_core w A0 n0 c0 xs hb hl hn).mono fun e w' h => ⟨h.1, h.2.below⟩
end Go.Proofs.Ytikfplfhndhjbaa
