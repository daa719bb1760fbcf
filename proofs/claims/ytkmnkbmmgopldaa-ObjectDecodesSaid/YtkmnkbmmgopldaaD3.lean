/-
  Decode of a commit.
-/
import Derived.Test.YtkmnkbmmgopldaaD2
import Derived.Deep.RegionHeld3
namespace Go.Proofs.Ytkmnkbmmgopldaa
open Go.RowKit
set_option linter.unusedVariables false
set_option linter.unusedSimpArgs false
set_option maxRecDepth 100000

theorem infoId : (Try.prog.info? 24).map (fun i => (i.zero, i.size, i.bytes)) = some (some (.int .u64 0), 1, 8) := by kernel_rfl
theorem wrap_sd (x : Nat) (h : x < 18446744073709551616) : IntKind.i64.wrap (x : Int) = sd x := by
  unfold sd
  simp [IntKind.wrap, IntKind.signed, IntKind.bits]
  split <;> omega
theorem readP_stop (k : Nat) (r : Rd) (acc : List Nat) (h : k = 0 ∨ r.err ≠ 0) : readP k r acc = (acc, r) := by
  cases k with
  | zero => rfl
  | succ k => rw [readP, if_pos (h.resolve_left (by omega))]
theorem readP_step (k : Nat) (r : Rd) (acc : List Nat) (hk : 0 < k) (h : r.err = 0) : readP k r acc = readP (k - 1) (rWord r).2 (acc ++ [(rWord r).1]) := by
  obtain ⟨m, rfl⟩ : ∃ m, k = m + 1 := ⟨k - 1, by omega⟩
  rw [readP, if_neg (by rw [h]; simp)]
  rfl
theorem rWord_step (r : Rd) (h : r.err = 0) : (rWord r).2.rest.length + (if (rWord r).2.err = 0 then 1 else 0) ≤ r.rest.length := by
  unfold rWord
  rw [if_neg (by rw [h]; simp)]
  split
  · simp
  · simp only [List.length_drop, if_true]; omega

theorem rText_rest2 (most : Int) (r : Rd) : (rText most r).2.rest.length ≤ r.rest.length := by
  by_cases h : r.err = 0
  · exact (rText_rest most r h).2
  · unfold rText
    rw [if_pos h]
    exact Nat.le_refl _
/-- What the loop of a commit holds. -/
structure CI (w wr : World) (g d gc t : Nat) (R : Rd) (acc : List Nat) : Prop where
  r : RdrAt wr g d R
  b : ∃ v, wr.heap[gc]? = some (.cells #[.int .u64 (t : Int), v, .string ⟨#[]⟩, .int .i64 0, .string ⟨#[]⟩] 27 (0, 0)) ∧ wr.ownsRow (g + 1) 24 1 v acc.length (acc.map u64v)
  c : Chg No w wr

set_option maxHeartbeats 6400000 in
theorem decode_commit (w : World) (A : Option Addr) (n c : Nat) (xs : List UInt8) (hb : Bytes w (.slice A n c) xs) (hl : xs.length = n) (hn : n ≤ 1000000) (h1 : (rByte ⟨xs, 0⟩).1 = 99) :
    Calls Try.prog 20 #[.slice A n c] w fun e w' => DecR w.heap.size w' e (decF xs) ∧ Chg No w w' := by
  obtain ⟨b0, t0, rfl, hR⟩ := rByte_zero (xs := xs) (by rw [h1]; decide)
  have hb98 : b0 = 99 := by rw [hR] at h1; exact h1
  subst hb98
  have HPF : Hid (preF (99 :: t0) = some (afterC (rWord ⟨t0, 0⟩) (readP (rUint (rWord ⟨t0, 0⟩).2).1 (rUint (rWord ⟨t0, 0⟩).2).2 []))) := by rw [Hid, preF, if_neg (by rw [h1]; decide), if_neg (by rw [h1]; decide), if_pos h1, hR]
  have ht0 : t0.length + 1 = n := by simp at hl; omega
  generalize hxs : (99 :: t0 : List UInt8) = xs at *
  have hxn : xs ≠ [] := by rw [← hxs]; simp
  have HR := Lib.hid hR
  clear hR hxs h1
  have HB := Lib.hid hb
  clear hb
  go_enter Try.func20, Try.ntmps20
  go_wp2_with fail
  refine (read_calls w A n c xs HB.out (by omega)).mono ?_
  rintro e w' ⟨w1, v, rfl, rfl, hown, hc⟩
  obtain ⟨d, hd, hr⟩ := RdrAt.made hown hc.size
  have hsz := hc.size
  have HC := Lib.hid ((hc.alloc (.cells #[.bool true, v, .int .i64 0] 118)))
  clear hown hc
  have hsz2 : (w1.alloc (.cells #[.bool true, v, .int .i64 0] 118)).heap.size = w1.heap.size + 1 := by simp
  generalize w1.alloc (.cells #[.bool true, v, .int .i64 0] 118) = w2 at *
  generalize w1.heap.size = g at *
  go_wp2_with fail
  refine (byte_calls w2 g d _ hr).mono ?_
  rintro e w3 ⟨rfl, hr3, hc3⟩
  have HC3 : Hid (Chg No w w3) := HC.out.one hc3 (.inl hsz)
  have hdg := hr.dg
  have hdl := hr.dlt hxn
  have hw2 := Lib.hid hsz2
  clear hc3 hr HC
  have hdlg : d < g := by have := hw2.out; omega
  rw [HR.out] at hr3 ⊢
  simp only [show ((99 : UInt8).toNat : Int) = 99 from rfl] at *
  have hg3 := hr3.lt
  have HR3 := Lib.hid hr3
  clear hr3 hdl hw2 hsz2
  go_wp2_with fail
  refine (word_calls w3 g d _ HR3.out).mono ?_
  rintro e w4 ⟨rfl, hr4, hc4⟩
  have hq := (rWord_rest ⟨t0, 0⟩).1
  simp only at hq
  generalize rWord ⟨t0, 0⟩ = TT at *
  obtain ⟨t, R4⟩ := TT
  simp only at hr4 hq HPF ⊢
  have HC4 : Hid (Chg No w w4) := HC3.out.one hc4 (.inl hsz)
  have hg4 := hr4.lt
  clear hc4
  go_wp2_with fail
  refine (uint_calls _ g d _ (hr4.no ((Chg.refl No w4).alloc _)) (by omega)).mono ?_
  rintro e w5 ⟨rfl, hr5, hc5⟩
  have hu := rUint_rest R4
  have hu2 := rUint_lt R4
  generalize rUint R4 = U at *
  obtain ⟨k0, R0⟩ := U
  simp only at hr5 hu hu2 HPF ⊢
  have hbx := hc5.heap (heap_alloc_new w4 (.cells #[.int .u64 (t : Int), .slice none 0 0, .string ⟨#[]⟩, .int .i64 0, .string ⟨#[]⟩] 27)) (by intro h; have h : w4.heap.size = g := h; omega)
  have HT4 : Hid (CI w w5 g d w4.heap.size t R0 []) := ⟨hr5, ⟨_, hbx, World.ownsRow_nil _ _ _ _⟩, (HC4.out.alloc _).one hc5 (.inl hsz)⟩
  have hgs : w4.heap.size < w5.heap.size := (Array.getElem?_eq_some_iff.1 hbx).1
  clear hr4 hr5 hc5 hbx HR3 HC3 HC4 hg3 HB
  generalize w4.heap.size = gc at *
  go_wp2
  go_loopw [10] (fun i wr => ∃ (k : Nat) (R : Rd) (acc : List Nat), i = .int .u64 (k : Int) ∧ k < 18446744073709551616 ∧ R.rest.length ≤ 1000000 ∧ acc.length + R.rest.length ≤ 1000000 + (if R.err = 0 then 0 else 1) ∧ gc < wr.heap.size ∧ Hid (preF xs = some (afterC (t, R4) (readP k R acc))) ∧ Hid (CI w wr g d gc t R acc)) (fun i _ => (intOf i).toNat)
  case atStart => exact ⟨k0, R0, [], rfl, hu2, by omega, by simp only [List.length_nil]; omega, hgs, HPF.out, HT4.out⟩
  case round =>
    clear HT4 hgs HPF hu hu2
    obtain ⟨k, R, acc, rfl, hk64, hr1, hr2, hgs, HP, HT⟩ := hrel
    obtain ⟨v5, hp5, ho5⟩ := HT.out.b
    obtain ⟨A5, c5, rfl⟩ := ownsRow_form ho5
    have HBLK : Hid (∀ q, (Value.slice A5 acc.length c5).ownBlock = some q → g + 1 ≤ q ∧ q < wr.heap.size) := World.ownsRow.lt ho5
    have HR5 := Lib.hid HT.out.r
    have HC5 := Lib.hid HT.out.c
    have HP5 := Lib.hid hp5
    have HO5 := Lib.hid ho5
    generalize hal : acc.length = al at *
    have hal' : al ≤ 1000001 := by split at hr2 <;> omega
    clear hp5 ho5 HT
    by_cases hstop : k = 0 ∨ R.err ≠ 0
    · have HP2 : Hid (preF xs = some (afterC (t, R4) (acc, R))) := by rw [Hid, HP.out, readP_stop k R acc hstop]
      by_cases hk0 : k = 0
      · subst hk0
        clear hstop HP
        have hx2 := rText_rest2 64 R
        have hx1 := rText_len 64 R
        have zf := frzAt HP5.out
        go_wp2_with fail
        refine (text_calls wr g d R 64 (by omega) HR5.out (by omega)).mono ?_
        rintro e w6 ⟨rfl, hr6, hc6⟩
        generalize hTa : rText 64 R = Ta at *
        obtain ⟨ta, R6⟩ := Ta
        simp only at hr6 hx1 hx2 ⊢
        have hp6 := hc6.heap HP5.out (by intro h; have h : gc = g := h; omega)
        have ho6 := ownsRow_chg HO5.out hc6 (fun q hq h => by have h : q = g := h; have := (HBLK.out q hq).1; omega)
        have hC6 := HC5.out.one hc6 (.inl hsz)
        have y2 := cellAt hp6 2 (.string ⟨#[]⟩) rfl
        have yf := frzAt hp6
        have hr6' := hr6.chg (Chg.put w6 gc 2 (.string (mkS ta))) (by intro h; have h : g = gc := h; omega) (by intro h; have h : d = gc := h; omega)
        have hp6' := heap_set hp6 2 (.string (mkS ta))
        have ho6' := ownsRow_chg ho6 (Chg.put w6 gc 2 (.string (mkS ta))) (fun q hq h => by
          have h : q = gc := h
          subst h
          obtain ⟨cc, fz, hcc⟩ := ownsRow_cells ho6 q hq
          have := hcc.symm.trans hp6
          simp only [Option.some.injEq, Obj.cells.injEq] at this
          exact absurd this.2.1 (by decide))
        have hC6' := hC6.one (Chg.put w6 gc 2 (.string (mkS ta))) (.inl (by omega))
        simp only [List.setIfInBounds_toArray, List.set_cons_succ, List.set_cons_zero] at hp6'
        have HR6 := Lib.hid hr6'
        have HP6 := Lib.hid hp6'
        have HO6 := Lib.hid ho6'
        have HC6 := Lib.hid hC6'
        clear hr6 hp6 ho6 hC6 hr6' hp6' ho6' hC6' hc6 zf HR5 HP5 HO5 HC5
        go_wp2_with fail
        clear y2 yf
        generalize w6.setCell ⟨gc, 2, none⟩ (.string (mkS ta)) = w7 at *
        refine (word_calls w7 g d R6 HR6.out).mono ?_
        rintro e w8 ⟨rfl, hr8, hc8⟩
        have hwl := rWord_lt R6
        have hx3 := (rWord_rest R6).1
        generalize hWd : rWord R6 = Wd at *
        obtain ⟨dw, R8⟩ := Wd
        simp only at hr8 hwl hx3 ⊢
        have hwd := wrap_sd dw hwl
        have hp8 := hc8.heap HP6.out (by intro h; have h : gc = g := h; omega)
        have ho8 := ownsRow_chg HO6.out hc8 (fun q hq h => by have h : q = g := h; have := (HBLK.out q hq).1; omega)
        have hC8 := HC6.out.one hc8 (.inl hsz)
        have y2 := cellAt hp8 3 (.int .i64 0) rfl
        have yf := frzAt hp8
        have hr8' := hr8.chg (Chg.put w8 gc 3 (.int .i64 (sd dw))) (by intro h; have h : g = gc := h; omega) (by intro h; have h : d = gc := h; omega)
        have hp8' := heap_set hp8 3 (.int .i64 (sd dw))
        have ho8' := ownsRow_chg ho8 (Chg.put w8 gc 3 (.int .i64 (sd dw))) (fun q hq h => by
          have h : q = gc := h
          subst h
          obtain ⟨cc, fz, hcc⟩ := ownsRow_cells ho8 q hq
          have := hcc.symm.trans hp8
          simp only [Option.some.injEq, Obj.cells.injEq] at this
          exact absurd this.2.1 (by decide))
        have hC8' := hC8.one (Chg.put w8 gc 3 (.int .i64 (sd dw))) (.inl (by omega))
        simp only [List.setIfInBounds_toArray, List.set_cons_succ, List.set_cons_zero] at hp8'
        have HR8 := Lib.hid hr8'
        have HP8 := Lib.hid hp8'
        have HO8 := Lib.hid ho8'
        have HC8 := Lib.hid hC8'
        clear hr8 hp8 ho8 hC8 hr8' hp8' ho8' hC8' hc8 HR6 HP6 HO6 HC6
        go_wp2_with fail
        clear y2 yf hwd
        generalize w8.setCell ⟨gc, 3, none⟩ (.int .i64 (sd dw)) = w9 at *
        have hy1 := rText_len 1024 R8
        refine (text_calls w9 g d R8 1024 (by omega) HR8.out (by omega)).mono ?_
        rintro e w10 ⟨rfl, hr10, hc10⟩
        generalize hTx : rText 1024 R8 = Tx at *
        obtain ⟨tx, R10⟩ := Tx
        simp only at hr10 hy1 ⊢
        have hp10 := hc10.heap HP8.out (by intro h; have h : gc = g := h; omega)
        have ho10 := ownsRow_chg HO8.out hc10 (fun q hq h => by have h : q = g := h; have := (HBLK.out q hq).1; omega)
        have hC10 := HC8.out.one hc10 (.inl hsz)
        have y0 := cellAt hp10 0 (.int .u64 (t : Int)) rfl
        have y1 := cellAt hp10 1 (.slice A5 al c5) rfl
        have y2 := cellAt hp10 2 (.string (mkS ta)) rfl
        have y3 := cellAt hp10 3 (.int .i64 (sd dw)) rfl
        have y4 := cellAt hp10 4 (.string ⟨#[]⟩) rfl
        have yf := frzAt hp10
        have hr10' := hr10.chg (Chg.put w10 gc 4 (.string (mkS tx))) (by intro h; have h : g = gc := h; omega) (by intro h; have h : d = gc := h; omega)
        have ho10' := ownsRow_chg ho10 (Chg.put w10 gc 4 (.string (mkS tx))) (fun q hq h => by
          have h : q = gc := h
          subst h
          obtain ⟨cc, fz, hcc⟩ := ownsRow_cells ho10 q hq
          have := hcc.symm.trans hp10
          simp only [Option.some.injEq, Obj.cells.injEq] at this
          exact absurd this.2.1 (by decide))
        have HR10 := Lib.hid hr10'
        have HC10 : Hid (Chg No w (w10.setCell ⟨gc, 4, none⟩ (.string (mkS tx)))) := hC10.one (Chg.put w10 gc 4 (.string (mkS tx))) (.inl (by omega))
        have hSL : Sl u64v (w10.setCell ⟨gc, 4, none⟩ (.string (mkS tx))) (.slice A5 al c5) acc := by
          have := Holds.ofOwn ho10'
          unfold Sl
          rw [hal]
          exact this
        have CK : Hid (∀ W, Chg No (w10.setCell ⟨gc, 4, none⟩ (.string (mkS tx))) W → Calls Try.prog 14 #[commitV (t : Int) (.slice A5 al c5) (mkS ta) (sd dw) (mkS tx)] W fun e w' => e = .returned (.int .i64 (commitF t acc ta tx : Nat)) ∧ Chg No W w') := by
          intro W hW
          have := check_commit W t A5 al c5 acc (mkS ta) (sd dw) (mkS tx) (hSL.no hW) (by omega) (by rw [mkS_size]; omega) (by rw [mkS_size]; omega)
          rw [mkS_list, mkS_list] at this
          exact this
        have HK : Hid (obCheck (.commit t acc ta (sd dw) tx) = (commitF t acc ta tx : Nat)) := rfl
        have HIS : Hid (∀ W, Chg No (w10.setCell ⟨gc, 4, none⟩ (.string (mkS tx))) W → IsOb W w.heap.size (commitV (t : Int) (.slice A5 al c5) (mkS ta) (sd dw) (mkS tx)) (.commit t acc ta (sd dw) tx)) := by
          intro W hW
          refine ⟨_, rfl, ?_⟩
          rw [hal]
          exact ownsRow_mono (ownsRow_chg ho10' hW (fun _ _ x => x)) (by omega)
        generalize ((commitF t acc ta tx : Nat) : Int) = K at *
        generalize ho : Ob.commit t acc ta (sd dw) tx = o at *
        have HPF : Hid (decF xs = if rEnd R10 = 0 ∧ obCheck o = 0 then some o else none) := by
          rw [Hid, decF, HP2.out, afterC]
          simp only [hTa, hWd, hTx, ho]
        clear HP2 ho hr10 hp10 ho10 hC10 hr10' ho10' hc10 HR8 HP8 HO8 HC8 hSL hTa hWd hTx
        go_wp2_with fail
        refine (end_calls _ g d R10 HR10.out).mono ?_
        rintro e w8 ⟨rfl, rfl⟩
        by_cases hend : rEnd R10 = 0
        · rw [hend]
          go_wp2_with fail
          refine (CK.out _ (Chg.refl _ _)).mono ?_
          rintro e w9 ⟨rfl, hc9⟩
          by_cases hck : K = 0
          · have HD : Hid (decF xs = some o) := by rw [Hid, HPF.out]; exact if_pos ⟨hend, (HK.out).trans hck⟩
            subst hck
            go_wp2
            go_ret2
            exact ⟨by rw [HD.out]; exact ⟨_, rfl, HIS.out _ hc9⟩, HC10.out.no hc9⟩
          · have HD : Hid (decF xs = none) := by rw [Hid, HPF.out]; exact if_neg (fun h => hck ((HK.out).symm.trans h.2))
            have bk : (K != 0) = true := by simpa using hck
            clear hck
            go_wp2
            go_ret2
            exact ⟨by rw [HD.out]; rfl, HC10.out.no hc9⟩
        · have HD : Hid (decF xs = none) := by rw [Hid, HPF.out]; exact if_neg (fun h => hend h.1)
          have bk : (rEnd R10 != 0) = true := by simpa using hend
          clear hend
          go_wp2
          go_ret2
          exact ⟨by rw [HD.out]; rfl, HC10.out⟩
      · have hk1 : (0 : Int) < (k : Int) := by omega
        have he : R.err ≠ 0 := hstop.resolve_left hk0
        have hbe : (R.err == 0) = false := by simpa using he
        clear hstop he hk0 HP
        go_wp2_with fail
        refine (err_calls wr g d R HR5.out).mono ?_
        rintro e w6 ⟨rfl, rfl⟩
        have hx2 := rText_rest2 64 R
        have hx1 := rText_len 64 R
        have zf := frzAt HP5.out
        go_wp2_with fail
        refine (text_calls wr g d R 64 (by omega) HR5.out (by omega)).mono ?_
        rintro e w6 ⟨rfl, hr6, hc6⟩
        generalize hTa : rText 64 R = Ta at *
        obtain ⟨ta, R6⟩ := Ta
        simp only at hr6 hx1 hx2 ⊢
        have hp6 := hc6.heap HP5.out (by intro h; have h : gc = g := h; omega)
        have ho6 := ownsRow_chg HO5.out hc6 (fun q hq h => by have h : q = g := h; have := (HBLK.out q hq).1; omega)
        have hC6 := HC5.out.one hc6 (.inl hsz)
        have y2 := cellAt hp6 2 (.string ⟨#[]⟩) rfl
        have yf := frzAt hp6
        have hr6' := hr6.chg (Chg.put w6 gc 2 (.string (mkS ta))) (by intro h; have h : g = gc := h; omega) (by intro h; have h : d = gc := h; omega)
        have hp6' := heap_set hp6 2 (.string (mkS ta))
        have ho6' := ownsRow_chg ho6 (Chg.put w6 gc 2 (.string (mkS ta))) (fun q hq h => by
          have h : q = gc := h
          subst h
          obtain ⟨cc, fz, hcc⟩ := ownsRow_cells ho6 q hq
          have := hcc.symm.trans hp6
          simp only [Option.some.injEq, Obj.cells.injEq] at this
          exact absurd this.2.1 (by decide))
        have hC6' := hC6.one (Chg.put w6 gc 2 (.string (mkS ta))) (.inl (by omega))
        simp only [List.setIfInBounds_toArray, List.set_cons_succ, List.set_cons_zero] at hp6'
        have HR6 := Lib.hid hr6'
        have HP6 := Lib.hid hp6'
        have HO6 := Lib.hid ho6'
        have HC6 := Lib.hid hC6'
        clear hr6 hp6 ho6 hC6 hr6' hp6' ho6' hC6' hc6 zf HR5 HP5 HO5 HC5
        go_wp2_with fail
        clear y2 yf
        generalize w6.setCell ⟨gc, 2, none⟩ (.string (mkS ta)) = w7 at *
        refine (word_calls w7 g d R6 HR6.out).mono ?_
        rintro e w8 ⟨rfl, hr8, hc8⟩
        have hwl := rWord_lt R6
        have hx3 := (rWord_rest R6).1
        generalize hWd : rWord R6 = Wd at *
        obtain ⟨dw, R8⟩ := Wd
        simp only at hr8 hwl hx3 ⊢
        have hwd := wrap_sd dw hwl
        have hp8 := hc8.heap HP6.out (by intro h; have h : gc = g := h; omega)
        have ho8 := ownsRow_chg HO6.out hc8 (fun q hq h => by have h : q = g := h; have := (HBLK.out q hq).1; omega)
        have hC8 := HC6.out.one hc8 (.inl hsz)
        have y2 := cellAt hp8 3 (.int .i64 0) rfl
        have yf := frzAt hp8
        have hr8' := hr8.chg (Chg.put w8 gc 3 (.int .i64 (sd dw))) (by intro h; have h : g = gc := h; omega) (by intro h; have h : d = gc := h; omega)
        have hp8' := heap_set hp8 3 (.int .i64 (sd dw))
        have ho8' := ownsRow_chg ho8 (Chg.put w8 gc 3 (.int .i64 (sd dw))) (fun q hq h => by
          have h : q = gc := h
          subst h
          obtain ⟨cc, fz, hcc⟩ := ownsRow_cells ho8 q hq
          have := hcc.symm.trans hp8
          simp only [Option.some.injEq, Obj.cells.injEq] at this
          exact absurd this.2.1 (by decide))
        have hC8' := hC8.one (Chg.put w8 gc 3 (.int .i64 (sd dw))) (.inl (by omega))
        simp only [List.setIfInBounds_toArray, List.set_cons_succ, List.set_cons_zero] at hp8'
        have HR8 := Lib.hid hr8'
        have HP8 := Lib.hid hp8'
        have HO8 := Lib.hid ho8'
        have HC8 := Lib.hid hC8'
        clear hr8 hp8 ho8 hC8 hr8' hp8' ho8' hC8' hc8 HR6 HP6 HO6 HC6
        go_wp2_with fail
        clear y2 yf hwd
        generalize w8.setCell ⟨gc, 3, none⟩ (.int .i64 (sd dw)) = w9 at *
        have hy1 := rText_len 1024 R8
        refine (text_calls w9 g d R8 1024 (by omega) HR8.out (by omega)).mono ?_
        rintro e w10 ⟨rfl, hr10, hc10⟩
        generalize hTx : rText 1024 R8 = Tx at *
        obtain ⟨tx, R10⟩ := Tx
        simp only at hr10 hy1 ⊢
        have hp10 := hc10.heap HP8.out (by intro h; have h : gc = g := h; omega)
        have ho10 := ownsRow_chg HO8.out hc10 (fun q hq h => by have h : q = g := h; have := (HBLK.out q hq).1; omega)
        have hC10 := HC8.out.one hc10 (.inl hsz)
        have y0 := cellAt hp10 0 (.int .u64 (t : Int)) rfl
        have y1 := cellAt hp10 1 (.slice A5 al c5) rfl
        have y2 := cellAt hp10 2 (.string (mkS ta)) rfl
        have y3 := cellAt hp10 3 (.int .i64 (sd dw)) rfl
        have y4 := cellAt hp10 4 (.string ⟨#[]⟩) rfl
        have yf := frzAt hp10
        have hr10' := hr10.chg (Chg.put w10 gc 4 (.string (mkS tx))) (by intro h; have h : g = gc := h; omega) (by intro h; have h : d = gc := h; omega)
        have ho10' := ownsRow_chg ho10 (Chg.put w10 gc 4 (.string (mkS tx))) (fun q hq h => by
          have h : q = gc := h
          subst h
          obtain ⟨cc, fz, hcc⟩ := ownsRow_cells ho10 q hq
          have := hcc.symm.trans hp10
          simp only [Option.some.injEq, Obj.cells.injEq] at this
          exact absurd this.2.1 (by decide))
        have HR10 := Lib.hid hr10'
        have HC10 : Hid (Chg No w (w10.setCell ⟨gc, 4, none⟩ (.string (mkS tx)))) := hC10.one (Chg.put w10 gc 4 (.string (mkS tx))) (.inl (by omega))
        have hSL : Sl u64v (w10.setCell ⟨gc, 4, none⟩ (.string (mkS tx))) (.slice A5 al c5) acc := by
          have := Holds.ofOwn ho10'
          unfold Sl
          rw [hal]
          exact this
        have CK : Hid (∀ W, Chg No (w10.setCell ⟨gc, 4, none⟩ (.string (mkS tx))) W → Calls Try.prog 14 #[commitV (t : Int) (.slice A5 al c5) (mkS ta) (sd dw) (mkS tx)] W fun e w' => e = .returned (.int .i64 (commitF t acc ta tx : Nat)) ∧ Chg No W w') := by
          intro W hW
          have := check_commit W t A5 al c5 acc (mkS ta) (sd dw) (mkS tx) (hSL.no hW) (by omega) (by rw [mkS_size]; omega) (by rw [mkS_size]; omega)
          rw [mkS_list, mkS_list] at this
          exact this
        have HK : Hid (obCheck (.commit t acc ta (sd dw) tx) = (commitF t acc ta tx : Nat)) := rfl
        have HIS : Hid (∀ W, Chg No (w10.setCell ⟨gc, 4, none⟩ (.string (mkS tx))) W → IsOb W w.heap.size (commitV (t : Int) (.slice A5 al c5) (mkS ta) (sd dw) (mkS tx)) (.commit t acc ta (sd dw) tx)) := by
          intro W hW
          refine ⟨_, rfl, ?_⟩
          rw [hal]
          exact ownsRow_mono (ownsRow_chg ho10' hW (fun _ _ x => x)) (by omega)
        generalize ((commitF t acc ta tx : Nat) : Int) = K at *
        generalize ho : Ob.commit t acc ta (sd dw) tx = o at *
        have HPF : Hid (decF xs = if rEnd R10 = 0 ∧ obCheck o = 0 then some o else none) := by
          rw [Hid, decF, HP2.out, afterC]
          simp only [hTa, hWd, hTx, ho]
        clear HP2 ho hr10 hp10 ho10 hC10 hr10' ho10' hc10 HR8 HP8 HO8 HC8 hSL hTa hWd hTx
        go_wp2_with fail
        refine (end_calls _ g d R10 HR10.out).mono ?_
        rintro e w8 ⟨rfl, rfl⟩
        by_cases hend : rEnd R10 = 0
        · rw [hend]
          go_wp2_with fail
          refine (CK.out _ (Chg.refl _ _)).mono ?_
          rintro e w9 ⟨rfl, hc9⟩
          by_cases hck : K = 0
          · have HD : Hid (decF xs = some o) := by rw [Hid, HPF.out]; exact if_pos ⟨hend, (HK.out).trans hck⟩
            subst hck
            go_wp2
            go_ret2
            exact ⟨by rw [HD.out]; exact ⟨_, rfl, HIS.out _ hc9⟩, HC10.out.no hc9⟩
          · have HD : Hid (decF xs = none) := by rw [Hid, HPF.out]; exact if_neg (fun h => hck ((HK.out).symm.trans h.2))
            have bk : (K != 0) = true := by simpa using hck
            clear hck
            go_wp2
            go_ret2
            exact ⟨by rw [HD.out]; rfl, HC10.out.no hc9⟩
        · have HD : Hid (decF xs = none) := by rw [Hid, HPF.out]; exact if_neg (fun h => hend h.1)
          have bk : (rEnd R10 != 0) = true := by simpa using hend
          clear hend
          go_wp2
          go_ret2
          exact ⟨by rw [HD.out]; rfl, HC10.out⟩
    · have hk1 : 0 < k := by omega
      have hk1i : (0 : Int) < (k : Int) := by omega
      have he : R.err = 0 := by
        rcases Classical.em (R.err = 0) with h | h
        · exact h
        · exact absurd (.inr h) hstop
      have hbe : (R.err == 0) = true := by simpa using he
      have hE := readP_step k R acc hk1 he
      have hRR := rWord_step R he
      rw [if_pos he] at hr2
      clear hstop he
      go_wp2_with fail
      refine (err_calls wr g d R HR5.out).mono ?_
      rintro e w4 ⟨rfl, rfl⟩
      generalize hW : rWord R = WD at *
      obtain ⟨id, R3⟩ := WD
      simp only at hE hRR
      have HE := Lib.hid hE
      have HRR := Lib.hid hRR
      have HAL := Lib.hid hal
      clear hE hRR hal
      have x0 := cellAt HP5.out 1 (.slice A5 al c5) rfl
      have hgcg : gc ≠ g := by omega
      go_wp2
      refine wp_region_held_drew (S := fun _ => True) (by kernel_rfl) trivial (fun hSw => ?_)
      refine wpAnyH_take (i := 0) (oi := { dst := some 73, op := Go.Op.fieldAddr 27 (Go.Operand.tmp 9) 1, type := 0, pos := "object.go:165", after := #[], guard := none }) (v := ?_) rfl (by kernel_rfl) (by kernel_rfl) (by kernel_rfl) (fun _ _ _ h => h) (Or.inl ⟨by rfl, ?_⟩) hSw ?_
      rotate_left
      · (intro W hW; (try dsimp only at hW); go_simp; try with_reducible rfl)
      try simp only [Act.put, List.setIfInBounds_toArray, List.set_cons_zero, List.set_cons_succ]
      refine wpAnyH_take (i := 2) (oi := { dst := some 75, op := Go.Op.move (Go.Operand.tmp 4), type := 88, pos := "object.go:165", after := #[], guard := none }) (v := ?_) rfl (by kernel_rfl) (by kernel_rfl) (by kernel_rfl) (fun _ _ _ h => h) (Or.inl ⟨by rfl, ?_⟩) hSw ?_
      rotate_left
      · (intro W hW; (try dsimp only at hW); go_simp; try with_reducible rfl)
      try simp only [Act.put, List.setIfInBounds_toArray, List.set_cons_zero, List.set_cons_succ]
      refine wpAnyH_ready (rs := [1, 3]) (by kernel_rfl) (by simp) ?_
      refine (AllReadyH.cons (o := { dst := some 74, op := Go.Op.load 25 (Go.Operand.tmp 73), type := 25, pos := "object.go:165", after := #[{ on := 0, ground := Go.Ground.data }], guard := none }) rfl (fun K hK => ?_) (AllReadyH.cons (o := { dst := some 76, op := Go.Op.call { callee := Go.Callee.value (Go.Operand.func 51), args := #[Go.Operand.tmp 75], argTypes := #[88] }, type := 23, pos := "object.go:165", after := #[{ on := 2, ground := Go.Ground.data }], guard := none }) rfl (fun K hK => ?_) AllReadyH.nil))
      · skip
        rw [if_pos (by rfl)]
        go_simp
        refine hK.out _ _ trivial (fun hSw => ?_)
        clear hK
        try simp only [Act.put, List.setIfInBounds_toArray, List.set_cons_zero, List.set_cons_succ]
        refine wpAnyH_ready (rs := [3]) (by kernel_rfl) (by simp) ?_
        refine (AllReadyH.cons (o := { dst := some 76, op := Go.Op.call { callee := Go.Callee.value (Go.Operand.func 51), args := #[Go.Operand.tmp 75], argTypes := #[88] }, type := 23, pos := "object.go:165", after := #[{ on := 2, ground := Go.Ground.data }], guard := none }) rfl (fun K hK => ?_) AllReadyH.nil)
        rw [if_pos (by rfl)]
        go_simp
        refine (word_calls _ g d R (HR5.out.no ((Chg.refl No wr).drew))).mono ?_
        rw [hW]
        rintro e w5 ⟨rfl, hr5, hc5⟩
        have HP6 := Lib.hid (hc5.heap (((Chg.refl No wr).drew).heap HP5.out (fun x => x)) (by intro h; have h : gc = g := h; omega))
        have HO6 := Lib.hid (ownsRow_chg (ownsRow_chg HO5.out ((Chg.refl No wr).drew) (fun _ _ x => x)) hc5 (fun q hq h => by have h : q = g := h; have := (HBLK.out q hq).1; omega))
        have HR6 := Lib.hid hr5
        have HC6 := Lib.hid ((HC5.out.drew).one hc5 (.inl hsz))
        have hsz6 : gc < w5.heap.size := (Array.getElem?_eq_some_iff.1 HP6.out).1
        clear hr5 hc5
        have u1 := cellAt HP6.out 1 (.slice A5 al c5) rfl
        refine hK.out _ _ trivial (fun hSw => ?_)
        clear hK
        try simp only [Act.put, List.setIfInBounds_toArray, List.set_cons_zero, List.set_cons_succ]
        refine wpAnyH_ready (rs := [4]) (by kernel_rfl) (by simp) ?_
        refine (AllReadyH.cons (o := { dst := some 77, op := Go.Op.buildSlice 25 1 #[(0, Go.Operand.tmp 76)], type := 25, pos := "object.go:165", after := #[{ on := 3, ground := Go.Ground.data }], guard := none }) rfl (fun K hK => ?_) AllReadyH.nil)
        rw [if_pos (by rfl)]
        go_simp
        have HP7 := Lib.hid (((Chg.refl No w5).alloc (.cells #[.int .u64 (id : Int)] 24)).heap HP6.out (fun x => x))
        have u2 := cellAt HP7.out 1 (.slice A5 al c5) rfl
        refine hK.out _ _ trivial (fun hSw => ?_)
        clear hK
        try simp only [Act.put, List.setIfInBounds_toArray, List.set_cons_zero, List.set_cons_succ]
        refine wpAnyH_ready (rs := [5]) (by kernel_rfl) (by simp) ?_
        refine (AllReadyH.cons (o := { dst := some 78, op := Go.Op.call { callee := Go.Callee.builtin Go.Builtin.append, args := #[Go.Operand.tmp 74, Go.Operand.tmp 77], argTypes := #[25, 25] }, type := 25, pos := "object.go:165", after := #[{ on := 1, ground := Go.Ground.data }, { on := 4, ground := Go.Ground.data }, { on := 3, ground := Go.Ground.chain }], guard := none }) rfl (fun K hK => ?_) AllReadyH.nil)
        rw [if_pos (by rfl)]
        refine wp_app2 (.tmp 74) (.tmp 77) 25 25 rfl (g + 1) 24 (.int .u64 0) 1 8 infoId Try.underlying25 rfl (by decide) (.slice A5 al c5) (.slice (some ⟨w5.heap.size, 0, none⟩) 1 1) al 1 (acc.map u64v) [u64v id] rfl rfl ?_ ?_ ?_ ?_ ?_ ?_
        · exact World.ownsRow.alloc HO6.out _
        · exact Src.one Try.underlying25 _ rfl
        · omega
        · unfold maxLen; omega
        · simp only [World.size_alloc]; omega
        intro v8 w8 hown8 hg8 hfrom8
        obtain ⟨A8, c8, rfl⟩ := ownsRow_form hown8
        have HP8 := Lib.hid (row_keep (World.ownsRow.alloc HO6.out (.cells #[.int .u64 (id : Int)] 24)) hg8 HP7.out (by decide))
        have u3 := cellAt HP8.out 1 (.slice A5 al c5) rfl
        have f3 := frzAt HP8.out 1
        refine hK.out _ _ trivial (fun hSw => ?_)
        clear hK
        try simp only [Act.put, List.setIfInBounds_toArray, List.set_cons_zero, List.set_cons_succ]
        refine wpAnyH_take (i := 6) (oi := { dst := some 79, op := Go.Op.fieldAddr 27 (Go.Operand.tmp 9) 1, type := 0, pos := "object.go:165", after := #[{ on := 0, ground := Go.Ground.phase }, { on := 1, ground := Go.Ground.phase }, { on := 2, ground := Go.Ground.phase }, { on := 3, ground := Go.Ground.phase }, { on := 4, ground := Go.Ground.phase }, { on := 5, ground := Go.Ground.phase }], guard := none }) (v := ?_) rfl (by kernel_rfl) (by kernel_rfl) (by kernel_rfl) (fun _ _ _ h => h) (Or.inl ⟨by rfl, ?_⟩) hSw ?_
        rotate_left
        · (intro W hW; (try dsimp only at hW); go_simp; try with_reducible rfl)
        try simp only [Act.put, List.setIfInBounds_toArray, List.set_cons_zero, List.set_cons_succ]
        refine wpAnyH_ready (rs := [7]) (by kernel_rfl) (by simp) ?_
        refine (AllReadyH.cons (o := { dst := none, op := Go.Op.store 25 (Go.Operand.tmp 79) (Go.Operand.tmp 78), type := 0, pos := "object.go:165", after := #[{ on := 6, ground := Go.Ground.data }, { on := 5, ground := Go.Ground.data }, { on := 5, ground := Go.Ground.chain }, { on := 0, ground := Go.Ground.phase }, { on := 1, ground := Go.Ground.phase }, { on := 2, ground := Go.Ground.phase }, { on := 3, ground := Go.Ground.phase }, { on := 4, ground := Go.Ground.phase }, { on := 5, ground := Go.Ground.phase }], guard := none }) rfl (fun K hK => ?_) AllReadyH.nil)
        rw [if_pos (by rfl)]
        go_simp
        refine hK.out _ _ trivial (fun hSw => ?_)
        clear hK
        try simp only [Act.put, List.setIfInBounds_toArray, List.set_cons_zero, List.set_cons_succ]
        refine wpAnyH_done (by kernel_rfl) ?_ _
        have hC9 := (HC6.out.alloc (.cells #[.int .u64 (id : Int)] 24)).grown hg8 (fun q hq => .inl (by have := (World.ownsRow.lt HO6.out q hq).1; omega))
        have hS : ∀ q, (Value.slice A5 al c5).ownBlock = some q → g + 1 ≤ q := fun q hq => (World.ownsRow.lt HO6.out q hq).1
        have hr9 := (HR6.out.no ((Chg.refl No w5).alloc (.cells #[.int .u64 (id : Int)] 24))).chg (Chg.ofGrown (S := fun k => (Value.slice A5 al c5).ownBlock = some k) hg8 (fun k hk => hk)) (fun h => by have := hS _ h; omega) (fun h => by have := hS _ h; omega)
        have hO9 := ownsRow_chg hown8 (Chg.put w8 gc 1 (.slice A8 (al + 1) c8)) (fun q hq h => by
          have h : q = gc := h
          subst h
          obtain ⟨cc, fz, hcc⟩ := ownsRow_cells hown8 q hq
          have := hcc.symm.trans HP8.out
          simp only [Option.some.injEq, Obj.cells.injEq] at this
          exact absurd this.2.1 (by decide))
        have hp9 := heap_set HP8.out 1 (.slice A8 (al + 1) c8)
        simp only [List.setIfInBounds_toArray, List.set_cons_succ, List.set_cons_zero] at hp9
        have HT9 : Hid (CI w (w8.setCell ⟨gc, 1, none⟩ (.slice A8 (al + 1) c8)) g d gc t R3 (acc ++ [id])) :=
          ⟨hr9.chg (Chg.put w8 gc 1 _) (by intro h; have h : g = gc := h; omega) (by intro h; have h : d = gc := h; omega), ⟨_, hp9, by rw [List.length_append, List.map_append, HAL.out]; exact hO9⟩, hC9.one (Chg.put w8 gc 1 _) (.inl (by omega))⟩
        have hgs9 : gc < (w8.setCell ⟨gc, 1, none⟩ (.slice A8 (al + 1) c8)).heap.size := (Array.getElem?_eq_some_iff.1 hp9).1
        have HCV : Hid (preF xs = some (afterC (t, R4) (readP (k - 1) R3 (acc ++ [id])))) := by rw [Hid, HP.out, HE.out]
        have hR3 : R3.rest.length ≤ R.rest.length := by have := HRR.out; omega
        clear hC9 hS hr9 hO9 hp9 hown8 hg8 hfrom8 u1 u2 u3 f3
        go_wp2
        go_roundw
        case rel => exact ⟨k - 1, R3, acc ++ [id], by first | rfl | (congr 1; omega) | (simp; omega), by omega, by omega, by rw [List.length_append, List.length_singleton, HAL.out]; have := HRR.out; split at this <;> split <;> first | omega | contradiction, hgs9, HCV.out, HT9.out⟩
        case measure => first | (simp [intOf]; omega) | omega
      · skip
        rw [if_pos (by rfl)]
        go_simp
        refine (word_calls _ g d R (HR5.out.no ((Chg.refl No wr).drew))).mono ?_
        rw [hW]
        rintro e w5 ⟨rfl, hr5, hc5⟩
        have HP6 := Lib.hid (hc5.heap (((Chg.refl No wr).drew).heap HP5.out (fun x => x)) (by intro h; have h : gc = g := h; omega))
        have HO6 := Lib.hid (ownsRow_chg (ownsRow_chg HO5.out ((Chg.refl No wr).drew) (fun _ _ x => x)) hc5 (fun q hq h => by have h : q = g := h; have := (HBLK.out q hq).1; omega))
        have HR6 := Lib.hid hr5
        have HC6 := Lib.hid ((HC5.out.drew).one hc5 (.inl hsz))
        have hsz6 : gc < w5.heap.size := (Array.getElem?_eq_some_iff.1 HP6.out).1
        clear hr5 hc5
        have u1 := cellAt HP6.out 1 (.slice A5 al c5) rfl
        refine hK.out _ _ trivial (fun hSw => ?_)
        clear hK
        try simp only [Act.put, List.setIfInBounds_toArray, List.set_cons_zero, List.set_cons_succ]
        refine wpAnyH_ready (rs := [1, 4]) (by kernel_rfl) (by simp) ?_
        refine (AllReadyH.cons (o := { dst := some 74, op := Go.Op.load 25 (Go.Operand.tmp 73), type := 25, pos := "object.go:165", after := #[{ on := 0, ground := Go.Ground.data }], guard := none }) rfl (fun K hK => ?_) (AllReadyH.cons (o := { dst := some 77, op := Go.Op.buildSlice 25 1 #[(0, Go.Operand.tmp 76)], type := 25, pos := "object.go:165", after := #[{ on := 3, ground := Go.Ground.data }], guard := none }) rfl (fun K hK => ?_) AllReadyH.nil))
        · skip
          rw [if_pos (by rfl)]
          go_simp
          refine hK.out _ _ trivial (fun hSw => ?_)
          clear hK
          try simp only [Act.put, List.setIfInBounds_toArray, List.set_cons_zero, List.set_cons_succ]
          refine wpAnyH_ready (rs := [4]) (by kernel_rfl) (by simp) ?_
          refine (AllReadyH.cons (o := { dst := some 77, op := Go.Op.buildSlice 25 1 #[(0, Go.Operand.tmp 76)], type := 25, pos := "object.go:165", after := #[{ on := 3, ground := Go.Ground.data }], guard := none }) rfl (fun K hK => ?_) AllReadyH.nil)
          rw [if_pos (by rfl)]
          go_simp
          have HP7 := Lib.hid (((Chg.refl No w5).alloc (.cells #[.int .u64 (id : Int)] 24)).heap HP6.out (fun x => x))
          have u2 := cellAt HP7.out 1 (.slice A5 al c5) rfl
          refine hK.out _ _ trivial (fun hSw => ?_)
          clear hK
          try simp only [Act.put, List.setIfInBounds_toArray, List.set_cons_zero, List.set_cons_succ]
          refine wpAnyH_ready (rs := [5]) (by kernel_rfl) (by simp) ?_
          refine (AllReadyH.cons (o := { dst := some 78, op := Go.Op.call { callee := Go.Callee.builtin Go.Builtin.append, args := #[Go.Operand.tmp 74, Go.Operand.tmp 77], argTypes := #[25, 25] }, type := 25, pos := "object.go:165", after := #[{ on := 1, ground := Go.Ground.data }, { on := 4, ground := Go.Ground.data }, { on := 3, ground := Go.Ground.chain }], guard := none }) rfl (fun K hK => ?_) AllReadyH.nil)
          rw [if_pos (by rfl)]
          refine wp_app2 (.tmp 74) (.tmp 77) 25 25 rfl (g + 1) 24 (.int .u64 0) 1 8 infoId Try.underlying25 rfl (by decide) (.slice A5 al c5) (.slice (some ⟨w5.heap.size, 0, none⟩) 1 1) al 1 (acc.map u64v) [u64v id] rfl rfl ?_ ?_ ?_ ?_ ?_ ?_
          · exact World.ownsRow.alloc HO6.out _
          · exact Src.one Try.underlying25 _ rfl
          · omega
          · unfold maxLen; omega
          · simp only [World.size_alloc]; omega
          intro v8 w8 hown8 hg8 hfrom8
          obtain ⟨A8, c8, rfl⟩ := ownsRow_form hown8
          have HP8 := Lib.hid (row_keep (World.ownsRow.alloc HO6.out (.cells #[.int .u64 (id : Int)] 24)) hg8 HP7.out (by decide))
          have u3 := cellAt HP8.out 1 (.slice A5 al c5) rfl
          have f3 := frzAt HP8.out 1
          refine hK.out _ _ trivial (fun hSw => ?_)
          clear hK
          try simp only [Act.put, List.setIfInBounds_toArray, List.set_cons_zero, List.set_cons_succ]
          refine wpAnyH_take (i := 6) (oi := { dst := some 79, op := Go.Op.fieldAddr 27 (Go.Operand.tmp 9) 1, type := 0, pos := "object.go:165", after := #[{ on := 0, ground := Go.Ground.phase }, { on := 1, ground := Go.Ground.phase }, { on := 2, ground := Go.Ground.phase }, { on := 3, ground := Go.Ground.phase }, { on := 4, ground := Go.Ground.phase }, { on := 5, ground := Go.Ground.phase }], guard := none }) (v := ?_) rfl (by kernel_rfl) (by kernel_rfl) (by kernel_rfl) (fun _ _ _ h => h) (Or.inl ⟨by rfl, ?_⟩) hSw ?_
          rotate_left
          · (intro W hW; (try dsimp only at hW); go_simp; try with_reducible rfl)
          try simp only [Act.put, List.setIfInBounds_toArray, List.set_cons_zero, List.set_cons_succ]
          refine wpAnyH_ready (rs := [7]) (by kernel_rfl) (by simp) ?_
          refine (AllReadyH.cons (o := { dst := none, op := Go.Op.store 25 (Go.Operand.tmp 79) (Go.Operand.tmp 78), type := 0, pos := "object.go:165", after := #[{ on := 6, ground := Go.Ground.data }, { on := 5, ground := Go.Ground.data }, { on := 5, ground := Go.Ground.chain }, { on := 0, ground := Go.Ground.phase }, { on := 1, ground := Go.Ground.phase }, { on := 2, ground := Go.Ground.phase }, { on := 3, ground := Go.Ground.phase }, { on := 4, ground := Go.Ground.phase }, { on := 5, ground := Go.Ground.phase }], guard := none }) rfl (fun K hK => ?_) AllReadyH.nil)
          rw [if_pos (by rfl)]
          go_simp
          refine hK.out _ _ trivial (fun hSw => ?_)
          clear hK
          try simp only [Act.put, List.setIfInBounds_toArray, List.set_cons_zero, List.set_cons_succ]
          refine wpAnyH_done (by kernel_rfl) ?_ _
          have hC9 := (HC6.out.alloc (.cells #[.int .u64 (id : Int)] 24)).grown hg8 (fun q hq => .inl (by have := (World.ownsRow.lt HO6.out q hq).1; omega))
          have hS : ∀ q, (Value.slice A5 al c5).ownBlock = some q → g + 1 ≤ q := fun q hq => (World.ownsRow.lt HO6.out q hq).1
          have hr9 := (HR6.out.no ((Chg.refl No w5).alloc (.cells #[.int .u64 (id : Int)] 24))).chg (Chg.ofGrown (S := fun k => (Value.slice A5 al c5).ownBlock = some k) hg8 (fun k hk => hk)) (fun h => by have := hS _ h; omega) (fun h => by have := hS _ h; omega)
          have hO9 := ownsRow_chg hown8 (Chg.put w8 gc 1 (.slice A8 (al + 1) c8)) (fun q hq h => by
            have h : q = gc := h
            subst h
            obtain ⟨cc, fz, hcc⟩ := ownsRow_cells hown8 q hq
            have := hcc.symm.trans HP8.out
            simp only [Option.some.injEq, Obj.cells.injEq] at this
            exact absurd this.2.1 (by decide))
          have hp9 := heap_set HP8.out 1 (.slice A8 (al + 1) c8)
          simp only [List.setIfInBounds_toArray, List.set_cons_succ, List.set_cons_zero] at hp9
          have HT9 : Hid (CI w (w8.setCell ⟨gc, 1, none⟩ (.slice A8 (al + 1) c8)) g d gc t R3 (acc ++ [id])) :=
            ⟨hr9.chg (Chg.put w8 gc 1 _) (by intro h; have h : g = gc := h; omega) (by intro h; have h : d = gc := h; omega), ⟨_, hp9, by rw [List.length_append, List.map_append, HAL.out]; exact hO9⟩, hC9.one (Chg.put w8 gc 1 _) (.inl (by omega))⟩
          have hgs9 : gc < (w8.setCell ⟨gc, 1, none⟩ (.slice A8 (al + 1) c8)).heap.size := (Array.getElem?_eq_some_iff.1 hp9).1
          have HCV : Hid (preF xs = some (afterC (t, R4) (readP (k - 1) R3 (acc ++ [id])))) := by rw [Hid, HP.out, HE.out]
          have hR3 : R3.rest.length ≤ R.rest.length := by have := HRR.out; omega
          clear hC9 hS hr9 hO9 hp9 hown8 hg8 hfrom8 u1 u2 u3 f3
          go_wp2
          go_roundw
          case rel => exact ⟨k - 1, R3, acc ++ [id], by first | rfl | (congr 1; omega) | (simp; omega), by omega, by omega, by rw [List.length_append, List.length_singleton, HAL.out]; have := HRR.out; split at this <;> split <;> first | omega | contradiction, hgs9, HCV.out, HT9.out⟩
          case measure => first | (simp [intOf]; omega) | omega
        · skip
          rw [if_pos (by rfl)]
          go_simp
          have HP7 := Lib.hid (((Chg.refl No w5).alloc (.cells #[.int .u64 (id : Int)] 24)).heap HP6.out (fun x => x))
          have u2 := cellAt HP7.out 1 (.slice A5 al c5) rfl
          refine hK.out _ _ trivial (fun hSw => ?_)
          clear hK
          try simp only [Act.put, List.setIfInBounds_toArray, List.set_cons_zero, List.set_cons_succ]
          refine wpAnyH_ready (rs := [1]) (by kernel_rfl) (by simp) ?_
          refine (AllReadyH.cons (o := { dst := some 74, op := Go.Op.load 25 (Go.Operand.tmp 73), type := 25, pos := "object.go:165", after := #[{ on := 0, ground := Go.Ground.data }], guard := none }) rfl (fun K hK => ?_) AllReadyH.nil)
          rw [if_pos (by rfl)]
          go_simp
          refine hK.out _ _ trivial (fun hSw => ?_)
          clear hK
          try simp only [Act.put, List.setIfInBounds_toArray, List.set_cons_zero, List.set_cons_succ]
          refine wpAnyH_ready (rs := [5]) (by kernel_rfl) (by simp) ?_
          refine (AllReadyH.cons (o := { dst := some 78, op := Go.Op.call { callee := Go.Callee.builtin Go.Builtin.append, args := #[Go.Operand.tmp 74, Go.Operand.tmp 77], argTypes := #[25, 25] }, type := 25, pos := "object.go:165", after := #[{ on := 1, ground := Go.Ground.data }, { on := 4, ground := Go.Ground.data }, { on := 3, ground := Go.Ground.chain }], guard := none }) rfl (fun K hK => ?_) AllReadyH.nil)
          rw [if_pos (by rfl)]
          refine wp_app2 (.tmp 74) (.tmp 77) 25 25 rfl (g + 1) 24 (.int .u64 0) 1 8 infoId Try.underlying25 rfl (by decide) (.slice A5 al c5) (.slice (some ⟨w5.heap.size, 0, none⟩) 1 1) al 1 (acc.map u64v) [u64v id] rfl rfl ?_ ?_ ?_ ?_ ?_ ?_
          · exact World.ownsRow.alloc HO6.out _
          · exact Src.one Try.underlying25 _ rfl
          · omega
          · unfold maxLen; omega
          · simp only [World.size_alloc]; omega
          intro v8 w8 hown8 hg8 hfrom8
          obtain ⟨A8, c8, rfl⟩ := ownsRow_form hown8
          have HP8 := Lib.hid (row_keep (World.ownsRow.alloc HO6.out (.cells #[.int .u64 (id : Int)] 24)) hg8 HP7.out (by decide))
          have u3 := cellAt HP8.out 1 (.slice A5 al c5) rfl
          have f3 := frzAt HP8.out 1
          refine hK.out _ _ trivial (fun hSw => ?_)
          clear hK
          try simp only [Act.put, List.setIfInBounds_toArray, List.set_cons_zero, List.set_cons_succ]
          refine wpAnyH_take (i := 6) (oi := { dst := some 79, op := Go.Op.fieldAddr 27 (Go.Operand.tmp 9) 1, type := 0, pos := "object.go:165", after := #[{ on := 0, ground := Go.Ground.phase }, { on := 1, ground := Go.Ground.phase }, { on := 2, ground := Go.Ground.phase }, { on := 3, ground := Go.Ground.phase }, { on := 4, ground := Go.Ground.phase }, { on := 5, ground := Go.Ground.phase }], guard := none }) (v := ?_) rfl (by kernel_rfl) (by kernel_rfl) (by kernel_rfl) (fun _ _ _ h => h) (Or.inl ⟨by rfl, ?_⟩) hSw ?_
          rotate_left
          · (intro W hW; (try dsimp only at hW); go_simp; try with_reducible rfl)
          try simp only [Act.put, List.setIfInBounds_toArray, List.set_cons_zero, List.set_cons_succ]
          refine wpAnyH_ready (rs := [7]) (by kernel_rfl) (by simp) ?_
          refine (AllReadyH.cons (o := { dst := none, op := Go.Op.store 25 (Go.Operand.tmp 79) (Go.Operand.tmp 78), type := 0, pos := "object.go:165", after := #[{ on := 6, ground := Go.Ground.data }, { on := 5, ground := Go.Ground.data }, { on := 5, ground := Go.Ground.chain }, { on := 0, ground := Go.Ground.phase }, { on := 1, ground := Go.Ground.phase }, { on := 2, ground := Go.Ground.phase }, { on := 3, ground := Go.Ground.phase }, { on := 4, ground := Go.Ground.phase }, { on := 5, ground := Go.Ground.phase }], guard := none }) rfl (fun K hK => ?_) AllReadyH.nil)
          rw [if_pos (by rfl)]
          go_simp
          refine hK.out _ _ trivial (fun hSw => ?_)
          clear hK
          try simp only [Act.put, List.setIfInBounds_toArray, List.set_cons_zero, List.set_cons_succ]
          refine wpAnyH_done (by kernel_rfl) ?_ _
          have hC9 := (HC6.out.alloc (.cells #[.int .u64 (id : Int)] 24)).grown hg8 (fun q hq => .inl (by have := (World.ownsRow.lt HO6.out q hq).1; omega))
          have hS : ∀ q, (Value.slice A5 al c5).ownBlock = some q → g + 1 ≤ q := fun q hq => (World.ownsRow.lt HO6.out q hq).1
          have hr9 := (HR6.out.no ((Chg.refl No w5).alloc (.cells #[.int .u64 (id : Int)] 24))).chg (Chg.ofGrown (S := fun k => (Value.slice A5 al c5).ownBlock = some k) hg8 (fun k hk => hk)) (fun h => by have := hS _ h; omega) (fun h => by have := hS _ h; omega)
          have hO9 := ownsRow_chg hown8 (Chg.put w8 gc 1 (.slice A8 (al + 1) c8)) (fun q hq h => by
            have h : q = gc := h
            subst h
            obtain ⟨cc, fz, hcc⟩ := ownsRow_cells hown8 q hq
            have := hcc.symm.trans HP8.out
            simp only [Option.some.injEq, Obj.cells.injEq] at this
            exact absurd this.2.1 (by decide))
          have hp9 := heap_set HP8.out 1 (.slice A8 (al + 1) c8)
          simp only [List.setIfInBounds_toArray, List.set_cons_succ, List.set_cons_zero] at hp9
          have HT9 : Hid (CI w (w8.setCell ⟨gc, 1, none⟩ (.slice A8 (al + 1) c8)) g d gc t R3 (acc ++ [id])) :=
            ⟨hr9.chg (Chg.put w8 gc 1 _) (by intro h; have h : g = gc := h; omega) (by intro h; have h : d = gc := h; omega), ⟨_, hp9, by rw [List.length_append, List.map_append, HAL.out]; exact hO9⟩, hC9.one (Chg.put w8 gc 1 _) (.inl (by omega))⟩
          have hgs9 : gc < (w8.setCell ⟨gc, 1, none⟩ (.slice A8 (al + 1) c8)).heap.size := (Array.getElem?_eq_some_iff.1 hp9).1
          have HCV : Hid (preF xs = some (afterC (t, R4) (readP (k - 1) R3 (acc ++ [id])))) := by rw [Hid, HP.out, HE.out]
          have hR3 : R3.rest.length ≤ R.rest.length := by have := HRR.out; omega
          clear hC9 hS hr9 hO9 hp9 hown8 hg8 hfrom8 u1 u2 u3 f3
          go_wp2
          go_roundw
          case rel => exact ⟨k - 1, R3, acc ++ [id], by first | rfl | (congr 1; omega) | (simp; omega), by omega, by omega, by rw [List.length_append, List.length_singleton, HAL.out]; have := HRR.out; split at this <;> split <;> first | omega | contradiction, hgs9, HCV.out, HT9.out⟩
          case measure => first | (simp [intOf]; omega) | omega
end Go.Proofs.Ytkmnkbmmgopldaa

