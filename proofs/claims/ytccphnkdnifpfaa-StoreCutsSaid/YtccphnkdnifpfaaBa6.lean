/-
  D2, D3, S2: in one text.
-/
import Derived.Test.YtccphnkdnifpfaaBa5
import Derived.Deep.RegionHeld3
namespace Go.Proofs.Ytccphnkdnifpfaa
set_option linter.unnecessarySimpa false
open Go.RowKit
set_option linter.unusedVariables false
set_option linter.unusedSimpArgs false
set_option maxRecDepth 100000

theorem RdrAt.dlt {w : World} {g d : Nat} {r : Rd} (h : RdrAt w g d r) (hne : r.rest ≠ []) : d < w.heap.size := by
  obtain ⟨A, c, h1, h2, h3, h4⟩ := h
  obtain ⟨b, o, rfl, hc⟩ := h2.addr (List.length_pos_iff.2 hne)
  have := h3 _ rfl
  subst this
  exact World.block_lt_of_cell? w _ (hc 0 (List.length_pos_iff.2 hne))
theorem RdrAt.dg {w : World} {g d : Nat} {r : Rd} (h : RdrAt w g d r) : d ≠ g := by
  obtain ⟨A, c, h1, h2, h3, h4⟩ := h
  exact h4
theorem heap_set {w : World} {g : Nat} {cs : Array Value} {t : TypeId} {fz : Nat × Nat} (h : w.heap[g]? = some (.cells cs t fz)) (i : Nat) (u : Value) : (w.setCell ⟨g, i, none⟩ u).heap[g]? = some (.cells (cs.setIfInBounds i u) t fz) := by
  unfold World.setCell
  simp [Array.getElem?_modify, h]
/-- A row's block and a block of another type: what an append leaves. -/
theorem row_keep {w w' : World} {base g size n : Nat} {e t : TypeId} {v : Value} {xs : List Value} {cs : Array Value} (ho : w.ownsRow base e size v n xs) (hg : w.grownBy w' v.ownBlock) (h : w.heap[g]? = some (.cells cs t (0, 0))) (ht : t ≠ e) : w'.heap[g]? = some (.cells cs t (0, 0)) := by
  refine (Chg.ofGrown (S := fun k => v.ownBlock = some k) hg (fun k hk => hk)).heap h (fun hx => ?_)
  obtain ⟨c, fz, hc⟩ := ownsRow_cells ho g hx
  rw [h] at hc
  simp only [Option.some.injEq, Obj.cells.injEq] at hc
  exact ht hc.2.1
theorem rText_rest (most : Int) (r : Rd) (h : r.err = 0) : ((rText most r).2.err = 0 → (rText most r).2.rest.length < r.rest.length) ∧ (rText most r).2.rest.length ≤ r.rest.length := by
  obtain ⟨xs, e⟩ := r
  simp only at h
  subst h
  have hF := numF_at xs
  unfold rText
  simp only [ne_eq, not_true_eq_false, if_false]
  split
  · exact ⟨fun h => by simp at h, Nat.le_refl _⟩
  · split
    · rename_i h1 h2
      exact ⟨fun h => absurd h h2, Nat.le_refl _⟩
    · split
      · exact ⟨fun h => by simp at h, Nat.le_refl _⟩
      · split
        · exact ⟨fun h => by simp at h, Nat.le_refl _⟩
        · rename_i h1 h2 h3 h4
          have h2' : (numF 0 0 xs).2.2 = 0 := by simpa using h2
          have := hF.2.2.2.2 h2'
          have h5 := hF.1
          refine ⟨fun _ => ?_, ?_⟩ <;> simp only [List.length_drop] <;> omega
theorem rByte_rest (r : Rd) : (rByte r).2.rest.length ≤ r.rest.length ∧ (r.err ≠ 0 → rByte r = (0, r)) := by
  unfold rByte
  split
  · exact ⟨Nat.le_refl _, fun _ => rfl⟩
  · rename_i h
    refine ⟨?_, fun h' => absurd h' h⟩
    split
    · simp
    · rename_i e; rw [e]; simp
theorem rWord_rest (r : Rd) : (rWord r).2.rest.length ≤ r.rest.length ∧ (r.err ≠ 0 → (rWord r).2 = r) := by
  unfold rWord
  split
  · exact ⟨Nat.le_refl _, fun _ => rfl⟩
  · rename_i h
    refine ⟨?_, fun h' => absurd h' h⟩
    split
    · exact Nat.le_refl _
    · simp only [List.length_drop]; omega
theorem rUint_rest (r : Rd) : (rUint r).2.rest.length ≤ r.rest.length := by
  unfold rUint
  split
  · exact Nat.le_refl _
  · split
    · exact Nat.le_refl _
    · simp only [List.length_drop]; omega
theorem rWord_lt (r : Rd) : (rWord r).1 < 18446744073709551616 := by
  unfold rWord
  split
  · exact (by decide : 0 < 18446744073709551616)
  · split
    · exact (by decide : 0 < 18446744073709551616)
    · rename_i h1 h2
      exact beF8_lt _ (by rw [List.length_take]; omega)
/-- A round's reads: what is left. -/
theorem round_rest (r : Rd) (h : r.err = 0) : (rWord (rByte (rText 32 r).2).2).2.rest.length + (if (rWord (rByte (rText 32 r).2).2).2.err = 0 then 1 else 0) ≤ r.rest.length := by
  obtain ⟨h1, h2⟩ := rText_rest 32 r h
  have h3 := rByte_rest (rText 32 r).2
  have h4 := rWord_rest (rByte (rText 32 r).2).2
  by_cases he : (rText 32 r).2.err = 0
  · have := h1 he
    split <;> omega
  · have e1 := h3.2 he
    have e2 : (rWord (rByte (rText 32 r).2).2).2 = (rText 32 r).2 := by
      rw [e1]
      exact (rWord_rest _).2 he
    rw [e2, if_neg he]
    omega
theorem infoEnt : (Try.prog.info? 130).map (fun i => (i.zero, i.size, i.bytes)) = some (some (.agg #[.string ⟨#[]⟩, .bool false, .int .u64 0]), 3, 32) := by kernel_rfl
theorem Src.entry {P : Program} {W : World} {tx e' t : TypeId} {g : Nat} (hk : P.underlying tx = some (.slice e')) (x : Ent) (hg : W.heap[g]? = some (.cells #[.string x.1, .bool x.2.1, .int .u64 (x.2.2 : Int)] t (0, 0))) :
    Src P 3 tx (.slice (some ⟨g, 0, none⟩) 1 1) 1 (encE x) W :=
  Src.ofSlice _ hk _ _ _ (encE x) (by simp [encE]) (fun i v hj => by
    rw [Addr.add_lit, Nat.zero_add]
    match i, hj with
    | 0, hj => simpa [World.cell?, hg, encE] using hj
    | 1, hj => simpa [World.cell?, hg, encE] using hj
    | 2, hj => simpa [World.cell?, hg, encE] using hj
    | i + 3, hj => simp [encE] at hj) (fun v hv => by
      simp only [encE, List.mem_cons, List.not_mem_nil, or_false] at hv
      rcases hv with rfl | rfl | rfl <;> rfl)
theorem readE_stop (k : Nat) (r : Rd) (acc : List Ent) (h : k = 0 ∨ r.err ≠ 0) : readE k r acc = (some acc, r) := by
  cases k with
  | zero => rfl
  | succ k => rw [readE, if_pos (h.resolve_left (by omega))]

theorem readE_step (k : Nat) (r : Rd) (acc : List Ent) (hk : 0 < k) (h : r.err = 0) : readE k r acc = if (rByte (rText 32 r).2).1 ≠ 0 ∧ (rByte (rText 32 r).2).1 ≠ 1 then (none, (rByte (rText 32 r).2).2)
    else readE (k - 1) (rWord (rByte (rText 32 r).2).2).2 (acc ++ [(mkS (rText 32 r).1, (rByte (rText 32 r).2).1 == 1, (rWord (rByte (rText 32 r).2).2).1)]) := by
  obtain ⟨m, rfl⟩ : ∃ m, k = m + 1 := ⟨k - 1, by omega⟩
  rw [readE, if_neg (by rw [h]; simp)]
  rfl
theorem ownsRow_mono {w : World} {base base' size n : Nat} {e : TypeId} {v : Value} {xs : List Value} (h : w.ownsRow base e size v n xs) (hb : base' ≤ base) : w.ownsRow base' e size v n xs := by
  obtain ⟨h1, h2⟩ := h
  refine ⟨h1, h2.imp id ?_⟩
  rintro ⟨g, cap, cur, hv, hg, r⟩
  exact ⟨g, cap, cur, hv, Nat.le_trans hb hg, r⟩
theorem rText_len (most : Int) (r : Rd) : (rText most r).1.length ≤ r.rest.length := by
  unfold rText
  split
  · exact Nat.zero_le _
  · split
    · exact Nat.zero_le _
    · split
      · exact Nat.zero_le _
      · split
        · exact Nat.zero_le _
        · split
          · exact Nat.zero_le _
          · simp only [List.length_take, List.length_drop]; omega
theorem rUint_lt (r : Rd) : (rUint r).1 < 18446744073709551616 := by
  unfold rUint
  split
  · exact (by decide : 0 < 18446744073709551616)
  · split
    · exact (by decide : 0 < 18446744073709551616)
    · exact (numF_at r.rest).2.1
/-- What the loop of a tree holds. -/
structure TI (w wr : World) (g d gt : Nat) (R : Rd) (acc : List Ent) : Prop where
  r : RdrAt wr g d R
  b : ∃ v, Box 55 wr gt v ∧ wr.ownsRow (g + 1) 130 3 v acc.length (acc.flatMap encE)
  c : Chg No w wr
  s : ∀ x ∈ acc, x.1.size ≤ 9223372036854775807

set_option maxHeartbeats 6400000 in
theorem decode_tree (w : World) (A : Option Addr) (n c : Nat) (xs : List UInt8) (hb : Bytes w (.slice A n c) xs) (hl : xs.length = n) (hn : n ≤ 1000000) (h1 : (rByte ⟨xs, 0⟩).1 = 116) :
    Calls Try.prog 34 #[.slice A n c] w fun e w' => DecR w.heap.size w' e (decF xs) ∧ Chg No w w' := by
  obtain ⟨b0, t0, rfl, hR⟩ := rByte_zero (xs := xs) (by rw [h1]; decide)
  have hb98 : b0 = 116 := by rw [hR] at h1; exact h1
  subst hb98
  have HPF : Hid (preF (116 :: t0) = (readE (rUint ⟨t0, 0⟩).1 (rUint ⟨t0, 0⟩).2 []).1.map (fun l => (.tree l, (readE (rUint ⟨t0, 0⟩).1 (rUint ⟨t0, 0⟩).2 []).2))) := by rw [Hid, preF, if_neg (by rw [h1]; decide), if_pos h1, hR]
  have ht0 : t0.length + 1 = n := by simp at hl; omega
  generalize hxs : (116 :: t0 : List UInt8) = xs at *
  have hxn : xs ≠ [] := by rw [← hxs]; simp
  have HR := Lib.hid hR
  clear hR hxs h1
  have HB := Lib.hid hb
  clear hb
  go_enter Try.func34, Try.ntmps34
  go_wp2_with fail
  refine (read_calls w A n c xs HB.out (by omega)).mono ?_
  rintro e w' ⟨w1, v, rfl, rfl, hown, hc⟩
  obtain ⟨d, hd, hr⟩ := RdrAt.made hown hc.size
  have hsz := hc.size
  have HC := Lib.hid ((hc.alloc (.cells #[.bool true, v, .int .i64 0] 141)))
  clear hown hc
  have hsz2 : (w1.alloc (.cells #[.bool true, v, .int .i64 0] 141)).heap.size = w1.heap.size + 1 := by simp
  generalize w1.alloc (.cells #[.bool true, v, .int .i64 0] 141) = w2 at *
  generalize w1.heap.size = g at *
  go_wp2_with fail
  refine (byte_calls w2 g d _ hr).mono ?_
  rintro e w3 ⟨rfl, hr3, hc3⟩
  have HC3 : Hid (Chg No w w3) := HC.out.one hc3 (.inl hsz)
  have hdg := hr.dg
  have hdl := hr.dlt hxn
  have hw2 := Lib.hid hsz2
  clear hc3 hr HC
  have hdlg : d < g := by have := hw2.out; omega
  rw [HR.out] at hr3 ⊢
  simp only [show ((116 : UInt8).toNat : Int) = 116 from rfl] at *
  have hg3 := hr3.lt
  have HR3 := Lib.hid hr3
  clear hr3 hdl hw2 hsz2
  go_wp2_with fail
  refine (uint_calls _ g d _ (HR3.out.no ((Chg.refl No w3).alloc _)) (by simp only; omega)).mono ?_
  rintro e w4 ⟨rfl, hr4, hc4⟩
  have hu := rUint_rest ⟨t0, 0⟩
  have hu2 := rUint_lt ⟨t0, 0⟩
  simp only at hu hu2
  generalize rUint ⟨t0, 0⟩ = U at *
  obtain ⟨k0, R0⟩ := U
  simp only at hr4 hu hu2 HPF ⊢
  have hgt : g < w3.heap.size := hg3
  have hbx : Box 55 w4 w3.heap.size (.slice none 0 0) := hc4.heap (Box.new w3 (.slice none 0 0) 55) (by intro h; have h : w3.heap.size = g := h; omega)
  have HT4 : Hid (TI w w4 g d w3.heap.size R0 []) := ⟨hr4, ⟨_, hbx, World.ownsRow_nil _ _ _ _⟩, (HC3.out.alloc _).one hc4 (.inl hsz), fun x hx => by cases hx⟩
  have hgs : w3.heap.size < w4.heap.size := hbx.lt
  clear hr4 hc4 hbx HR3 HC3 hg3 HB
  generalize w3.heap.size = gt at *
  go_wp2
  go_loopw [7] (fun i wr => ∃ (k : Nat) (R : Rd) (acc : List Ent), i = .int .u64 (k : Int) ∧ k < 18446744073709551616 ∧ R.rest.length ≤ 1000000 ∧ acc.length + R.rest.length ≤ 1000000 + (if R.err = 0 then 0 else 1) ∧ gt < wr.heap.size ∧ Hid (preF xs = (readE k R acc).1.map (fun l => (.tree l, (readE k R acc).2))) ∧ Hid (TI w wr g d gt R acc)) (fun i _ => (intOf i).toNat)
  case atStart => exact ⟨k0, R0, [], rfl, hu2, by omega, by simp only [List.length_nil]; omega, hgs, HPF.out, HT4.out⟩
  case round =>
    clear HT4 hgs HPF hu hu2
    obtain ⟨k, R, acc, rfl, hk64, hr1, hr2, hgs, HP, HT⟩ := hrel
    by_cases hstop : k = 0 ∨ R.err ≠ 0
    · have HP2 : Hid (preF xs = some (.tree acc, R)) := by rw [Hid, HP.out, readE_stop k R acc hstop]; rfl
      obtain ⟨v5, hb5, ho5⟩ := HT.out.b
      obtain ⟨A5, c5, rfl⟩ := ownsRow_form ho5
      have HO5 := Lib.hid ho5
      have HR5 := Lib.hid HT.out.r
      have HC5 := Lib.hid HT.out.c
      have y1 := hb5.c
      have hES : Es wr (.slice A5 acc.length c5) acc := Holds.ofOwn ho5
      have CK : Hid (∀ W, Chg No wr W → Calls Try.prog 70 #[treeV (.slice A5 acc.length c5)] W fun e w' => e = .returned (.int .i64 (treeF acc)) ∧ Chg No W w') := fun W hW => check_tree W A5 acc.length c5 acc (hES.no hW) HT.out.s
      have HK : Hid (obCheck (.tree acc) = treeF acc) := rfl
      have hsb : w.heap.size ≤ g + 1 := by omega
      generalize treeF acc = K at *
      generalize hal : acc.length = al at *
      generalize ho : Ob.tree acc = o at *
      have HO := Lib.hid ho
      have HPF : Hid (decF xs = if rEnd R = 0 ∧ obCheck o = 0 then some o else none) := by rw [Hid, decF, HP2.out, ← ho]
      clear hES hb5 ho5 HP HP2 HT ho
      have HIS : Hid (∀ W, Chg No wr W → IsOb W w.heap.size (treeV (.slice A5 al c5)) o) := by
        intro W hW
        rw [← HO.out]
        refine ⟨_, rfl, ?_⟩
        rw [hal]
        exact ownsRow_mono (ownsRow_chg HO5.out hW (fun _ _ x => x)) hsb
      clear HO5 HO
      by_cases hk0 : k = 0
      · subst hk0
        clear hstop
        go_wp2_with fail
        refine (end_calls _ g d R HR5.out).mono ?_
        rintro e w8 ⟨rfl, rfl⟩
        by_cases hend : rEnd R = 0
        · rw [hend]
          go_wp2_with fail
          refine (CK.out _ (Chg.refl _ _)).mono ?_
          rintro e w9 ⟨rfl, hc9⟩
          by_cases hck : K = 0
          · have HD : Hid (decF xs = some o) := by rw [Hid, HPF.out]; exact if_pos ⟨hend, (HK.out).trans hck⟩
            subst hck
            go_wp2
            go_ret2
            exact ⟨by rw [HD.out]; exact ⟨_, rfl, HIS.out _ hc9⟩, HC5.out.no hc9⟩
          · have HD : Hid (decF xs = none) := by rw [Hid, HPF.out]; exact if_neg (fun h => hck ((HK.out).symm.trans h.2))
            have bk : (K != 0) = true := by simpa using hck
            clear hck
            go_wp2
            go_ret2
            exact ⟨by rw [HD.out]; rfl, HC5.out.no hc9⟩
        · have HD : Hid (decF xs = none) := by rw [Hid, HPF.out]; exact if_neg (fun h => hend h.1)
          have bk : (rEnd R != 0) = true := by simpa using hend
          clear hend
          go_wp2
          go_ret2
          exact ⟨by rw [HD.out]; rfl, HC5.out⟩
      · have hk1 : (0 : Int) < (k : Int) := by omega
        have he : R.err ≠ 0 := hstop.resolve_left hk0
        have hbe : (R.err == 0) = false := by simpa using he
        clear hstop he hk0
        go_wp2_with fail
        refine (err_calls wr g d R HR5.out).mono ?_
        rintro e w6 ⟨rfl, rfl⟩
        go_wp2_with fail
        refine (end_calls _ g d R HR5.out).mono ?_
        rintro e w8 ⟨rfl, rfl⟩
        by_cases hend : rEnd R = 0
        · rw [hend]
          go_wp2_with fail
          refine (CK.out _ (Chg.refl _ _)).mono ?_
          rintro e w9 ⟨rfl, hc9⟩
          by_cases hck : K = 0
          · have HD : Hid (decF xs = some o) := by rw [Hid, HPF.out]; exact if_pos ⟨hend, (HK.out).trans hck⟩
            subst hck
            go_wp2
            go_ret2
            exact ⟨by rw [HD.out]; exact ⟨_, rfl, HIS.out _ hc9⟩, HC5.out.no hc9⟩
          · have HD : Hid (decF xs = none) := by rw [Hid, HPF.out]; exact if_neg (fun h => hck ((HK.out).symm.trans h.2))
            have bk : (K != 0) = true := by simpa using hck
            clear hck
            go_wp2
            go_ret2
            exact ⟨by rw [HD.out]; rfl, HC5.out.no hc9⟩
        · have HD : Hid (decF xs = none) := by rw [Hid, HPF.out]; exact if_neg (fun h => hend h.1)
          have bk : (rEnd R != 0) = true := by simpa using hend
          clear hend
          go_wp2
          go_ret2
          exact ⟨by rw [HD.out]; rfl, HC5.out⟩
    · have hk1 : 0 < k := by omega
      have hk1i : (0 : Int) < (k : Int) := by omega
      have he : R.err = 0 := by
        rcases Classical.em (R.err = 0) with h | h
        · exact h
        · exact absurd (.inr h) hstop
      have hbe : (R.err == 0) = true := by simpa using he
      have hE := readE_step k R acc hk1 he
      have hRR := round_rest R he
      have hnm := rText_len 32 R
      rw [if_pos he] at hr2
      clear hstop he
      obtain ⟨v5, hb5, ho5⟩ := HT.out.b
      obtain ⟨A5, c5, rfl⟩ := ownsRow_form ho5
      have HS := Lib.hid HT.out.s
      have hC5 := HT.out.c
      have hr5 := HT.out.r
      clear HT
      go_wp2_with fail
      refine (err_calls wr g d R hr5).mono ?_
      rintro e w4 ⟨rfl, rfl⟩
      go_wp2_with fail
      refine (text_calls wr g d R 32 (by omega) hr5 (by omega)).mono ?_
      rintro e w5 ⟨rfl, hr5, hc5⟩
      generalize hT : rText 32 R = T at *
      obtain ⟨nm, R1⟩ := T
      simp only at hr5 hE hRR hnm ⊢
      have hx5 := heap_alloc_new w5 (.cells #[.string (mkS nm), .bool false, .int .u64 0] 130)
      have hgw5 : gt < w5.heap.size := Nat.lt_of_lt_of_le hgs hc5.size
      have hb5 := hb5.chg hc5 (by intro h; have h : gt = g := h; omega)
      have hblk0 := World.ownsRow.lt ho5
      have ho5 := ownsRow_chg ho5 hc5 (fun q hq h => by have h : q = g := h; have := (hblk0 q hq).1; omega)
      have hC5 := hC5.one hc5 (.inl hsz)
      have HBLK : Hid (∀ q, (Value.slice A5 acc.length c5).ownBlock = some q → g + 1 ≤ q ∧ q < w5.heap.size) := World.ownsRow.lt ho5
      clear hc5 hblk0
      go_wp2_with fail
      refine (byte_calls _ g d R1 (hr5.no ((Chg.refl No w5).alloc _))).mono ?_
      rintro e w6 ⟨rfl, hr6, hc6⟩
      have hx6 := hc6.heap hx5 (by intro h; have h : w5.heap.size = g := h; omega)
      have hB6 := (hb5.no ((Chg.refl No w5).alloc (.cells #[.string (mkS nm), .bool false, .int .u64 0] 130))).chg hc6 (by intro h; have h : gt = g := h; omega)
      have hO6 := ownsRow_chg (World.ownsRow.alloc ho5 (.cells #[.string (mkS nm), .bool false, .int .u64 0] 130)) hc6 (fun q hq h => by have h : q = g := h; have := (HBLK.out q hq).1; omega)
      have hC6 := (hC5.alloc _).one hc6 (.inl hsz)
      clear hx5 hb5 ho5 hC5 hr5 hc6
      generalize w5.heap.size = gx at *
      generalize hBy : rByte R1 = BY at *
      obtain ⟨b, R2⟩ := BY
      simp only at hr6 hE hRR ⊢
      generalize hW : rWord R2 = WD at *
      obtain ⟨id, R3⟩ := WD
      simp only at hE hRR
      have hid : id < 18446744073709551616 := by have := rWord_lt R2; rw [hW] at this; exact this
      have HE := Lib.hid hE
      have HRR := Lib.hid hRR
      have hR3 : R3.rest.length ≤ R.rest.length := by omega
      clear hE hRR hT hBy
      have hne1 : gx ≠ gt := by omega
      have hne2 : gt ≠ gx := by omega
      by_cases hbb : b = 0
      · skip
        have HCV : Hid (preF xs = (readE (k - 1) R3 (acc ++ [(mkS nm, false, id)])).1.map (fun l => (.tree l, (readE (k - 1) R3 (acc ++ [(mkS nm, false, id)])).2))) := by rw [Hid, HP.out, HE.out, hbb, if_neg (by decide)]; rfl
        have hbt : b = 0 := hbb
        clear hbb
        subst hbt
        simp only [show (((0 : UInt8).toNat : Int)) = 0 from rfl]
        go_wp2_with fail
        refine (word_calls w6 g d R2 hr6).mono ?_
        rw [hW]
        rintro e w7 ⟨rfl, hr7, hc7⟩
        have hx6b := hx6
        have HB6b := Lib.hid hB6
        have HO6b := Lib.hid hO6
        have HC6b := Lib.hid hC6
        clear hr6 hB6 hO6 hC6 hx6
        have hx7 := hc7.heap hx6b (by intro h; have h : gx = g := h; omega)
        have hB7 := (HB6b.out).chg hc7 (by intro h; have h : gt = g := h; omega)
        have hO7 := ownsRow_chg HO6b.out hc7 (fun q hq h => by have h : q = g := h; have := (World.ownsRow.lt HO6b.out q hq).1; omega)
        have hC7 := HC6b.out.one hc7 (.inl hsz)
        have hblk : ∀ q, (Value.slice A5 acc.length c5).ownBlock = some q → g + 1 ≤ q ∧ q < gx := HBLK.out
        have z0 := cellAt hx7 0 (.string (mkS nm)) rfl
        have z1 := cellAt hx7 1 (.bool false) rfl
        have z2 := cellAt hx7 2 (.int .u64 0) rfl
        have zf := frzAt hx7
        have z3 := hB7.c
        have z4 := hB7.fr
        have hgx7 : gx < w7.heap.size := (Array.getElem?_eq_some_iff.1 hx7).1
        have hs7 : (w7.setCell ⟨gx, 2, none⟩ (.int .u64 (id : Int))).heap.size = w7.heap.size := by simp
        have own8 : Hid (((w7.setCell ⟨gx, 2, none⟩ (.int .u64 (id : Int))).alloc (.cells #[.string (mkS nm), .bool false, .int .u64 (id : Int)] 130)).ownsRow (g + 1) 130 3 (.slice A5 acc.length c5) acc.length (acc.flatMap encE)) :=
          World.ownsRow.alloc (ownsRow_chg hO7 (Chg.put w7 gx 2 _) (fun q hq h => by have h : q = gx := h; have := (hblk q hq).2; omega)) _
        have src8 : Hid (Src Try.prog 3 53 (.slice (some ⟨w7.heap.size, 0, none⟩) 1 1) 1 (encE (mkS nm, false, id)) ((w7.setCell ⟨gx, 2, none⟩ (.int .u64 (id : Int))).alloc (.cells #[.string (mkS nm), .bool false, .int .u64 (id : Int)] 130))) := by
          have := heap_alloc_new (w7.setCell ⟨gx, 2, none⟩ (.int .u64 (id : Int))) (.cells #[.string (mkS nm), .bool false, .int .u64 (id : Int)] 130)
          rw [hs7] at this
          exact Src.entry Try.underlying53 (mkS nm, false, id) this
        have H8 : Hid (Chg No w ((w7.setCell ⟨gx, 2, none⟩ (.int .u64 (id : Int))).alloc (.cells #[.string (mkS nm), .bool false, .int .u64 (id : Int)] 130)) ∧ Box 55 ((w7.setCell ⟨gx, 2, none⟩ (.int .u64 (id : Int))).alloc (.cells #[.string (mkS nm), .bool false, .int .u64 (id : Int)] 130)) gt (.slice A5 acc.length c5) ∧ RdrAt ((w7.setCell ⟨gx, 2, none⟩ (.int .u64 (id : Int))).alloc (.cells #[.string (mkS nm), .bool false, .int .u64 (id : Int)] 130)) g d R3) :=
          ⟨(hC7.one (Chg.put w7 gx 2 _) (.inl (by omega))).alloc _, (hB7.put (by omega) _ _).no ((Chg.refl No _).alloc _), (hr7.chg (Chg.put w7 gx 2 _) (by intro h; have h : g = gx := h; omega) (by intro h; have h : d = gx := h; omega)).no ((Chg.refl No _).alloc _)⟩
        have hsz8 : g + 1 ≤ ((w7.setCell ⟨gx, 2, none⟩ (.int .u64 (id : Int))).alloc (.cells #[.string (mkS nm), .bool false, .int .u64 (id : Int)] 130)).heap.size := by simp only [World.size_alloc, hs7]; omega
        clear hx7 hB7 hO7 hC7 hr7 hc7 HB6b HO6b HC6b hx6b hs7
        go_wp2_with (at_builtin; (refine wpList_app2 rfl (.tmp 50) (.tmp 52) 53 53 rfl (g + 1) 130 (.agg #[.string ⟨#[]⟩, .bool false, .int .u64 0]) 3 32 infoEnt Try.underlying53 rfl (by decide) (.slice A5 acc.length c5) (.slice (some ⟨w7.heap.size, 0, none⟩) 1 1) acc.length 1 (acc.flatMap encE) (encE (mkS nm, false, id)) rfl rfl ?own ?src ?b1 ?b2 ?b3 ?_; (case own => exact own8.out); (case src => exact src8.out); (case b1 => omega); (case b2 => unfold maxLen; omega); (case b3 => exact hsz8); intro v8 w8 hown8 hg8 hfrom8; refine Hid.out ?_))
        refine Lib.hid ?_
        clear z0 z1 z2 z3 z4 zf
        obtain ⟨A8, c8, rfl⟩ := ownsRow_form hown8
        have hB8 : Box 55 w8 gt (.slice A5 acc.length c5) := row_keep own8.out hg8 H8.out.2.1 (by decide)
        have hr8 := H8.out.2.2.chg (Chg.ofGrown (S := fun k => (Value.slice A5 acc.length c5).ownBlock = some k) hg8 (fun k hk => hk)) (fun h => by have := (hblk _ h).1; omega) (fun h => by have := (hblk _ h).1; omega)
        have hC8 := H8.out.1.grown hg8 (fun q hq => .inl (by have := (hblk q hq).1; omega))
        have hgt8 := hB8.lt
        have hblk8 := World.ownsRow.lt hown8
        have hO9 := ownsRow_chg hown8 (Chg.put w8 gt 0 (.slice A8 (acc.length + 1) c8)) (fun q hq h => by
          have h : q = gt := h
          subst h
          obtain ⟨cc, fz, hcc⟩ := ownsRow_cells hown8 q hq
          have := hcc.symm.trans hB8
          simp only [Option.some.injEq, Obj.cells.injEq] at this
          exact absurd this.2.1 (by decide))
        have HT9 : Hid (TI w (w8.setCell ⟨gt, 0, none⟩ (.slice A8 (acc.length + 1) c8)) g d gt R3 (acc ++ [(mkS nm, false, id)])) :=
          ⟨hr8.chg (Chg.put w8 gt 0 _) (by intro h; have h : g = gt := h; omega) (by intro h; have h : d = gt := h; omega), ⟨_, hB8.set _, by rw [List.length_append, List.flatMap_append]; simpa using hO9⟩, hC8.one (Chg.put w8 gt 0 _) (.inl (by omega)), fun y hy => by
            rcases List.mem_append.1 hy with hy | hy
            · exact HS.out y hy
            · simp only [List.mem_singleton] at hy; subst hy; simp only [mkS_size]; omega⟩
        have z3 := hB8.c
        have z4 := hB8.fr
        have hgs9 : gt < (w8.setCell ⟨gt, 0, none⟩ (.slice A8 (acc.length + 1) c8)).heap.size := by simpa using hgt8
        clear own8 src8 H8 hown8 hg8 hfrom8 hB8 hr8 hC8 hblk hblk8 hO9 hsz8
        go_wp2
        go_roundw
        case rel => exact ⟨k - 1, R3, acc ++ [(mkS nm, false, id)], by first | rfl | (congr 1; omega) | (simp; omega), by omega, by omega, by rw [List.length_append, List.length_singleton]; have := HRR.out; split at this <;> split <;> first | omega | contradiction, hgs9, HCV.out, HT9.out⟩
        case measure => first | (simp [intOf]; omega) | omega
      by_cases hbb : b = 1
      · skip
        have HCV : Hid (preF xs = (readE (k - 1) R3 (acc ++ [(mkS nm, true, id)])).1.map (fun l => (.tree l, (readE (k - 1) R3 (acc ++ [(mkS nm, true, id)])).2))) := by rw [Hid, HP.out, HE.out, hbb, if_neg (by decide)]; rfl
        have hbt : b = 1 := hbb
        clear hbb
        subst hbt
        simp only [show (((1 : UInt8).toNat : Int)) = 1 from rfl]
        have zz := frzAt hx6
        have zc := cellAt hx6 1 (.bool false) rfl
        go_wp2_with fail
        refine (word_calls (w6.setCell ⟨gx, 1, none⟩ (.bool true)) g d R2 (hr6.chg (Chg.put w6 gx 1 _) (by intro h; have h : g = gx := h; omega) (by intro h; have h : d = gx := h; omega))).mono ?_
        rw [hW]
        rintro e w7 ⟨rfl, hr7, hc7⟩
        clear zz zc
        have hx6b := heap_set hx6 1 (.bool true)
        simp only [List.setIfInBounds_toArray, List.set_cons_succ, List.set_cons_zero] at hx6b
        have HB6b := Lib.hid (hB6.put (by omega) 1 (.bool true))
        have HO6b := Lib.hid (ownsRow_chg hO6 (Chg.put w6 gx 1 (.bool true)) (fun q hq h => by have h : q = gx := h; have := (HBLK.out q hq).2; omega))
        have HC6b := Lib.hid (hC6.one (Chg.put w6 gx 1 (.bool true)) (.inl (by omega)))
        clear hr6 hB6 hO6 hC6 hx6
        have hx7 := hc7.heap hx6b (by intro h; have h : gx = g := h; omega)
        have hB7 := (HB6b.out).chg hc7 (by intro h; have h : gt = g := h; omega)
        have hO7 := ownsRow_chg HO6b.out hc7 (fun q hq h => by have h : q = g := h; have := (World.ownsRow.lt HO6b.out q hq).1; omega)
        have hC7 := HC6b.out.one hc7 (.inl hsz)
        have hblk : ∀ q, (Value.slice A5 acc.length c5).ownBlock = some q → g + 1 ≤ q ∧ q < gx := HBLK.out
        have z0 := cellAt hx7 0 (.string (mkS nm)) rfl
        have z1 := cellAt hx7 1 (.bool true) rfl
        have z2 := cellAt hx7 2 (.int .u64 0) rfl
        have zf := frzAt hx7
        have z3 := hB7.c
        have z4 := hB7.fr
        have hgx7 : gx < w7.heap.size := (Array.getElem?_eq_some_iff.1 hx7).1
        have hs7 : (w7.setCell ⟨gx, 2, none⟩ (.int .u64 (id : Int))).heap.size = w7.heap.size := by simp
        have own8 : Hid (((w7.setCell ⟨gx, 2, none⟩ (.int .u64 (id : Int))).alloc (.cells #[.string (mkS nm), .bool true, .int .u64 (id : Int)] 130)).ownsRow (g + 1) 130 3 (.slice A5 acc.length c5) acc.length (acc.flatMap encE)) :=
          World.ownsRow.alloc (ownsRow_chg hO7 (Chg.put w7 gx 2 _) (fun q hq h => by have h : q = gx := h; have := (hblk q hq).2; omega)) _
        have src8 : Hid (Src Try.prog 3 53 (.slice (some ⟨w7.heap.size, 0, none⟩) 1 1) 1 (encE (mkS nm, true, id)) ((w7.setCell ⟨gx, 2, none⟩ (.int .u64 (id : Int))).alloc (.cells #[.string (mkS nm), .bool true, .int .u64 (id : Int)] 130))) := by
          have := heap_alloc_new (w7.setCell ⟨gx, 2, none⟩ (.int .u64 (id : Int))) (.cells #[.string (mkS nm), .bool true, .int .u64 (id : Int)] 130)
          rw [hs7] at this
          exact Src.entry Try.underlying53 (mkS nm, true, id) this
        have H8 : Hid (Chg No w ((w7.setCell ⟨gx, 2, none⟩ (.int .u64 (id : Int))).alloc (.cells #[.string (mkS nm), .bool true, .int .u64 (id : Int)] 130)) ∧ Box 55 ((w7.setCell ⟨gx, 2, none⟩ (.int .u64 (id : Int))).alloc (.cells #[.string (mkS nm), .bool true, .int .u64 (id : Int)] 130)) gt (.slice A5 acc.length c5) ∧ RdrAt ((w7.setCell ⟨gx, 2, none⟩ (.int .u64 (id : Int))).alloc (.cells #[.string (mkS nm), .bool true, .int .u64 (id : Int)] 130)) g d R3) :=
          ⟨(hC7.one (Chg.put w7 gx 2 _) (.inl (by omega))).alloc _, (hB7.put (by omega) _ _).no ((Chg.refl No _).alloc _), (hr7.chg (Chg.put w7 gx 2 _) (by intro h; have h : g = gx := h; omega) (by intro h; have h : d = gx := h; omega)).no ((Chg.refl No _).alloc _)⟩
        have hsz8 : g + 1 ≤ ((w7.setCell ⟨gx, 2, none⟩ (.int .u64 (id : Int))).alloc (.cells #[.string (mkS nm), .bool true, .int .u64 (id : Int)] 130)).heap.size := by simp only [World.size_alloc, hs7]; omega
        clear hx7 hB7 hO7 hC7 hr7 hc7 HB6b HO6b HC6b hx6b hs7
        go_wp2_with (at_builtin; (refine wpList_app2 rfl (.tmp 50) (.tmp 52) 53 53 rfl (g + 1) 130 (.agg #[.string ⟨#[]⟩, .bool false, .int .u64 0]) 3 32 infoEnt Try.underlying53 rfl (by decide) (.slice A5 acc.length c5) (.slice (some ⟨w7.heap.size, 0, none⟩) 1 1) acc.length 1 (acc.flatMap encE) (encE (mkS nm, true, id)) rfl rfl ?own ?src ?b1 ?b2 ?b3 ?_; (case own => exact own8.out); (case src => exact src8.out); (case b1 => omega); (case b2 => unfold maxLen; omega); (case b3 => exact hsz8); intro v8 w8 hown8 hg8 hfrom8; refine Hid.out ?_))
        refine Lib.hid ?_
        clear z0 z1 z2 z3 z4 zf
        obtain ⟨A8, c8, rfl⟩ := ownsRow_form hown8
        have hB8 : Box 55 w8 gt (.slice A5 acc.length c5) := row_keep own8.out hg8 H8.out.2.1 (by decide)
        have hr8 := H8.out.2.2.chg (Chg.ofGrown (S := fun k => (Value.slice A5 acc.length c5).ownBlock = some k) hg8 (fun k hk => hk)) (fun h => by have := (hblk _ h).1; omega) (fun h => by have := (hblk _ h).1; omega)
        have hC8 := H8.out.1.grown hg8 (fun q hq => .inl (by have := (hblk q hq).1; omega))
        have hgt8 := hB8.lt
        have hblk8 := World.ownsRow.lt hown8
        have hO9 := ownsRow_chg hown8 (Chg.put w8 gt 0 (.slice A8 (acc.length + 1) c8)) (fun q hq h => by
          have h : q = gt := h
          subst h
          obtain ⟨cc, fz, hcc⟩ := ownsRow_cells hown8 q hq
          have := hcc.symm.trans hB8
          simp only [Option.some.injEq, Obj.cells.injEq] at this
          exact absurd this.2.1 (by decide))
        have HT9 : Hid (TI w (w8.setCell ⟨gt, 0, none⟩ (.slice A8 (acc.length + 1) c8)) g d gt R3 (acc ++ [(mkS nm, true, id)])) :=
          ⟨hr8.chg (Chg.put w8 gt 0 _) (by intro h; have h : g = gt := h; omega) (by intro h; have h : d = gt := h; omega), ⟨_, hB8.set _, by rw [List.length_append, List.flatMap_append]; simpa using hO9⟩, hC8.one (Chg.put w8 gt 0 _) (.inl (by omega)), fun y hy => by
            rcases List.mem_append.1 hy with hy | hy
            · exact HS.out y hy
            · simp only [List.mem_singleton] at hy; subst hy; simp only [mkS_size]; omega⟩
        have z3 := hB8.c
        have z4 := hB8.fr
        have hgs9 : gt < (w8.setCell ⟨gt, 0, none⟩ (.slice A8 (acc.length + 1) c8)).heap.size := by simpa using hgt8
        clear own8 src8 H8 hown8 hg8 hfrom8 hB8 hr8 hC8 hblk hblk8 hO9 hsz8
        go_wp2
        go_roundw
        case rel => exact ⟨k - 1, R3, acc ++ [(mkS nm, true, id)], by first | rfl | (congr 1; omega) | (simp; omega), by omega, by omega, by rw [List.length_append, List.length_singleton]; have := HRR.out; split at this <;> split <;> first | omega | contradiction, hgs9, HCV.out, HT9.out⟩
        case measure => first | (simp [intOf]; omega) | omega
      have HN : Hid (preF xs = none) := by rw [Hid, HP.out, HE.out, if_pos ⟨by assumption, hbb⟩]; rfl
      have HD : Hid (decF xs = none) := by rw [Hid, decF, HN.out]
      have q : ∀ (b k : UInt8), b ≠ k → ((b.toNat : Int) == (k.toNat : Int)) = false := by
        intro b k h
        rw [beq_eq_false_iff_ne]
        intro e
        exact h (UInt8.toNat_inj.1 (by omega))
      have b1 : ((b.toNat : Int) == 0) = false := q _ 0 (by assumption)
      have b2 : ((b.toNat : Int) == 1) = false := q _ 1 hbb
      have HC6 := Lib.hid hC6
      clear q hr6 hx6 hB6 hO6 hC6 hbb
      go_wp2
      go_ret2
      exact ⟨by rw [HD.out]; rfl, HC6.out⟩
end Go.Proofs.Ytccphnkdnifpfaa


namespace Go.Proofs.Ytccphnkdnifpfaa
set_option linter.unnecessarySimpa false
open Go.RowKit
set_option linter.unusedVariables false
set_option linter.unusedSimpArgs false
set_option maxRecDepth 100000

theorem infoId : (Try.prog.info? 32).map (fun i => (i.zero, i.size, i.bytes)) = some (some (.int .u64 0), 1, 8) := by kernel_rfl
theorem wrap_sd (x : Nat) (h : x < 18446744073709551616) : IntKind.i64.wrap (x : Int) = sd x := by
  unfold sd
  simp [IntKind.wrap, IntKind.signed, IntKind.bits]
  split <;> omega
theorem readP_stop (k : Nat) (r : Rd) (acc : List Nat) (h : k = 0 ∨ r.err ≠ 0) : readP k r acc = (acc, r) := by
  cases k with
  | zero => rfl
  | succ k => rw [readP, if_pos (h.resolve_left (by omega))]
theorem readP_step (k : Nat) (r : Rd) (acc : List Nat) (hk : 0 < k) (h : r.err = 0) : readP k r acc = readP (k - 1) (rWord r).2 (acc ++ [(rWord r).1]) := by
  obtain ⟨m, rfl⟩ : ∃ m, k = m + 1 := ⟨k - 1, by omega⟩
  rw [readP, if_neg (by rw [h]; simp)]
  rfl
theorem rWord_step (r : Rd) (h : r.err = 0) : (rWord r).2.rest.length + (if (rWord r).2.err = 0 then 1 else 0) ≤ r.rest.length := by
  unfold rWord
  rw [if_neg (by rw [h]; simp)]
  split
  · simp
  · simp only [List.length_drop, if_true]; omega

theorem rText_rest2 (most : Int) (r : Rd) : (rText most r).2.rest.length ≤ r.rest.length := by
  by_cases h : r.err = 0
  · exact (rText_rest most r h).2
  · unfold rText
    rw [if_pos h]
    exact Nat.le_refl _
/-- What the loop of a commit holds. -/
structure CI (w wr : World) (g d gc t : Nat) (R : Rd) (acc : List Nat) : Prop where
  r : RdrAt wr g d R
  b : ∃ v, wr.heap[gc]? = some (.cells #[.int .u64 (t : Int), v, .string ⟨#[]⟩, .int .i64 0, .string ⟨#[]⟩] 44 (0, 0)) ∧ wr.ownsRow (g + 1) 32 1 v acc.length (acc.map u64v)
  c : Chg No w wr

set_option maxHeartbeats 6400000 in
theorem decode_commit (w : World) (A : Option Addr) (n c : Nat) (xs : List UInt8) (hb : Bytes w (.slice A n c) xs) (hl : xs.length = n) (hn : n ≤ 1000000) (h1 : (rByte ⟨xs, 0⟩).1 = 99) :
    Calls Try.prog 34 #[.slice A n c] w fun e w' => DecR w.heap.size w' e (decF xs) ∧ Chg No w w' := by
  obtain ⟨b0, t0, rfl, hR⟩ := rByte_zero (xs := xs) (by rw [h1]; decide)
  have hb98 : b0 = 99 := by rw [hR] at h1; exact h1
  subst hb98
  have HPF : Hid (preF (99 :: t0) = some (afterC (rWord ⟨t0, 0⟩) (readP (rUint (rWord ⟨t0, 0⟩).2).1 (rUint (rWord ⟨t0, 0⟩).2).2 []))) := by rw [Hid, preF, if_neg (by rw [h1]; decide), if_neg (by rw [h1]; decide), if_pos h1, hR]
  have ht0 : t0.length + 1 = n := by simp at hl; omega
  generalize hxs : (99 :: t0 : List UInt8) = xs at *
  have hxn : xs ≠ [] := by rw [← hxs]; simp
  have HR := Lib.hid hR
  clear hR hxs h1
  have HB := Lib.hid hb
  clear hb
  go_enter Try.func34, Try.ntmps34
  go_wp2_with fail
  refine (read_calls w A n c xs HB.out (by omega)).mono ?_
  rintro e w' ⟨w1, v, rfl, rfl, hown, hc⟩
  obtain ⟨d, hd, hr⟩ := RdrAt.made hown hc.size
  have hsz := hc.size
  have HC := Lib.hid ((hc.alloc (.cells #[.bool true, v, .int .i64 0] 141)))
  clear hown hc
  have hsz2 : (w1.alloc (.cells #[.bool true, v, .int .i64 0] 141)).heap.size = w1.heap.size + 1 := by simp
  generalize w1.alloc (.cells #[.bool true, v, .int .i64 0] 141) = w2 at *
  generalize w1.heap.size = g at *
  go_wp2_with fail
  refine (byte_calls w2 g d _ hr).mono ?_
  rintro e w3 ⟨rfl, hr3, hc3⟩
  have HC3 : Hid (Chg No w w3) := HC.out.one hc3 (.inl hsz)
  have hdg := hr.dg
  have hdl := hr.dlt hxn
  have hw2 := Lib.hid hsz2
  clear hc3 hr HC
  have hdlg : d < g := by have := hw2.out; omega
  rw [HR.out] at hr3 ⊢
  simp only [show ((99 : UInt8).toNat : Int) = 99 from rfl] at *
  have hg3 := hr3.lt
  have HR3 := Lib.hid hr3
  clear hr3 hdl hw2 hsz2
  go_wp2_with fail
  refine (word_calls w3 g d _ HR3.out).mono ?_
  rintro e w4 ⟨rfl, hr4, hc4⟩
  have hq := (rWord_rest ⟨t0, 0⟩).1
  simp only at hq
  generalize rWord ⟨t0, 0⟩ = TT at *
  obtain ⟨t, R4⟩ := TT
  simp only at hr4 hq HPF ⊢
  have HC4 : Hid (Chg No w w4) := HC3.out.one hc4 (.inl hsz)
  have hg4 := hr4.lt
  clear hc4
  go_wp2_with fail
  refine (uint_calls _ g d _ (hr4.no ((Chg.refl No w4).alloc _)) (by omega)).mono ?_
  rintro e w5 ⟨rfl, hr5, hc5⟩
  have hu := rUint_rest R4
  have hu2 := rUint_lt R4
  generalize rUint R4 = U at *
  obtain ⟨k0, R0⟩ := U
  simp only at hr5 hu hu2 HPF ⊢
  have hbx := hc5.heap (heap_alloc_new w4 (.cells #[.int .u64 (t : Int), .slice none 0 0, .string ⟨#[]⟩, .int .i64 0, .string ⟨#[]⟩] 44)) (by intro h; have h : w4.heap.size = g := h; omega)
  have HT4 : Hid (CI w w5 g d w4.heap.size t R0 []) := ⟨hr5, ⟨_, hbx, World.ownsRow_nil _ _ _ _⟩, (HC4.out.alloc _).one hc5 (.inl hsz)⟩
  have hgs : w4.heap.size < w5.heap.size := (Array.getElem?_eq_some_iff.1 hbx).1
  clear hr4 hr5 hc5 hbx HR3 HC3 HC4 hg3 HB
  generalize w4.heap.size = gc at *
  go_wp2
  go_loopw [10] (fun i wr => ∃ (k : Nat) (R : Rd) (acc : List Nat), i = .int .u64 (k : Int) ∧ k < 18446744073709551616 ∧ R.rest.length ≤ 1000000 ∧ acc.length + R.rest.length ≤ 1000000 + (if R.err = 0 then 0 else 1) ∧ gc < wr.heap.size ∧ Hid (preF xs = some (afterC (t, R4) (readP k R acc))) ∧ Hid (CI w wr g d gc t R acc)) (fun i _ => (intOf i).toNat)
  case atStart => exact ⟨k0, R0, [], rfl, hu2, by omega, by simp only [List.length_nil]; omega, hgs, HPF.out, HT4.out⟩
  case round =>
    clear HT4 hgs HPF hu hu2
    obtain ⟨k, R, acc, rfl, hk64, hr1, hr2, hgs, HP, HT⟩ := hrel
    obtain ⟨v5, hp5, ho5⟩ := HT.out.b
    obtain ⟨A5, c5, rfl⟩ := ownsRow_form ho5
    have HBLK : Hid (∀ q, (Value.slice A5 acc.length c5).ownBlock = some q → g + 1 ≤ q ∧ q < wr.heap.size) := World.ownsRow.lt ho5
    have HR5 := Lib.hid HT.out.r
    have HC5 := Lib.hid HT.out.c
    have HP5 := Lib.hid hp5
    have HO5 := Lib.hid ho5
    generalize hal : acc.length = al at *
    have hal' : al ≤ 1000001 := by split at hr2 <;> omega
    clear hp5 ho5 HT
    by_cases hstop : k = 0 ∨ R.err ≠ 0
    · have HP2 : Hid (preF xs = some (afterC (t, R4) (acc, R))) := by rw [Hid, HP.out, readP_stop k R acc hstop]
      by_cases hk0 : k = 0
      · subst hk0
        clear hstop HP
        have hx2 := rText_rest2 64 R
        have hx1 := rText_len 64 R
        have zf := frzAt HP5.out
        go_wp2_with fail
        refine (text_calls wr g d R 64 (by omega) HR5.out (by omega)).mono ?_
        rintro e w6 ⟨rfl, hr6, hc6⟩
        generalize hTa : rText 64 R = Ta at *
        obtain ⟨ta, R6⟩ := Ta
        simp only at hr6 hx1 hx2 ⊢
        have hp6 := hc6.heap HP5.out (by intro h; have h : gc = g := h; omega)
        have ho6 := ownsRow_chg HO5.out hc6 (fun q hq h => by have h : q = g := h; have := (HBLK.out q hq).1; omega)
        have hC6 := HC5.out.one hc6 (.inl hsz)
        have y2 := cellAt hp6 2 (.string ⟨#[]⟩) rfl
        have yf := frzAt hp6
        have hr6' := hr6.chg (Chg.put w6 gc 2 (.string (mkS ta))) (by intro h; have h : g = gc := h; omega) (by intro h; have h : d = gc := h; omega)
        have hp6' := heap_set hp6 2 (.string (mkS ta))
        have ho6' := ownsRow_chg ho6 (Chg.put w6 gc 2 (.string (mkS ta))) (fun q hq h => by
          have h : q = gc := h
          subst h
          obtain ⟨cc, fz, hcc⟩ := ownsRow_cells ho6 q hq
          have := hcc.symm.trans hp6
          simp only [Option.some.injEq, Obj.cells.injEq] at this
          exact absurd this.2.1 (by decide))
        have hC6' := hC6.one (Chg.put w6 gc 2 (.string (mkS ta))) (.inl (by omega))
        simp only [List.setIfInBounds_toArray, List.set_cons_succ, List.set_cons_zero] at hp6'
        have HR6 := Lib.hid hr6'
        have HP6 := Lib.hid hp6'
        have HO6 := Lib.hid ho6'
        have HC6 := Lib.hid hC6'
        clear hr6 hp6 ho6 hC6 hr6' hp6' ho6' hC6' hc6 zf HR5 HP5 HO5 HC5
        go_wp2_with fail
        clear y2 yf
        generalize w6.setCell ⟨gc, 2, none⟩ (.string (mkS ta)) = w7 at *
        refine (word_calls w7 g d R6 HR6.out).mono ?_
        rintro e w8 ⟨rfl, hr8, hc8⟩
        have hwl := rWord_lt R6
        have hx3 := (rWord_rest R6).1
        generalize hWd : rWord R6 = Wd at *
        obtain ⟨dw, R8⟩ := Wd
        simp only at hr8 hwl hx3 ⊢
        have hwd := wrap_sd dw hwl
        have hp8 := hc8.heap HP6.out (by intro h; have h : gc = g := h; omega)
        have ho8 := ownsRow_chg HO6.out hc8 (fun q hq h => by have h : q = g := h; have := (HBLK.out q hq).1; omega)
        have hC8 := HC6.out.one hc8 (.inl hsz)
        have y2 := cellAt hp8 3 (.int .i64 0) rfl
        have yf := frzAt hp8
        have hr8' := hr8.chg (Chg.put w8 gc 3 (.int .i64 (sd dw))) (by intro h; have h : g = gc := h; omega) (by intro h; have h : d = gc := h; omega)
        have hp8' := heap_set hp8 3 (.int .i64 (sd dw))
        have ho8' := ownsRow_chg ho8 (Chg.put w8 gc 3 (.int .i64 (sd dw))) (fun q hq h => by
          have h : q = gc := h
          subst h
          obtain ⟨cc, fz, hcc⟩ := ownsRow_cells ho8 q hq
          have := hcc.symm.trans hp8
          simp only [Option.some.injEq, Obj.cells.injEq] at this
          exact absurd this.2.1 (by decide))
        have hC8' := hC8.one (Chg.put w8 gc 3 (.int .i64 (sd dw))) (.inl (by omega))
        simp only [List.setIfInBounds_toArray, List.set_cons_succ, List.set_cons_zero] at hp8'
        have HR8 := Lib.hid hr8'
        have HP8 := Lib.hid hp8'
        have HO8 := Lib.hid ho8'
        have HC8 := Lib.hid hC8'
        clear hr8 hp8 ho8 hC8 hr8' hp8' ho8' hC8' hc8 HR6 HP6 HO6 HC6
        go_wp2_with fail
        clear y2 yf hwd
        generalize w8.setCell ⟨gc, 3, none⟩ (.int .i64 (sd dw)) = w9 at *
        have hy1 := rText_len 1024 R8
        refine (text_calls w9 g d R8 1024 (by omega) HR8.out (by omega)).mono ?_
        rintro e w10 ⟨rfl, hr10, hc10⟩
        generalize hTx : rText 1024 R8 = Tx at *
        obtain ⟨tx, R10⟩ := Tx
        simp only at hr10 hy1 ⊢
        have hp10 := hc10.heap HP8.out (by intro h; have h : gc = g := h; omega)
        have ho10 := ownsRow_chg HO8.out hc10 (fun q hq h => by have h : q = g := h; have := (HBLK.out q hq).1; omega)
        have hC10 := HC8.out.one hc10 (.inl hsz)
        have y0 := cellAt hp10 0 (.int .u64 (t : Int)) rfl
        have y1 := cellAt hp10 1 (.slice A5 al c5) rfl
        have y2 := cellAt hp10 2 (.string (mkS ta)) rfl
        have y3 := cellAt hp10 3 (.int .i64 (sd dw)) rfl
        have y4 := cellAt hp10 4 (.string ⟨#[]⟩) rfl
        have yf := frzAt hp10
        have hr10' := hr10.chg (Chg.put w10 gc 4 (.string (mkS tx))) (by intro h; have h : g = gc := h; omega) (by intro h; have h : d = gc := h; omega)
        have ho10' := ownsRow_chg ho10 (Chg.put w10 gc 4 (.string (mkS tx))) (fun q hq h => by
          have h : q = gc := h
          subst h
          obtain ⟨cc, fz, hcc⟩ := ownsRow_cells ho10 q hq
          have := hcc.symm.trans hp10
          simp only [Option.some.injEq, Obj.cells.injEq] at this
          exact absurd this.2.1 (by decide))
        have HR10 := Lib.hid hr10'
        have HC10 : Hid (Chg No w (w10.setCell ⟨gc, 4, none⟩ (.string (mkS tx)))) := hC10.one (Chg.put w10 gc 4 (.string (mkS tx))) (.inl (by omega))
        have hSL : Sl u64v (w10.setCell ⟨gc, 4, none⟩ (.string (mkS tx))) (.slice A5 al c5) acc := by
          have := Holds.ofOwn ho10'
          unfold Sl
          rw [hal]
          exact this
        have CK : Hid (∀ W, Chg No (w10.setCell ⟨gc, 4, none⟩ (.string (mkS tx))) W → Calls Try.prog 70 #[commitV (t : Int) (.slice A5 al c5) (mkS ta) (sd dw) (mkS tx)] W fun e w' => e = .returned (.int .i64 (commitF t acc ta tx : Nat)) ∧ Chg No W w') := by
          intro W hW
          have := check_commit W t A5 al c5 acc (mkS ta) (sd dw) (mkS tx) (hSL.no hW) (by omega) (by rw [mkS_size]; omega) (by rw [mkS_size]; omega)
          rw [mkS_list, mkS_list] at this
          exact this
        have HK : Hid (obCheck (.commit t acc ta (sd dw) tx) = (commitF t acc ta tx : Nat)) := rfl
        have HIS : Hid (∀ W, Chg No (w10.setCell ⟨gc, 4, none⟩ (.string (mkS tx))) W → IsOb W w.heap.size (commitV (t : Int) (.slice A5 al c5) (mkS ta) (sd dw) (mkS tx)) (.commit t acc ta (sd dw) tx)) := by
          intro W hW
          refine ⟨_, rfl, ?_⟩
          rw [hal]
          exact ownsRow_mono (ownsRow_chg ho10' hW (fun _ _ x => x)) (by omega)
        generalize ((commitF t acc ta tx : Nat) : Int) = K at *
        generalize ho : Ob.commit t acc ta (sd dw) tx = o at *
        have HPF : Hid (decF xs = if rEnd R10 = 0 ∧ obCheck o = 0 then some o else none) := by
          rw [Hid, decF, HP2.out, afterC]
          simp only [hTa, hWd, hTx, ho]
        clear HP2 ho hr10 hp10 ho10 hC10 hr10' ho10' hc10 HR8 HP8 HO8 HC8 hSL hTa hWd hTx
        go_wp2_with fail
        refine (end_calls _ g d R10 HR10.out).mono ?_
        rintro e w8 ⟨rfl, rfl⟩
        by_cases hend : rEnd R10 = 0
        · rw [hend]
          go_wp2_with fail
          refine (CK.out _ (Chg.refl _ _)).mono ?_
          rintro e w9 ⟨rfl, hc9⟩
          by_cases hck : K = 0
          · have HD : Hid (decF xs = some o) := by rw [Hid, HPF.out]; exact if_pos ⟨hend, (HK.out).trans hck⟩
            subst hck
            go_wp2
            go_ret2
            exact ⟨by rw [HD.out]; exact ⟨_, rfl, HIS.out _ hc9⟩, HC10.out.no hc9⟩
          · have HD : Hid (decF xs = none) := by rw [Hid, HPF.out]; exact if_neg (fun h => hck ((HK.out).symm.trans h.2))
            have bk : (K != 0) = true := by simpa using hck
            clear hck
            go_wp2
            go_ret2
            exact ⟨by rw [HD.out]; rfl, HC10.out.no hc9⟩
        · have HD : Hid (decF xs = none) := by rw [Hid, HPF.out]; exact if_neg (fun h => hend h.1)
          have bk : (rEnd R10 != 0) = true := by simpa using hend
          clear hend
          go_wp2
          go_ret2
          exact ⟨by rw [HD.out]; rfl, HC10.out⟩
      · have hk1 : (0 : Int) < (k : Int) := by omega
        have he : R.err ≠ 0 := hstop.resolve_left hk0
        have hbe : (R.err == 0) = false := by simpa using he
        clear hstop he hk0 HP
        go_wp2_with fail
        refine (err_calls wr g d R HR5.out).mono ?_
        rintro e w6 ⟨rfl, rfl⟩
        have hx2 := rText_rest2 64 R
        have hx1 := rText_len 64 R
        have zf := frzAt HP5.out
        go_wp2_with fail
        refine (text_calls wr g d R 64 (by omega) HR5.out (by omega)).mono ?_
        rintro e w6 ⟨rfl, hr6, hc6⟩
        generalize hTa : rText 64 R = Ta at *
        obtain ⟨ta, R6⟩ := Ta
        simp only at hr6 hx1 hx2 ⊢
        have hp6 := hc6.heap HP5.out (by intro h; have h : gc = g := h; omega)
        have ho6 := ownsRow_chg HO5.out hc6 (fun q hq h => by have h : q = g := h; have := (HBLK.out q hq).1; omega)
        have hC6 := HC5.out.one hc6 (.inl hsz)
        have y2 := cellAt hp6 2 (.string ⟨#[]⟩) rfl
        have yf := frzAt hp6
        have hr6' := hr6.chg (Chg.put w6 gc 2 (.string (mkS ta))) (by intro h; have h : g = gc := h; omega) (by intro h; have h : d = gc := h; omega)
        have hp6' := heap_set hp6 2 (.string (mkS ta))
        have ho6' := ownsRow_chg ho6 (Chg.put w6 gc 2 (.string (mkS ta))) (fun q hq h => by
          have h : q = gc := h
          subst h
          obtain ⟨cc, fz, hcc⟩ := ownsRow_cells ho6 q hq
          have := hcc.symm.trans hp6
          simp only [Option.some.injEq, Obj.cells.injEq] at this
          exact absurd this.2.1 (by decide))
        have hC6' := hC6.one (Chg.put w6 gc 2 (.string (mkS ta))) (.inl (by omega))
        simp only [List.setIfInBounds_toArray, List.set_cons_succ, List.set_cons_zero] at hp6'
        have HR6 := Lib.hid hr6'
        have HP6 := Lib.hid hp6'
        have HO6 := Lib.hid ho6'
        have HC6 := Lib.hid hC6'
        clear hr6 hp6 ho6 hC6 hr6' hp6' ho6' hC6' hc6 zf HR5 HP5 HO5 HC5
        go_wp2_with fail
        clear y2 yf
        generalize w6.setCell ⟨gc, 2, none⟩ (.string (mkS ta)) = w7 at *
        refine (word_calls w7 g d R6 HR6.out).mono ?_
        rintro e w8 ⟨rfl, hr8, hc8⟩
        have hwl := rWord_lt R6
        have hx3 := (rWord_rest R6).1
        generalize hWd : rWord R6 = Wd at *
        obtain ⟨dw, R8⟩ := Wd
        simp only at hr8 hwl hx3 ⊢
        have hwd := wrap_sd dw hwl
        have hp8 := hc8.heap HP6.out (by intro h; have h : gc = g := h; omega)
        have ho8 := ownsRow_chg HO6.out hc8 (fun q hq h => by have h : q = g := h; have := (HBLK.out q hq).1; omega)
        have hC8 := HC6.out.one hc8 (.inl hsz)
        have y2 := cellAt hp8 3 (.int .i64 0) rfl
        have yf := frzAt hp8
        have hr8' := hr8.chg (Chg.put w8 gc 3 (.int .i64 (sd dw))) (by intro h; have h : g = gc := h; omega) (by intro h; have h : d = gc := h; omega)
        have hp8' := heap_set hp8 3 (.int .i64 (sd dw))
        have ho8' := ownsRow_chg ho8 (Chg.put w8 gc 3 (.int .i64 (sd dw))) (fun q hq h => by
          have h : q = gc := h
          subst h
          obtain ⟨cc, fz, hcc⟩ := ownsRow_cells ho8 q hq
          have := hcc.symm.trans hp8
          simp only [Option.some.injEq, Obj.cells.injEq] at this
          exact absurd this.2.1 (by decide))
        have hC8' := hC8.one (Chg.put w8 gc 3 (.int .i64 (sd dw))) (.inl (by omega))
        simp only [List.setIfInBounds_toArray, List.set_cons_succ, List.set_cons_zero] at hp8'
        have HR8 := Lib.hid hr8'
        have HP8 := Lib.hid hp8'
        have HO8 := Lib.hid ho8'
        have HC8 := Lib.hid hC8'
        clear hr8 hp8 ho8 hC8 hr8' hp8' ho8' hC8' hc8 HR6 HP6 HO6 HC6
        go_wp2_with fail
        clear y2 yf hwd
        generalize w8.setCell ⟨gc, 3, none⟩ (.int .i64 (sd dw)) = w9 at *
        have hy1 := rText_len 1024 R8
        refine (text_calls w9 g d R8 1024 (by omega) HR8.out (by omega)).mono ?_
        rintro e w10 ⟨rfl, hr10, hc10⟩
        generalize hTx : rText 1024 R8 = Tx at *
        obtain ⟨tx, R10⟩ := Tx
        simp only at hr10 hy1 ⊢
        have hp10 := hc10.heap HP8.out (by intro h; have h : gc = g := h; omega)
        have ho10 := ownsRow_chg HO8.out hc10 (fun q hq h => by have h : q = g := h; have := (HBLK.out q hq).1; omega)
        have hC10 := HC8.out.one hc10 (.inl hsz)
        have y0 := cellAt hp10 0 (.int .u64 (t : Int)) rfl
        have y1 := cellAt hp10 1 (.slice A5 al c5) rfl
        have y2 := cellAt hp10 2 (.string (mkS ta)) rfl
        have y3 := cellAt hp10 3 (.int .i64 (sd dw)) rfl
        have y4 := cellAt hp10 4 (.string ⟨#[]⟩) rfl
        have yf := frzAt hp10
        have hr10' := hr10.chg (Chg.put w10 gc 4 (.string (mkS tx))) (by intro h; have h : g = gc := h; omega) (by intro h; have h : d = gc := h; omega)
        have ho10' := ownsRow_chg ho10 (Chg.put w10 gc 4 (.string (mkS tx))) (fun q hq h => by
          have h : q = gc := h
          subst h
          obtain ⟨cc, fz, hcc⟩ := ownsRow_cells ho10 q hq
          have := hcc.symm.trans hp10
          simp only [Option.some.injEq, Obj.cells.injEq] at this
          exact absurd this.2.1 (by decide))
        have HR10 := Lib.hid hr10'
        have HC10 : Hid (Chg No w (w10.setCell ⟨gc, 4, none⟩ (.string (mkS tx)))) := hC10.one (Chg.put w10 gc 4 (.string (mkS tx))) (.inl (by omega))
        have hSL : Sl u64v (w10.setCell ⟨gc, 4, none⟩ (.string (mkS tx))) (.slice A5 al c5) acc := by
          have := Holds.ofOwn ho10'
          unfold Sl
          rw [hal]
          exact this
        have CK : Hid (∀ W, Chg No (w10.setCell ⟨gc, 4, none⟩ (.string (mkS tx))) W → Calls Try.prog 70 #[commitV (t : Int) (.slice A5 al c5) (mkS ta) (sd dw) (mkS tx)] W fun e w' => e = .returned (.int .i64 (commitF t acc ta tx : Nat)) ∧ Chg No W w') := by
          intro W hW
          have := check_commit W t A5 al c5 acc (mkS ta) (sd dw) (mkS tx) (hSL.no hW) (by omega) (by rw [mkS_size]; omega) (by rw [mkS_size]; omega)
          rw [mkS_list, mkS_list] at this
          exact this
        have HK : Hid (obCheck (.commit t acc ta (sd dw) tx) = (commitF t acc ta tx : Nat)) := rfl
        have HIS : Hid (∀ W, Chg No (w10.setCell ⟨gc, 4, none⟩ (.string (mkS tx))) W → IsOb W w.heap.size (commitV (t : Int) (.slice A5 al c5) (mkS ta) (sd dw) (mkS tx)) (.commit t acc ta (sd dw) tx)) := by
          intro W hW
          refine ⟨_, rfl, ?_⟩
          rw [hal]
          exact ownsRow_mono (ownsRow_chg ho10' hW (fun _ _ x => x)) (by omega)
        generalize ((commitF t acc ta tx : Nat) : Int) = K at *
        generalize ho : Ob.commit t acc ta (sd dw) tx = o at *
        have HPF : Hid (decF xs = if rEnd R10 = 0 ∧ obCheck o = 0 then some o else none) := by
          rw [Hid, decF, HP2.out, afterC]
          simp only [hTa, hWd, hTx, ho]
        clear HP2 ho hr10 hp10 ho10 hC10 hr10' ho10' hc10 HR8 HP8 HO8 HC8 hSL hTa hWd hTx
        go_wp2_with fail
        refine (end_calls _ g d R10 HR10.out).mono ?_
        rintro e w8 ⟨rfl, rfl⟩
        by_cases hend : rEnd R10 = 0
        · rw [hend]
          go_wp2_with fail
          refine (CK.out _ (Chg.refl _ _)).mono ?_
          rintro e w9 ⟨rfl, hc9⟩
          by_cases hck : K = 0
          · have HD : Hid (decF xs = some o) := by rw [Hid, HPF.out]; exact if_pos ⟨hend, (HK.out).trans hck⟩
            subst hck
            go_wp2
            go_ret2
            exact ⟨by rw [HD.out]; exact ⟨_, rfl, HIS.out _ hc9⟩, HC10.out.no hc9⟩
          · have HD : Hid (decF xs = none) := by rw [Hid, HPF.out]; exact if_neg (fun h => hck ((HK.out).symm.trans h.2))
            have bk : (K != 0) = true := by simpa using hck
            clear hck
            go_wp2
            go_ret2
            exact ⟨by rw [HD.out]; rfl, HC10.out.no hc9⟩
        · have HD : Hid (decF xs = none) := by rw [Hid, HPF.out]; exact if_neg (fun h => hend h.1)
          have bk : (rEnd R10 != 0) = true := by simpa using hend
          clear hend
          go_wp2
          go_ret2
          exact ⟨by rw [HD.out]; rfl, HC10.out⟩
    · have hk1 : 0 < k := by omega
      have hk1i : (0 : Int) < (k : Int) := by omega
      have he : R.err = 0 := by
        rcases Classical.em (R.err = 0) with h | h
        · exact h
        · exact absurd (.inr h) hstop
      have hbe : (R.err == 0) = true := by simpa using he
      have hE := readP_step k R acc hk1 he
      have hRR := rWord_step R he
      rw [if_pos he] at hr2
      clear hstop he
      go_wp2_with fail
      refine (err_calls wr g d R HR5.out).mono ?_
      rintro e w4 ⟨rfl, rfl⟩
      generalize hW : rWord R = WD at *
      obtain ⟨id, R3⟩ := WD
      simp only at hE hRR
      have HE := Lib.hid hE
      have HRR := Lib.hid hRR
      have HAL := Lib.hid hal
      clear hE hRR hal
      have x0 := cellAt HP5.out 1 (.slice A5 al c5) rfl
      have hgcg : gc ≠ g := by omega
      go_wp2
      refine wp_region_held_drew (S := fun _ => True) (by kernel_rfl) trivial (fun hSw => ?_)
      refine wpAnyH_take (i := 0) (oi := { dst := some 73, op := Go.Op.fieldAddr 44 (Go.Operand.tmp 9) 1, type := 0, pos := "object.go:165", after := #[], guard := none }) (v := ?_) rfl (by kernel_rfl) (by kernel_rfl) (by kernel_rfl) (fun _ _ _ h => h) (Or.inl ⟨by rfl, ?_⟩) hSw ?_
      rotate_left
      · (intro W hW; (try dsimp only at hW); go_simp; try with_reducible rfl)
      try simp only [Act.put, List.setIfInBounds_toArray, List.set_cons_zero, List.set_cons_succ]
      refine wpAnyH_take (i := 2) (oi := { dst := some 75, op := Go.Op.move (Go.Operand.tmp 4), type := 113, pos := "object.go:165", after := #[], guard := none }) (v := ?_) rfl (by kernel_rfl) (by kernel_rfl) (by kernel_rfl) (fun _ _ _ h => h) (Or.inl ⟨by rfl, ?_⟩) hSw ?_
      rotate_left
      · (intro W hW; (try dsimp only at hW); go_simp; try with_reducible rfl)
      try simp only [Act.put, List.setIfInBounds_toArray, List.set_cons_zero, List.set_cons_succ]
      refine wpAnyH_ready (rs := [1, 3]) (by kernel_rfl) (by simp) ?_
      refine (AllReadyH.cons (o := { dst := some 74, op := Go.Op.load 42 (Go.Operand.tmp 73), type := 42, pos := "object.go:165", after := #[{ on := 0, ground := Go.Ground.data }], guard := none }) rfl (fun K hK => ?_) (AllReadyH.cons (o := { dst := some 76, op := Go.Op.call { callee := Go.Callee.value (Go.Operand.func 52), args := #[Go.Operand.tmp 75], argTypes := #[113] }, type := 31, pos := "object.go:165", after := #[{ on := 2, ground := Go.Ground.data }], guard := none }) rfl (fun K hK => ?_) AllReadyH.nil))
      · skip
        rw [if_pos (by rfl)]
        go_simp
        refine hK.out _ _ trivial (fun hSw => ?_)
        clear hK
        try simp only [Act.put, List.setIfInBounds_toArray, List.set_cons_zero, List.set_cons_succ]
        refine wpAnyH_ready (rs := [3]) (by kernel_rfl) (by simp) ?_
        refine (AllReadyH.cons (o := { dst := some 76, op := Go.Op.call { callee := Go.Callee.value (Go.Operand.func 52), args := #[Go.Operand.tmp 75], argTypes := #[113] }, type := 31, pos := "object.go:165", after := #[{ on := 2, ground := Go.Ground.data }], guard := none }) rfl (fun K hK => ?_) AllReadyH.nil)
        rw [if_pos (by rfl)]
        go_simp
        refine (word_calls _ g d R (HR5.out.no ((Chg.refl No wr).drew))).mono ?_
        rw [hW]
        rintro e w5 ⟨rfl, hr5, hc5⟩
        have HP6 := Lib.hid (hc5.heap (((Chg.refl No wr).drew).heap HP5.out (fun x => x)) (by intro h; have h : gc = g := h; omega))
        have HO6 := Lib.hid (ownsRow_chg (ownsRow_chg HO5.out ((Chg.refl No wr).drew) (fun _ _ x => x)) hc5 (fun q hq h => by have h : q = g := h; have := (HBLK.out q hq).1; omega))
        have HR6 := Lib.hid hr5
        have HC6 := Lib.hid ((HC5.out.drew).one hc5 (.inl hsz))
        have hsz6 : gc < w5.heap.size := (Array.getElem?_eq_some_iff.1 HP6.out).1
        clear hr5 hc5
        have u1 := cellAt HP6.out 1 (.slice A5 al c5) rfl
        refine hK.out _ _ trivial (fun hSw => ?_)
        clear hK
        try simp only [Act.put, List.setIfInBounds_toArray, List.set_cons_zero, List.set_cons_succ]
        refine wpAnyH_ready (rs := [4]) (by kernel_rfl) (by simp) ?_
        refine (AllReadyH.cons (o := { dst := some 77, op := Go.Op.buildSlice 42 1 #[(0, Go.Operand.tmp 76)], type := 42, pos := "object.go:165", after := #[{ on := 3, ground := Go.Ground.data }], guard := none }) rfl (fun K hK => ?_) AllReadyH.nil)
        rw [if_pos (by rfl)]
        go_simp
        have HP7 := Lib.hid (((Chg.refl No w5).alloc (.cells #[.int .u64 (id : Int)] 32)).heap HP6.out (fun x => x))
        have u2 := cellAt HP7.out 1 (.slice A5 al c5) rfl
        refine hK.out _ _ trivial (fun hSw => ?_)
        clear hK
        try simp only [Act.put, List.setIfInBounds_toArray, List.set_cons_zero, List.set_cons_succ]
        refine wpAnyH_ready (rs := [5]) (by kernel_rfl) (by simp) ?_
        refine (AllReadyH.cons (o := { dst := some 78, op := Go.Op.call { callee := Go.Callee.builtin Go.Builtin.append, args := #[Go.Operand.tmp 74, Go.Operand.tmp 77], argTypes := #[42, 42] }, type := 42, pos := "object.go:165", after := #[{ on := 1, ground := Go.Ground.data }, { on := 4, ground := Go.Ground.data }, { on := 3, ground := Go.Ground.chain }], guard := none }) rfl (fun K hK => ?_) AllReadyH.nil)
        rw [if_pos (by rfl)]
        refine wp_app2 (.tmp 74) (.tmp 77) 42 42 rfl (g + 1) 32 (.int .u64 0) 1 8 infoId Try.underlying42 rfl (by decide) (.slice A5 al c5) (.slice (some ⟨w5.heap.size, 0, none⟩) 1 1) al 1 (acc.map u64v) [u64v id] rfl rfl ?_ ?_ ?_ ?_ ?_ ?_
        · exact World.ownsRow.alloc HO6.out _
        · exact Src.one Try.underlying42 _ rfl
        · omega
        · unfold maxLen; omega
        · simp only [World.size_alloc]; omega
        intro v8 w8 hown8 hg8 hfrom8
        obtain ⟨A8, c8, rfl⟩ := ownsRow_form hown8
        have HP8 := Lib.hid (row_keep (World.ownsRow.alloc HO6.out (.cells #[.int .u64 (id : Int)] 32)) hg8 HP7.out (by decide))
        have u3 := cellAt HP8.out 1 (.slice A5 al c5) rfl
        have f3 := frzAt HP8.out 1
        refine hK.out _ _ trivial (fun hSw => ?_)
        clear hK
        try simp only [Act.put, List.setIfInBounds_toArray, List.set_cons_zero, List.set_cons_succ]
        refine wpAnyH_take (i := 6) (oi := { dst := some 79, op := Go.Op.fieldAddr 44 (Go.Operand.tmp 9) 1, type := 0, pos := "object.go:165", after := #[{ on := 0, ground := Go.Ground.phase }, { on := 1, ground := Go.Ground.phase }, { on := 2, ground := Go.Ground.phase }, { on := 3, ground := Go.Ground.phase }, { on := 4, ground := Go.Ground.phase }, { on := 5, ground := Go.Ground.phase }], guard := none }) (v := ?_) rfl (by kernel_rfl) (by kernel_rfl) (by kernel_rfl) (fun _ _ _ h => h) (Or.inl ⟨by rfl, ?_⟩) hSw ?_
        rotate_left
        · (intro W hW; (try dsimp only at hW); go_simp; try with_reducible rfl)
        try simp only [Act.put, List.setIfInBounds_toArray, List.set_cons_zero, List.set_cons_succ]
        refine wpAnyH_ready (rs := [7]) (by kernel_rfl) (by simp) ?_
        refine (AllReadyH.cons (o := { dst := none, op := Go.Op.store 42 (Go.Operand.tmp 79) (Go.Operand.tmp 78), type := 0, pos := "object.go:165", after := #[{ on := 6, ground := Go.Ground.data }, { on := 5, ground := Go.Ground.data }, { on := 5, ground := Go.Ground.chain }, { on := 0, ground := Go.Ground.phase }, { on := 1, ground := Go.Ground.phase }, { on := 2, ground := Go.Ground.phase }, { on := 3, ground := Go.Ground.phase }, { on := 4, ground := Go.Ground.phase }, { on := 5, ground := Go.Ground.phase }], guard := none }) rfl (fun K hK => ?_) AllReadyH.nil)
        rw [if_pos (by rfl)]
        go_simp
        refine hK.out _ _ trivial (fun hSw => ?_)
        clear hK
        try simp only [Act.put, List.setIfInBounds_toArray, List.set_cons_zero, List.set_cons_succ]
        refine wpAnyH_done (by kernel_rfl) ?_ _
        have hC9 := (HC6.out.alloc (.cells #[.int .u64 (id : Int)] 32)).grown hg8 (fun q hq => .inl (by have := (World.ownsRow.lt HO6.out q hq).1; omega))
        have hS : ∀ q, (Value.slice A5 al c5).ownBlock = some q → g + 1 ≤ q := fun q hq => (World.ownsRow.lt HO6.out q hq).1
        have hr9 := (HR6.out.no ((Chg.refl No w5).alloc (.cells #[.int .u64 (id : Int)] 32))).chg (Chg.ofGrown (S := fun k => (Value.slice A5 al c5).ownBlock = some k) hg8 (fun k hk => hk)) (fun h => by have := hS _ h; omega) (fun h => by have := hS _ h; omega)
        have hO9 := ownsRow_chg hown8 (Chg.put w8 gc 1 (.slice A8 (al + 1) c8)) (fun q hq h => by
          have h : q = gc := h
          subst h
          obtain ⟨cc, fz, hcc⟩ := ownsRow_cells hown8 q hq
          have := hcc.symm.trans HP8.out
          simp only [Option.some.injEq, Obj.cells.injEq] at this
          exact absurd this.2.1 (by decide))
        have hp9 := heap_set HP8.out 1 (.slice A8 (al + 1) c8)
        simp only [List.setIfInBounds_toArray, List.set_cons_succ, List.set_cons_zero] at hp9
        have HT9 : Hid (CI w (w8.setCell ⟨gc, 1, none⟩ (.slice A8 (al + 1) c8)) g d gc t R3 (acc ++ [id])) :=
          ⟨hr9.chg (Chg.put w8 gc 1 _) (by intro h; have h : g = gc := h; omega) (by intro h; have h : d = gc := h; omega), ⟨_, hp9, by rw [List.length_append, List.map_append, HAL.out]; exact hO9⟩, hC9.one (Chg.put w8 gc 1 _) (.inl (by omega))⟩
        have hgs9 : gc < (w8.setCell ⟨gc, 1, none⟩ (.slice A8 (al + 1) c8)).heap.size := (Array.getElem?_eq_some_iff.1 hp9).1
        have HCV : Hid (preF xs = some (afterC (t, R4) (readP (k - 1) R3 (acc ++ [id])))) := by rw [Hid, HP.out, HE.out]
        have hR3 : R3.rest.length ≤ R.rest.length := by have := HRR.out; omega
        clear hC9 hS hr9 hO9 hp9 hown8 hg8 hfrom8 u1 u2 u3 f3
        go_wp2
        go_roundw
        case rel => exact ⟨k - 1, R3, acc ++ [id], by first | rfl | (congr 1; omega) | (simp; omega), by omega, by omega, by rw [List.length_append, List.length_singleton, HAL.out]; have := HRR.out; split at this <;> split <;> first | omega | contradiction, hgs9, HCV.out, HT9.out⟩
        case measure => first | (simp [intOf]; omega) | omega
      · skip
        rw [if_pos (by rfl)]
        go_simp
        refine (word_calls _ g d R (HR5.out.no ((Chg.refl No wr).drew))).mono ?_
        rw [hW]
        rintro e w5 ⟨rfl, hr5, hc5⟩
        have HP6 := Lib.hid (hc5.heap (((Chg.refl No wr).drew).heap HP5.out (fun x => x)) (by intro h; have h : gc = g := h; omega))
        have HO6 := Lib.hid (ownsRow_chg (ownsRow_chg HO5.out ((Chg.refl No wr).drew) (fun _ _ x => x)) hc5 (fun q hq h => by have h : q = g := h; have := (HBLK.out q hq).1; omega))
        have HR6 := Lib.hid hr5
        have HC6 := Lib.hid ((HC5.out.drew).one hc5 (.inl hsz))
        have hsz6 : gc < w5.heap.size := (Array.getElem?_eq_some_iff.1 HP6.out).1
        clear hr5 hc5
        have u1 := cellAt HP6.out 1 (.slice A5 al c5) rfl
        refine hK.out _ _ trivial (fun hSw => ?_)
        clear hK
        try simp only [Act.put, List.setIfInBounds_toArray, List.set_cons_zero, List.set_cons_succ]
        refine wpAnyH_ready (rs := [1, 4]) (by kernel_rfl) (by simp) ?_
        refine (AllReadyH.cons (o := { dst := some 74, op := Go.Op.load 42 (Go.Operand.tmp 73), type := 42, pos := "object.go:165", after := #[{ on := 0, ground := Go.Ground.data }], guard := none }) rfl (fun K hK => ?_) (AllReadyH.cons (o := { dst := some 77, op := Go.Op.buildSlice 42 1 #[(0, Go.Operand.tmp 76)], type := 42, pos := "object.go:165", after := #[{ on := 3, ground := Go.Ground.data }], guard := none }) rfl (fun K hK => ?_) AllReadyH.nil))
        · skip
          rw [if_pos (by rfl)]
          go_simp
          refine hK.out _ _ trivial (fun hSw => ?_)
          clear hK
          try simp only [Act.put, List.setIfInBounds_toArray, List.set_cons_zero, List.set_cons_succ]
          refine wpAnyH_ready (rs := [4]) (by kernel_rfl) (by simp) ?_
          refine (AllReadyH.cons (o := { dst := some 77, op := Go.Op.buildSlice 42 1 #[(0, Go.Operand.tmp 76)], type := 42, pos := "object.go:165", after := #[{ on := 3, ground := Go.Ground.data }], guard := none }) rfl (fun K hK => ?_) AllReadyH.nil)
          rw [if_pos (by rfl)]
          go_simp
          have HP7 := Lib.hid (((Chg.refl No w5).alloc (.cells #[.int .u64 (id : Int)] 32)).heap HP6.out (fun x => x))
          have u2 := cellAt HP7.out 1 (.slice A5 al c5) rfl
          refine hK.out _ _ trivial (fun hSw => ?_)
          clear hK
          try simp only [Act.put, List.setIfInBounds_toArray, List.set_cons_zero, List.set_cons_succ]
          refine wpAnyH_ready (rs := [5]) (by kernel_rfl) (by simp) ?_
          refine (AllReadyH.cons (o := { dst := some 78, op := Go.Op.call { callee := Go.Callee.builtin Go.Builtin.append, args := #[Go.Operand.tmp 74, Go.Operand.tmp 77], argTypes := #[42, 42] }, type := 42, pos := "object.go:165", after := #[{ on := 1, ground := Go.Ground.data }, { on := 4, ground := Go.Ground.data }, { on := 3, ground := Go.Ground.chain }], guard := none }) rfl (fun K hK => ?_) AllReadyH.nil)
          rw [if_pos (by rfl)]
          refine wp_app2 (.tmp 74) (.tmp 77) 42 42 rfl (g + 1) 32 (.int .u64 0) 1 8 infoId Try.underlying42 rfl (by decide) (.slice A5 al c5) (.slice (some ⟨w5.heap.size, 0, none⟩) 1 1) al 1 (acc.map u64v) [u64v id] rfl rfl ?_ ?_ ?_ ?_ ?_ ?_
          · exact World.ownsRow.alloc HO6.out _
          · exact Src.one Try.underlying42 _ rfl
          · omega
          · unfold maxLen; omega
          · simp only [World.size_alloc]; omega
          intro v8 w8 hown8 hg8 hfrom8
          obtain ⟨A8, c8, rfl⟩ := ownsRow_form hown8
          have HP8 := Lib.hid (row_keep (World.ownsRow.alloc HO6.out (.cells #[.int .u64 (id : Int)] 32)) hg8 HP7.out (by decide))
          have u3 := cellAt HP8.out 1 (.slice A5 al c5) rfl
          have f3 := frzAt HP8.out 1
          refine hK.out _ _ trivial (fun hSw => ?_)
          clear hK
          try simp only [Act.put, List.setIfInBounds_toArray, List.set_cons_zero, List.set_cons_succ]
          refine wpAnyH_take (i := 6) (oi := { dst := some 79, op := Go.Op.fieldAddr 44 (Go.Operand.tmp 9) 1, type := 0, pos := "object.go:165", after := #[{ on := 0, ground := Go.Ground.phase }, { on := 1, ground := Go.Ground.phase }, { on := 2, ground := Go.Ground.phase }, { on := 3, ground := Go.Ground.phase }, { on := 4, ground := Go.Ground.phase }, { on := 5, ground := Go.Ground.phase }], guard := none }) (v := ?_) rfl (by kernel_rfl) (by kernel_rfl) (by kernel_rfl) (fun _ _ _ h => h) (Or.inl ⟨by rfl, ?_⟩) hSw ?_
          rotate_left
          · (intro W hW; (try dsimp only at hW); go_simp; try with_reducible rfl)
          try simp only [Act.put, List.setIfInBounds_toArray, List.set_cons_zero, List.set_cons_succ]
          refine wpAnyH_ready (rs := [7]) (by kernel_rfl) (by simp) ?_
          refine (AllReadyH.cons (o := { dst := none, op := Go.Op.store 42 (Go.Operand.tmp 79) (Go.Operand.tmp 78), type := 0, pos := "object.go:165", after := #[{ on := 6, ground := Go.Ground.data }, { on := 5, ground := Go.Ground.data }, { on := 5, ground := Go.Ground.chain }, { on := 0, ground := Go.Ground.phase }, { on := 1, ground := Go.Ground.phase }, { on := 2, ground := Go.Ground.phase }, { on := 3, ground := Go.Ground.phase }, { on := 4, ground := Go.Ground.phase }, { on := 5, ground := Go.Ground.phase }], guard := none }) rfl (fun K hK => ?_) AllReadyH.nil)
          rw [if_pos (by rfl)]
          go_simp
          refine hK.out _ _ trivial (fun hSw => ?_)
          clear hK
          try simp only [Act.put, List.setIfInBounds_toArray, List.set_cons_zero, List.set_cons_succ]
          refine wpAnyH_done (by kernel_rfl) ?_ _
          have hC9 := (HC6.out.alloc (.cells #[.int .u64 (id : Int)] 32)).grown hg8 (fun q hq => .inl (by have := (World.ownsRow.lt HO6.out q hq).1; omega))
          have hS : ∀ q, (Value.slice A5 al c5).ownBlock = some q → g + 1 ≤ q := fun q hq => (World.ownsRow.lt HO6.out q hq).1
          have hr9 := (HR6.out.no ((Chg.refl No w5).alloc (.cells #[.int .u64 (id : Int)] 32))).chg (Chg.ofGrown (S := fun k => (Value.slice A5 al c5).ownBlock = some k) hg8 (fun k hk => hk)) (fun h => by have := hS _ h; omega) (fun h => by have := hS _ h; omega)
          have hO9 := ownsRow_chg hown8 (Chg.put w8 gc 1 (.slice A8 (al + 1) c8)) (fun q hq h => by
            have h : q = gc := h
            subst h
            obtain ⟨cc, fz, hcc⟩ := ownsRow_cells hown8 q hq
            have := hcc.symm.trans HP8.out
            simp only [Option.some.injEq, Obj.cells.injEq] at this
            exact absurd this.2.1 (by decide))
          have hp9 := heap_set HP8.out 1 (.slice A8 (al + 1) c8)
          simp only [List.setIfInBounds_toArray, List.set_cons_succ, List.set_cons_zero] at hp9
          have HT9 : Hid (CI w (w8.setCell ⟨gc, 1, none⟩ (.slice A8 (al + 1) c8)) g d gc t R3 (acc ++ [id])) :=
            ⟨hr9.chg (Chg.put w8 gc 1 _) (by intro h; have h : g = gc := h; omega) (by intro h; have h : d = gc := h; omega), ⟨_, hp9, by rw [List.length_append, List.map_append, HAL.out]; exact hO9⟩, hC9.one (Chg.put w8 gc 1 _) (.inl (by omega))⟩
          have hgs9 : gc < (w8.setCell ⟨gc, 1, none⟩ (.slice A8 (al + 1) c8)).heap.size := (Array.getElem?_eq_some_iff.1 hp9).1
          have HCV : Hid (preF xs = some (afterC (t, R4) (readP (k - 1) R3 (acc ++ [id])))) := by rw [Hid, HP.out, HE.out]
          have hR3 : R3.rest.length ≤ R.rest.length := by have := HRR.out; omega
          clear hC9 hS hr9 hO9 hp9 hown8 hg8 hfrom8 u1 u2 u3 f3
          go_wp2
          go_roundw
          case rel => exact ⟨k - 1, R3, acc ++ [id], by first | rfl | (congr 1; omega) | (simp; omega), by omega, by omega, by rw [List.length_append, List.length_singleton, HAL.out]; have := HRR.out; split at this <;> split <;> first | omega | contradiction, hgs9, HCV.out, HT9.out⟩
          case measure => first | (simp [intOf]; omega) | omega
        · skip
          rw [if_pos (by rfl)]
          go_simp
          have HP7 := Lib.hid (((Chg.refl No w5).alloc (.cells #[.int .u64 (id : Int)] 32)).heap HP6.out (fun x => x))
          have u2 := cellAt HP7.out 1 (.slice A5 al c5) rfl
          refine hK.out _ _ trivial (fun hSw => ?_)
          clear hK
          try simp only [Act.put, List.setIfInBounds_toArray, List.set_cons_zero, List.set_cons_succ]
          refine wpAnyH_ready (rs := [1]) (by kernel_rfl) (by simp) ?_
          refine (AllReadyH.cons (o := { dst := some 74, op := Go.Op.load 42 (Go.Operand.tmp 73), type := 42, pos := "object.go:165", after := #[{ on := 0, ground := Go.Ground.data }], guard := none }) rfl (fun K hK => ?_) AllReadyH.nil)
          rw [if_pos (by rfl)]
          go_simp
          refine hK.out _ _ trivial (fun hSw => ?_)
          clear hK
          try simp only [Act.put, List.setIfInBounds_toArray, List.set_cons_zero, List.set_cons_succ]
          refine wpAnyH_ready (rs := [5]) (by kernel_rfl) (by simp) ?_
          refine (AllReadyH.cons (o := { dst := some 78, op := Go.Op.call { callee := Go.Callee.builtin Go.Builtin.append, args := #[Go.Operand.tmp 74, Go.Operand.tmp 77], argTypes := #[42, 42] }, type := 42, pos := "object.go:165", after := #[{ on := 1, ground := Go.Ground.data }, { on := 4, ground := Go.Ground.data }, { on := 3, ground := Go.Ground.chain }], guard := none }) rfl (fun K hK => ?_) AllReadyH.nil)
          rw [if_pos (by rfl)]
          refine wp_app2 (.tmp 74) (.tmp 77) 42 42 rfl (g + 1) 32 (.int .u64 0) 1 8 infoId Try.underlying42 rfl (by decide) (.slice A5 al c5) (.slice (some ⟨w5.heap.size, 0, none⟩) 1 1) al 1 (acc.map u64v) [u64v id] rfl rfl ?_ ?_ ?_ ?_ ?_ ?_
          · exact World.ownsRow.alloc HO6.out _
          · exact Src.one Try.underlying42 _ rfl
          · omega
          · unfold maxLen; omega
          · simp only [World.size_alloc]; omega
          intro v8 w8 hown8 hg8 hfrom8
          obtain ⟨A8, c8, rfl⟩ := ownsRow_form hown8
          have HP8 := Lib.hid (row_keep (World.ownsRow.alloc HO6.out (.cells #[.int .u64 (id : Int)] 32)) hg8 HP7.out (by decide))
          have u3 := cellAt HP8.out 1 (.slice A5 al c5) rfl
          have f3 := frzAt HP8.out 1
          refine hK.out _ _ trivial (fun hSw => ?_)
          clear hK
          try simp only [Act.put, List.setIfInBounds_toArray, List.set_cons_zero, List.set_cons_succ]
          refine wpAnyH_take (i := 6) (oi := { dst := some 79, op := Go.Op.fieldAddr 44 (Go.Operand.tmp 9) 1, type := 0, pos := "object.go:165", after := #[{ on := 0, ground := Go.Ground.phase }, { on := 1, ground := Go.Ground.phase }, { on := 2, ground := Go.Ground.phase }, { on := 3, ground := Go.Ground.phase }, { on := 4, ground := Go.Ground.phase }, { on := 5, ground := Go.Ground.phase }], guard := none }) (v := ?_) rfl (by kernel_rfl) (by kernel_rfl) (by kernel_rfl) (fun _ _ _ h => h) (Or.inl ⟨by rfl, ?_⟩) hSw ?_
          rotate_left
          · (intro W hW; (try dsimp only at hW); go_simp; try with_reducible rfl)
          try simp only [Act.put, List.setIfInBounds_toArray, List.set_cons_zero, List.set_cons_succ]
          refine wpAnyH_ready (rs := [7]) (by kernel_rfl) (by simp) ?_
          refine (AllReadyH.cons (o := { dst := none, op := Go.Op.store 42 (Go.Operand.tmp 79) (Go.Operand.tmp 78), type := 0, pos := "object.go:165", after := #[{ on := 6, ground := Go.Ground.data }, { on := 5, ground := Go.Ground.data }, { on := 5, ground := Go.Ground.chain }, { on := 0, ground := Go.Ground.phase }, { on := 1, ground := Go.Ground.phase }, { on := 2, ground := Go.Ground.phase }, { on := 3, ground := Go.Ground.phase }, { on := 4, ground := Go.Ground.phase }, { on := 5, ground := Go.Ground.phase }], guard := none }) rfl (fun K hK => ?_) AllReadyH.nil)
          rw [if_pos (by rfl)]
          go_simp
          refine hK.out _ _ trivial (fun hSw => ?_)
          clear hK
          try simp only [Act.put, List.setIfInBounds_toArray, List.set_cons_zero, List.set_cons_succ]
          refine wpAnyH_done (by kernel_rfl) ?_ _
          have hC9 := (HC6.out.alloc (.cells #[.int .u64 (id : Int)] 32)).grown hg8 (fun q hq => .inl (by have := (World.ownsRow.lt HO6.out q hq).1; omega))
          have hS : ∀ q, (Value.slice A5 al c5).ownBlock = some q → g + 1 ≤ q := fun q hq => (World.ownsRow.lt HO6.out q hq).1
          have hr9 := (HR6.out.no ((Chg.refl No w5).alloc (.cells #[.int .u64 (id : Int)] 32))).chg (Chg.ofGrown (S := fun k => (Value.slice A5 al c5).ownBlock = some k) hg8 (fun k hk => hk)) (fun h => by have := hS _ h; omega) (fun h => by have := hS _ h; omega)
          have hO9 := ownsRow_chg hown8 (Chg.put w8 gc 1 (.slice A8 (al + 1) c8)) (fun q hq h => by
            have h : q = gc := h
            subst h
            obtain ⟨cc, fz, hcc⟩ := ownsRow_cells hown8 q hq
            have := hcc.symm.trans HP8.out
            simp only [Option.some.injEq, Obj.cells.injEq] at this
            exact absurd this.2.1 (by decide))
          have hp9 := heap_set HP8.out 1 (.slice A8 (al + 1) c8)
          simp only [List.setIfInBounds_toArray, List.set_cons_succ, List.set_cons_zero] at hp9
          have HT9 : Hid (CI w (w8.setCell ⟨gc, 1, none⟩ (.slice A8 (al + 1) c8)) g d gc t R3 (acc ++ [id])) :=
            ⟨hr9.chg (Chg.put w8 gc 1 _) (by intro h; have h : g = gc := h; omega) (by intro h; have h : d = gc := h; omega), ⟨_, hp9, by rw [List.length_append, List.map_append, HAL.out]; exact hO9⟩, hC9.one (Chg.put w8 gc 1 _) (.inl (by omega))⟩
          have hgs9 : gc < (w8.setCell ⟨gc, 1, none⟩ (.slice A8 (al + 1) c8)).heap.size := (Array.getElem?_eq_some_iff.1 hp9).1
          have HCV : Hid (preF xs = some (afterC (t, R4) (readP (k - 1) R3 (acc ++ [id])))) := by rw [Hid, HP.out, HE.out]
          have hR3 : R3.rest.length ≤ R.rest.length := by have := HRR.out; omega
          clear hC9 hS hr9 hO9 hp9 hown8 hg8 hfrom8 u1 u2 u3 f3
          go_wp2
          go_roundw
          case rel => exact ⟨k - 1, R3, acc ++ [id], by first | rfl | (congr 1; omega) | (simp; omega), by omega, by omega, by rw [List.length_append, List.length_singleton, HAL.out]; have := HRR.out; split at this <;> split <;> first | omega | contradiction, hgs9, HCV.out, HT9.out⟩
          case measure => first | (simp [intOf]; omega) | omega
end Go.Proofs.Ytccphnkdnifpfaa


namespace Go.Proofs.Ytccphnkdnifpfaa
set_option linter.unnecessarySimpa false
open Go.RowKit Go.MapKept
set_option linter.unusedVariables false
set_option linter.unusedSimpArgs false
set_option maxRecDepth 100000

def objK : ByteArray := ⟨#[111, 98, 106, 101, 99, 116, 115]⟩
/-- A store's own cells. -/
def SC (w : World) (base s mp j : Nat) (v : Value) (ids : List Nat) : Prop :=
  w.heap[s]? = some (.cells #[.pointer (some ⟨j, 0, none⟩), .map (some mp), v] 91 (0, 0)) ∧ w.heap[mp]? = some (mapI ids) ∧ w.ownsRow base 32 1 v ids.length (ids.map u64v) ∧ base ≤ s ∧ base ≤ mp
/-- A store of rows ps, over a journal; all of it lies in blocks of S. -/
def SD (w : World) (S : Nat → Prop) (base s mp j d m wr : Nat) (th : Bool) (ps : List (List UInt8)) : Prop :=
  ∃ v SJ, SC w base s mp j v (ps.map idF) ∧ JD w SJ base j d m wr objK th ps ∧ (∀ i, SJ i → S i ∧ i ≠ s ∧ i ≠ mp ∧ ¬ v.ownBlock = some i) ∧ S s ∧ S mp ∧ (∀ b, v.ownBlock = some b → S b) ∧ (∀ i, S i → base ≤ i ∧ i < w.heap.size) ∧ base ≤ w.heap.size
theorem SC.chg {T : Nat → Prop} {w w' : World} {base s mp j : Nat} {v : Value} {ids : List Nat} (h : SC w base s mp j v ids) (hc : Chg T w w') (h1 : ¬ T s) (h2 : ¬ T mp) (h3 : ∀ b, v.ownBlock = some b → ¬ T b) : SC w' base s mp j v ids :=
  ⟨hc.heap h.1 h1, hc.heap h.2.1 h2, ownsRow_chg h.2.2.1 hc h3, h.2.2.2.1, h.2.2.2.2⟩
theorem SD.chg {T S : Nat → Prop} {w w' : World} {base s mp j d m wr : Nat} {th : Bool} {ps : List (List UInt8)} (h : SD w S base s mp j d m wr th ps) (hc : Chg T w w') (hs : ∀ i, S i → ¬ T i) : SD w' S base s mp j d m wr th ps := by
  obtain ⟨v, SJ, h1, h2, h3, h4, h5, h6, h7, h8⟩ := h
  exact ⟨v, SJ, h1.chg hc (hs _ h4) (hs _ h5) (fun b hb => hs _ (h6 b hb)), h2.chg hc (fun i hi => hs _ (h3 i hi).1), h3, h4, h5, h6, fun i hi => ⟨(h7 i hi).1, Nat.lt_of_lt_of_le (h7 i hi).2 hc.size⟩, Nat.le_trans h8 hc.size⟩
theorem SD.no {S : Nat → Prop} {w w' : World} {base s mp j d m wr : Nat} {th : Bool} {ps : List (List UInt8)} (h : SD w S base s mp j d m wr th ps) (hc : Chg No w w') : SD w' S base s mp j d m wr th ps := h.chg hc (fun _ _ x => x)
theorem SD.lt {S : Nat → Prop} {w : World} {base s mp j d m wr : Nat} {th : Bool} {ps : List (List UInt8)} (h : SD w S base s mp j d m wr th ps) : ∀ i, S i → base ≤ i ∧ i < w.heap.size := by
  obtain ⟨v, SJ, h1, h2, h3, h4, h5, h6, h7, h8⟩ := h; exact h7
theorem SC.form {w : World} {base s mp j : Nat} {v : Value} {ids : List Nat} (h : SC w base s mp j v ids) : ∃ A c, v = .slice A ids.length c := ownsRow_form h.2.2.1
theorem cells3 {w : World} {g : Nat} {a b c : Value} {t : TypeId} (h : w.heap[g]? = some (.cells #[a, b, c] t (0, 0))) : w.cell? ⟨g, 0, none⟩ = some a ∧ w.cell? ⟨g, 1, none⟩ = some b ∧ w.cell? ⟨g, 2, none⟩ = some c :=
  ⟨cellAt h 0 _ rfl, cellAt h 1 _ rfl, cellAt h 2 _ rfl⟩
theorem smap_ne {w : World} {base s mp j : Nat} {v : Value} {ids : List Nat} (h : SC w base s mp j v ids) : s ≠ mp := by
  rintro rfl
  have := h.1.symm.trans h.2.1
  simp [mapI] at this
set_option maxHeartbeats 1600000 in
theorem slen_calls (w : World) (base s mp j : Nat) (v : Value) (ids : List Nat) (h : SC w base s mp j v ids) :
    Calls Try.prog 21 #[.pointer (some ⟨s, 0, none⟩)] w fun e w' => e = .returned (.int .i64 (ids.length : Int)) ∧ w = w' := by
  obtain ⟨A, c, rfl⟩ := h.form
  obtain ⟨c0, c1, c2⟩ := cells3 h.1
  generalize ids.length = n at *
  go_enter Try.func21, Try.ntmps21
  go_wp2
  go_ret
  exact ⟨rfl, rfl⟩
set_option maxHeartbeats 1600000 in
theorem shas_calls (w : World) (base s mp j : Nat) (v : Value) (ids : List Nat) (h : SC w base s mp j v ids) (i : Nat) :
    Calls Try.prog 20 #[.pointer (some ⟨s, 0, none⟩), .int .u64 (i : Int)] w fun e w' => e = .returned (.bool (findI i ids).isSome) ∧ w = w' := by
  obtain ⟨c0, c1, c2⟩ := cells3 h.1
  cases hf : findI i ids with
  | none =>
    have hlk : Sem.run Try.prog (Instr.lookup 89 (.map (some mp)) (.int .u64 (i : Int)) true) w = .ok (.tuple #[.int .i64 0, .bool false]) w := lookI_none w mp i ids h.2.1 hf
    clear hf
    go_enter Try.func20, Try.ntmps20
    go_wp2
    go_ret
    exact ⟨rfl, rfl⟩
  | some q =>
    have hlk : Sem.run Try.prog (Instr.lookup 89 (.map (some mp)) (.int .u64 (i : Int)) true) w = .ok (.tuple #[.int .i64 (q : Int), .bool true]) w := lookI_some w mp i q ids h.2.1 hf
    clear hf
    go_enter Try.func20, Try.ntmps20
    go_wp2
    go_ret
    exact ⟨rfl, rfl⟩
/-- What Bytes answers. -/
def BytesR (w : World) (ps : List (List UInt8)) (i : Nat) (e : Ending) (w' : World) : Prop := match findI i (ps.map idF) with
  | none => e = .returned (.tuple #[.slice none 0 0, .int .i64 4])
  | some q => ∃ v, e = .returned (.tuple #[v, .int .i64 0]) ∧ OwnB w' w.heap.size v (ps.getD q [])
set_option maxHeartbeats 1600000 in
theorem sbytes_calls (w : World) (S : Nat → Prop) (base s mp j d m wr : Nat) (th : Bool) (ps : List (List UInt8)) (h : SD w S base s mp j d m wr th ps) (hn : (encF ps).length ≤ 4194304) (i : Nat) :
    Calls Try.prog 13 #[.pointer (some ⟨s, 0, none⟩), .int .u64 (i : Int)] w fun e w' => BytesR w ps i e w' ∧ Chg No w w' := by
  obtain ⟨v, SJ, h1, h2, -⟩ := h
  obtain ⟨c0, c1, c2⟩ := cells3 h1.1
  cases hf : findI i (ps.map idF) with
  | none =>
    have hlk : Sem.run Try.prog (Instr.lookup 89 (.map (some mp)) (.int .u64 (i : Int)) true) w = .ok (.tuple #[.int .i64 0, .bool false]) w := lookI_none w mp i _ h1.2.1 hf
    have HB : Hid (∀ e w', BytesR w ps i e w' = (e = .returned (.tuple #[.slice none 0 0, .int .i64 4]))) := fun e w' => by rw [BytesR, hf]
    clear hf h1 h2
    go_enter Try.func13, Try.ntmps13
    go_wp2
    go_ret2
    exact ⟨by rw [HB.out]; try rfl, Chg.refl _ _⟩
  | some q =>
    obtain ⟨hq, -⟩ := findI_some hf
    rw [List.length_map] at hq
    have hlk : Sem.run Try.prog (Instr.lookup 89 (.map (some mp)) (.int .u64 (i : Int)) true) w = .ok (.tuple #[.int .i64 (q : Int), .bool true]) w := lookI_some w mp i q _ h1.2.1 hf
    have HB : Hid (∀ e w', BytesR w ps i e w' = ∃ v, e = .returned (.tuple #[v, .int .i64 0]) ∧ OwnB w' w.heap.size v (ps.getD q [])) := fun e w' => by rw [BytesR, hf]
    have HR := Lib.hid (record_in w SJ base j d m wr objK th ps q hq h2 hn)
    have HP : Hid (ps.getD q [] = ps[q]) := by rw [Hid, List.getD, List.getElem?_eq_getElem hq]; rfl
    clear hf h1 h2
    go_enter Try.func13, Try.ntmps13
    go_wp2_with fail
    refine HR.out.mono ?_
    rintro e w1 ⟨u, rfl, ho, hc⟩
    have HO := Lib.hid ho
    have HC := Lib.hid hc
    clear ho hc
    go_wp2
    go_ret2
    exact ⟨by rw [HB.out]; exact ⟨_, rfl, by rw [HP.out]; exact HO.out⟩, HC.out⟩
set_option maxHeartbeats 3200000 in
theorem note_calls (w : World) (base s mp j : Nat) (v : Value) (ids : List Nat) (i : Nat) (h : SC w base s mp j v ids) (hf : findI i ids = none) (hl : ids.length ≤ 1000000) (hb : base ≤ w.heap.size) :
    Calls Try.prog 35 #[.pointer (some ⟨s, 0, none⟩), .int .u64 (i : Int), .int .i64 (ids.length : Int)] w fun e w' => e = .returned (.tuple #[]) ∧ ∃ v', SC w' base s mp j v' (ids ++ [i]) ∧ Chg (fun k => k = s ∨ k = mp ∨ v.ownBlock = some k) w w' ∧ From w v v' := by
  have hne := smap_ne h
  obtain ⟨A, c, rfl⟩ := h.form
  obtain ⟨c0, c1, c2⟩ := cells3 h.1
  have hup : Sem.run Try.prog (Instr.mapUpdate 89 (.map (some mp)) (.int .u64 (i : Int)) (.int .i64 (ids.length : Int))) w = .ok () (w.putObj mp (mapI (ids ++ [i]))) := updateI w mp i ids h.2.1 hf
  have hg1 := grownBy_putObj' w mp (mapI (ids ++ [i]))
  have hc1 : Chg (One mp) w (w.putObj mp (mapI (ids ++ [i]))) := ⟨rfl, rfl, rfl, hg1.size, fun k hk hn => hg1.block k hk (fun e => hn (Option.some.inj e))⟩
  have hvm : ∀ b, (Value.slice A ids.length c).ownBlock = some b → ¬ b = mp := fun b hb e => by
    subst e
    obtain ⟨cc, fz, hcc⟩ := ownsRow_cells h.2.2.1 b hb
    have := hcc.symm.trans h.2.1
    simp [mapI] at this
  have hvs : ¬ (Value.slice A ids.length c).ownBlock = some s := fun hb => by
    obtain ⟨cc, fz, hcc⟩ := ownsRow_cells h.2.2.1 s hb
    have := hcc.symm.trans h.1
    simp only [Option.some.injEq, Obj.cells.injEq] at this
    exact absurd this.2.1 (by decide)
  have hm1 : (w.putObj mp (mapI (ids ++ [i]))).heap[mp]? = some (mapI (ids ++ [i])) := by
    have hlt : mp < w.heap.size := (Array.getElem?_eq_some_iff.1 h.2.1).1
    simp [World.putObj, hlt]
  have hs1 := hc1.heap h.1 (fun e : s = mp => hne e)
  have ho1 := ownsRow_chg h.2.2.1 hc1 hvm
  obtain ⟨W1, hW1⟩ : ∃ W1, W1 = w.putObj mp (mapI (ids ++ [i])) := ⟨_, rfl⟩
  rw [← hW1] at hup hc1 hm1 hs1 ho1
  obtain ⟨d0, d1, d2⟩ := cells3 hs1
  have HA := Lib.hid ((Chg.refl No W1).alloc (.cells #[.int .u64 (i : Int)] 32))
  obtain ⟨e0, e1, e2⟩ := cells3 (HA.out.heap hs1 (fun x => x))
  have ho2 : Hid ((W1.alloc (.cells #[.int .u64 (i : Int)] 32)).ownsRow base 32 1 (.slice A ids.length c) ids.length (ids.map u64v)) := World.ownsRow.alloc ho1 _
  have hbs : base ≤ W1.heap.size := Nat.le_trans hb hc1.size
  have hs4 := h.2.2.2.1
  have hm4 := h.2.2.2.2
  have HS1 := Lib.hid hs1
  have HM1 := Lib.hid hm1
  have HC1 := Lib.hid hc1
  have HVM := Lib.hid hvm
  have HVS := Lib.hid hvs
  clear hm1 hs1 ho1 hc1 hg1 hvm hvs hf h hW1
  have HN : Hid ((ids ++ [i]).length = ids.length + 1) := by rw [Hid, List.length_append]; rfl
  have HU : Hid ((ids ++ [i]).map u64v = ids.map u64v ++ [.int .u64 (i : Int)]) := by rw [Hid, List.map_append]; rfl
  generalize ids.length = n at *
  generalize ids ++ [i] = ids' at *
  go_enter Try.func35, Try.ntmps35
  go_wp2_with (at_builtin; (refine wpList_app2 rfl (.tmp 16) (.tmp 18) 42 42 rfl base 32 (.int .u64 0) 1 8 infoId Try.underlying42 rfl (by decide) (.slice A n c) (.slice (some ⟨W1.heap.size, 0, none⟩) 1 1) n 1 (ids.map u64v) [.int .u64 (i : Int)] rfl rfl ?own ?src ?b1 ?b2 ?b3 ?_; (case own => exact ho2.out); (case src => exact Src.one Try.underlying42 _ rfl); (case b1 => omega); (case b2 => unfold maxLen; omega); (case b3 => rw [World.size_alloc]; omega); intro v8 w8 hown8 hg8 hfrom8; refine Hid.out ?_))
  refine Lib.hid ?_
  obtain ⟨A8, c8, rfl⟩ := ownsRow_form hown8
  have hx8 : w8.heap[s]? = some (.cells #[.pointer (some ⟨j, 0, none⟩), .map (some mp), .slice A n c] 91 (0, 0)) := (Chg.ofGrown (S := fun k => (Value.slice A n c).ownBlock = some k) hg8 (fun k hk => hk)).heap (HA.out.heap HS1.out (fun x => x)) (fun e => HVS.out e)
  have hy8 : w8.heap[mp]? = some (mapI ids') := (Chg.ofGrown (S := fun k => (Value.slice A n c).ownBlock = some k) hg8 (fun k hk => hk)).heap (HA.out.heap HM1.out (fun x => x)) (fun e => HVM.out mp e rfl)
  obtain ⟨f0, f1, f2⟩ := cells3 hx8
  have fz := fun i => frzAt hx8 i
  have hc8 : Chg (fun k => k = s ∨ k = mp ∨ (Value.slice A n c).ownBlock = some k) w (w8.setCell ⟨s, 2, none⟩ (.slice A8 (n + 1) c8)) :=
    (((HC1.out.mono (S' := fun k => k = s ∨ k = mp ∨ (Value.slice A n c).ownBlock = some k) (fun i hi hx => .inr (.inl hx))).no HA.out).grown hg8 (fun k hk => .inr (.inr (.inr hk)))).setCell (p := ⟨s, 2, none⟩) (.inr (.inl rfl)) _
  have HX := Lib.hid hx8
  have HY := Lib.hid hy8
  have HC8 := Lib.hid hc8
  have HO8 := Lib.hid hown8
  have HF8 := Lib.hid hfrom8
  have hz : w.heap.size ≤ W1.heap.size := HC1.out.size
  have hvs8 : ¬ (Value.slice A8 (n + 1) c8).ownBlock = some s := fun hb => by
    obtain ⟨cc, fz, hcc⟩ := ownsRow_cells hown8 s hb
    have := hcc.symm.trans hx8
    simp only [Option.some.injEq, Obj.cells.injEq] at this
    exact absurd this.2.1 (by decide)
  have HV8 := Lib.hid hvs8
  clear hx8 hy8 hc8 hown8 hg8 hfrom8 hvs8
  go_wp2
  go_end0
  refine ⟨rfl, .slice A8 (n + 1) c8, ⟨heap_set HX.out 2 _, (Chg.put w8 s 2 _).heap HY.out (fun e : mp = s => hne e.symm), ?_, hs4, hm4⟩, HC8.out, ?_⟩
  · rw [HN.out, HU.out]
    exact ownsRow_chg HO8.out (Chg.put w8 s 2 _) (fun b hb (e : b = s) => HV8.out (by rw [hb, e]))
  · intro b hb
    rcases HF8.out with e | e
    · rw [e] at hb; exact .inl hb
    · rw [e] at hb
      obtain rfl := Option.some.inj hb
      right
      rw [World.size_alloc]; omega
end Go.Proofs.Ytccphnkdnifpfaa

