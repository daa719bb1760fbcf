/-
  Decode of a tree.
-/
import Derived.Test.YtkmnkbmmgopldaaD1
namespace Go.Proofs.Ytkmnkbmmgopldaa
open Go.RowKit
set_option linter.unusedVariables false
set_option linter.unusedSimpArgs false
set_option maxRecDepth 100000

theorem RdrAt.dlt {w : World} {g d : Nat} {r : Rd} (h : RdrAt w g d r) (hne : r.rest ≠ []) : d < w.heap.size := by
  obtain ⟨A, c, h1, h2, h3, h4⟩ := h
  obtain ⟨b, o, rfl, hc⟩ := h2.addr (List.length_pos_iff.2 hne)
  have := h3 _ rfl
  subst this
  exact World.block_lt_of_cell? w _ (hc 0 (List.length_pos_iff.2 hne))
theorem RdrAt.dg {w : World} {g d : Nat} {r : Rd} (h : RdrAt w g d r) : d ≠ g := by
  obtain ⟨A, c, h1, h2, h3, h4⟩ := h
  exact h4
theorem heap_set {w : World} {g : Nat} {cs : Array Value} {t : TypeId} {fz : Nat × Nat} (h : w.heap[g]? = some (.cells cs t fz)) (i : Nat) (u : Value) : (w.setCell ⟨g, i, none⟩ u).heap[g]? = some (.cells (cs.setIfInBounds i u) t fz) := by
  unfold World.setCell
  simp [Array.getElem?_modify, h]
/-- A row's block and a block of another type: what an append leaves. -/
theorem row_keep {w w' : World} {base g size n : Nat} {e t : TypeId} {v : Value} {xs : List Value} {cs : Array Value} (ho : w.ownsRow base e size v n xs) (hg : w.grownBy w' v.ownBlock) (h : w.heap[g]? = some (.cells cs t (0, 0))) (ht : t ≠ e) : w'.heap[g]? = some (.cells cs t (0, 0)) := by
  refine (Chg.ofGrown (S := fun k => v.ownBlock = some k) hg (fun k hk => hk)).heap h (fun hx => ?_)
  obtain ⟨c, fz, hc⟩ := ownsRow_cells ho g hx
  rw [h] at hc
  simp only [Option.some.injEq, Obj.cells.injEq] at hc
  exact ht hc.2.1
theorem rText_rest (most : Int) (r : Rd) (h : r.err = 0) : ((rText most r).2.err = 0 → (rText most r).2.rest.length < r.rest.length) ∧ (rText most r).2.rest.length ≤ r.rest.length := by
  obtain ⟨xs, e⟩ := r
  simp only at h
  subst h
  have hF := numF_at xs
  unfold rText
  simp only [ne_eq, not_true_eq_false, if_false]
  split
  · exact ⟨fun h => by simp at h, Nat.le_refl _⟩
  · split
    · rename_i h1 h2
      exact ⟨fun h => absurd h h2, Nat.le_refl _⟩
    · split
      · exact ⟨fun h => by simp at h, Nat.le_refl _⟩
      · split
        · exact ⟨fun h => by simp at h, Nat.le_refl _⟩
        · rename_i h1 h2 h3 h4
          have h2' : (numF 0 0 xs).2.2 = 0 := by simpa using h2
          have := hF.2.2.2.2 h2'
          have h5 := hF.1
          refine ⟨fun _ => ?_, ?_⟩ <;> simp only [List.length_drop] <;> omega
theorem rByte_rest (r : Rd) : (rByte r).2.rest.length ≤ r.rest.length ∧ (r.err ≠ 0 → rByte r = (0, r)) := by
  unfold rByte
  split
  · exact ⟨Nat.le_refl _, fun _ => rfl⟩
  · rename_i h
    refine ⟨?_, fun h' => absurd h' h⟩
    split
    · simp
    · rename_i e; rw [e]; simp
theorem rWord_rest (r : Rd) : (rWord r).2.rest.length ≤ r.rest.length ∧ (r.err ≠ 0 → (rWord r).2 = r) := by
  unfold rWord
  split
  · exact ⟨Nat.le_refl _, fun _ => rfl⟩
  · rename_i h
    refine ⟨?_, fun h' => absurd h' h⟩
    split
    · exact Nat.le_refl _
    · simp only [List.length_drop]; omega
theorem rUint_rest (r : Rd) : (rUint r).2.rest.length ≤ r.rest.length := by
  unfold rUint
  split
  · exact Nat.le_refl _
  · split
    · exact Nat.le_refl _
    · simp only [List.length_drop]; omega
theorem rWord_lt (r : Rd) : (rWord r).1 < 18446744073709551616 := by
  unfold rWord
  split
  · exact (by decide : 0 < 18446744073709551616)
  · split
    · exact (by decide : 0 < 18446744073709551616)
    · rename_i h1 h2
      exact beF8_lt _ (by rw [List.length_take]; omega)
/-- A round's reads: what is left. -/
theorem round_rest (r : Rd) (h : r.err = 0) : (rWord (rByte (rText 32 r).2).2).2.rest.length + (if (rWord (rByte (rText 32 r).2).2).2.err = 0 then 1 else 0) ≤ r.rest.length := by
  obtain ⟨h1, h2⟩ := rText_rest 32 r h
  have h3 := rByte_rest (rText 32 r).2
  have h4 := rWord_rest (rByte (rText 32 r).2).2
  by_cases he : (rText 32 r).2.err = 0
  · have := h1 he
    split <;> omega
  · have e1 := h3.2 he
    have e2 : (rWord (rByte (rText 32 r).2).2).2 = (rText 32 r).2 := by
      rw [e1]
      exact (rWord_rest _).2 he
    rw [e2, if_neg he]
    omega
theorem infoEnt : (Try.prog.info? 35).map (fun i => (i.zero, i.size, i.bytes)) = some (some (.agg #[.string ⟨#[]⟩, .bool false, .int .u64 0]), 3, 32) := by kernel_rfl
theorem Src.entry {P : Program} {W : World} {tx e' t : TypeId} {g : Nat} (hk : P.underlying tx = some (.slice e')) (x : Ent) (hg : W.heap[g]? = some (.cells #[.string x.1, .bool x.2.1, .int .u64 (x.2.2 : Int)] t (0, 0))) :
    Src P 3 tx (.slice (some ⟨g, 0, none⟩) 1 1) 1 (encE x) W :=
  Src.ofSlice _ hk _ _ _ (encE x) (by simp [encE]) (fun i v hj => by
    rw [Addr.add_lit, Nat.zero_add]
    match i, hj with
    | 0, hj => simpa [World.cell?, hg, encE] using hj
    | 1, hj => simpa [World.cell?, hg, encE] using hj
    | 2, hj => simpa [World.cell?, hg, encE] using hj
    | i + 3, hj => simp [encE] at hj) (fun v hv => by
      simp only [encE, List.mem_cons, List.not_mem_nil, or_false] at hv
      rcases hv with rfl | rfl | rfl <;> rfl)
theorem readE_stop (k : Nat) (r : Rd) (acc : List Ent) (h : k = 0 ∨ r.err ≠ 0) : readE k r acc = (some acc, r) := by
  cases k with
  | zero => rfl
  | succ k => rw [readE, if_pos (h.resolve_left (by omega))]

theorem readE_step (k : Nat) (r : Rd) (acc : List Ent) (hk : 0 < k) (h : r.err = 0) : readE k r acc = if (rByte (rText 32 r).2).1 ≠ 0 ∧ (rByte (rText 32 r).2).1 ≠ 1 then (none, (rByte (rText 32 r).2).2)
    else readE (k - 1) (rWord (rByte (rText 32 r).2).2).2 (acc ++ [(mkS (rText 32 r).1, (rByte (rText 32 r).2).1 == 1, (rWord (rByte (rText 32 r).2).2).1)]) := by
  obtain ⟨m, rfl⟩ : ∃ m, k = m + 1 := ⟨k - 1, by omega⟩
  rw [readE, if_neg (by rw [h]; simp)]
  rfl
theorem ownsRow_mono {w : World} {base base' size n : Nat} {e : TypeId} {v : Value} {xs : List Value} (h : w.ownsRow base e size v n xs) (hb : base' ≤ base) : w.ownsRow base' e size v n xs := by
  obtain ⟨h1, h2⟩ := h
  refine ⟨h1, h2.imp id ?_⟩
  rintro ⟨g, cap, cur, hv, hg, r⟩
  exact ⟨g, cap, cur, hv, Nat.le_trans hb hg, r⟩
theorem rText_len (most : Int) (r : Rd) : (rText most r).1.length ≤ r.rest.length := by
  unfold rText
  split
  · exact Nat.zero_le _
  · split
    · exact Nat.zero_le _
    · split
      · exact Nat.zero_le _
      · split
        · exact Nat.zero_le _
        · split
          · exact Nat.zero_le _
          · simp only [List.length_take, List.length_drop]; omega
theorem rUint_lt (r : Rd) : (rUint r).1 < 18446744073709551616 := by
  unfold rUint
  split
  · exact (by decide : 0 < 18446744073709551616)
  · split
    · exact (by decide : 0 < 18446744073709551616)
    · exact (numF_at r.rest).2.1
/-- What the loop of a tree holds. -/
structure TI (w wr : World) (g d gt : Nat) (R : Rd) (acc : List Ent) : Prop where
  r : RdrAt wr g d R
  b : ∃ v, Box 33 wr gt v ∧ wr.ownsRow (g + 1) 35 3 v acc.length (acc.flatMap encE)
  c : Chg No w wr
  s : ∀ x ∈ acc, x.1.size ≤ 9223372036854775807

set_option maxHeartbeats 6400000 in
theorem decode_tree (w : World) (A : Option Addr) (n c : Nat) (xs : List UInt8) (hb : Bytes w (.slice A n c) xs) (hl : xs.length = n) (hn : n ≤ 1000000) (h1 : (rByte ⟨xs, 0⟩).1 = 116) :
    Calls Try.prog 20 #[.slice A n c] w fun e w' => DecR w.heap.size w' e (decF xs) ∧ Chg No w w' := by
  obtain ⟨b0, t0, rfl, hR⟩ := rByte_zero (xs := xs) (by rw [h1]; decide)
  have hb98 : b0 = 116 := by rw [hR] at h1; exact h1
  subst hb98
  have HPF : Hid (preF (116 :: t0) = (readE (rUint ⟨t0, 0⟩).1 (rUint ⟨t0, 0⟩).2 []).1.map (fun l => (.tree l, (readE (rUint ⟨t0, 0⟩).1 (rUint ⟨t0, 0⟩).2 []).2))) := by rw [Hid, preF, if_neg (by rw [h1]; decide), if_pos h1, hR]
  have ht0 : t0.length + 1 = n := by simp at hl; omega
  generalize hxs : (116 :: t0 : List UInt8) = xs at *
  have hxn : xs ≠ [] := by rw [← hxs]; simp
  have HR := Lib.hid hR
  clear hR hxs h1
  have HB := Lib.hid hb
  clear hb
  go_enter Try.func20, Try.ntmps20
  go_wp2_with fail
  refine (read_calls w A n c xs HB.out (by omega)).mono ?_
  rintro e w' ⟨w1, v, rfl, rfl, hown, hc⟩
  obtain ⟨d, hd, hr⟩ := RdrAt.made hown hc.size
  have hsz := hc.size
  have HC := Lib.hid ((hc.alloc (.cells #[.bool true, v, .int .i64 0] 118)))
  clear hown hc
  have hsz2 : (w1.alloc (.cells #[.bool true, v, .int .i64 0] 118)).heap.size = w1.heap.size + 1 := by simp
  generalize w1.alloc (.cells #[.bool true, v, .int .i64 0] 118) = w2 at *
  generalize w1.heap.size = g at *
  go_wp2_with fail
  refine (byte_calls w2 g d _ hr).mono ?_
  rintro e w3 ⟨rfl, hr3, hc3⟩
  have HC3 : Hid (Chg No w w3) := HC.out.one hc3 (.inl hsz)
  have hdg := hr.dg
  have hdl := hr.dlt hxn
  have hw2 := Lib.hid hsz2
  clear hc3 hr HC
  have hdlg : d < g := by have := hw2.out; omega
  rw [HR.out] at hr3 ⊢
  simp only [show ((116 : UInt8).toNat : Int) = 116 from rfl] at *
  have hg3 := hr3.lt
  have HR3 := Lib.hid hr3
  clear hr3 hdl hw2 hsz2
  go_wp2_with fail
  refine (uint_calls _ g d _ (HR3.out.no ((Chg.refl No w3).alloc _)) (by simp only; omega)).mono ?_
  rintro e w4 ⟨rfl, hr4, hc4⟩
  have hu := rUint_rest ⟨t0, 0⟩
  have hu2 := rUint_lt ⟨t0, 0⟩
  simp only at hu hu2
  generalize rUint ⟨t0, 0⟩ = U at *
  obtain ⟨k0, R0⟩ := U
  simp only at hr4 hu hu2 HPF ⊢
  have hgt : g < w3.heap.size := hg3
  have hbx : Box 33 w4 w3.heap.size (.slice none 0 0) := hc4.heap (Box.new w3 (.slice none 0 0) 33) (by intro h; have h : w3.heap.size = g := h; omega)
  have HT4 : Hid (TI w w4 g d w3.heap.size R0 []) := ⟨hr4, ⟨_, hbx, World.ownsRow_nil _ _ _ _⟩, (HC3.out.alloc _).one hc4 (.inl hsz), fun x hx => by cases hx⟩
  have hgs : w3.heap.size < w4.heap.size := hbx.lt
  clear hr4 hc4 hbx HR3 HC3 hg3 HB
  generalize w3.heap.size = gt at *
  go_wp2
  go_loopw [7] (fun i wr => ∃ (k : Nat) (R : Rd) (acc : List Ent), i = .int .u64 (k : Int) ∧ k < 18446744073709551616 ∧ R.rest.length ≤ 1000000 ∧ acc.length + R.rest.length ≤ 1000000 + (if R.err = 0 then 0 else 1) ∧ gt < wr.heap.size ∧ Hid (preF xs = (readE k R acc).1.map (fun l => (.tree l, (readE k R acc).2))) ∧ Hid (TI w wr g d gt R acc)) (fun i _ => (intOf i).toNat)
  case atStart => exact ⟨k0, R0, [], rfl, hu2, by omega, by simp only [List.length_nil]; omega, hgs, HPF.out, HT4.out⟩
  case round =>
    clear HT4 hgs HPF hu hu2
    obtain ⟨k, R, acc, rfl, hk64, hr1, hr2, hgs, HP, HT⟩ := hrel
    by_cases hstop : k = 0 ∨ R.err ≠ 0
    · have HP2 : Hid (preF xs = some (.tree acc, R)) := by rw [Hid, HP.out, readE_stop k R acc hstop]; rfl
      obtain ⟨v5, hb5, ho5⟩ := HT.out.b
      obtain ⟨A5, c5, rfl⟩ := ownsRow_form ho5
      have HO5 := Lib.hid ho5
      have HR5 := Lib.hid HT.out.r
      have HC5 := Lib.hid HT.out.c
      have y1 := hb5.c
      have hES : Es wr (.slice A5 acc.length c5) acc := Holds.ofOwn ho5
      have CK : Hid (∀ W, Chg No wr W → Calls Try.prog 14 #[treeV (.slice A5 acc.length c5)] W fun e w' => e = .returned (.int .i64 (treeF acc)) ∧ Chg No W w') := fun W hW => check_tree W A5 acc.length c5 acc (hES.no hW) HT.out.s
      have HK : Hid (obCheck (.tree acc) = treeF acc) := rfl
      have hsb : w.heap.size ≤ g + 1 := by omega
      generalize treeF acc = K at *
      generalize hal : acc.length = al at *
      generalize ho : Ob.tree acc = o at *
      have HO := Lib.hid ho
      have HPF : Hid (decF xs = if rEnd R = 0 ∧ obCheck o = 0 then some o else none) := by rw [Hid, decF, HP2.out, ← ho]
      clear hES hb5 ho5 HP HP2 HT ho
      have HIS : Hid (∀ W, Chg No wr W → IsOb W w.heap.size (treeV (.slice A5 al c5)) o) := by
        intro W hW
        rw [← HO.out]
        refine ⟨_, rfl, ?_⟩
        rw [hal]
        exact ownsRow_mono (ownsRow_chg HO5.out hW (fun _ _ x => x)) hsb
      clear HO5 HO
      by_cases hk0 : k = 0
      · subst hk0
        clear hstop
        go_wp2_with fail
        refine (end_calls _ g d R HR5.out).mono ?_
        rintro e w8 ⟨rfl, rfl⟩
        by_cases hend : rEnd R = 0
        · rw [hend]
          go_wp2_with fail
          refine (CK.out _ (Chg.refl _ _)).mono ?_
          rintro e w9 ⟨rfl, hc9⟩
          by_cases hck : K = 0
          · have HD : Hid (decF xs = some o) := by rw [Hid, HPF.out]; exact if_pos ⟨hend, (HK.out).trans hck⟩
            subst hck
            go_wp2
            go_ret2
            exact ⟨by rw [HD.out]; exact ⟨_, rfl, HIS.out _ hc9⟩, HC5.out.no hc9⟩
          · have HD : Hid (decF xs = none) := by rw [Hid, HPF.out]; exact if_neg (fun h => hck ((HK.out).symm.trans h.2))
            have bk : (K != 0) = true := by simpa using hck
            clear hck
            go_wp2
            go_ret2
            exact ⟨by rw [HD.out]; rfl, HC5.out.no hc9⟩
        · have HD : Hid (decF xs = none) := by rw [Hid, HPF.out]; exact if_neg (fun h => hend h.1)
          have bk : (rEnd R != 0) = true := by simpa using hend
          clear hend
          go_wp2
          go_ret2
          exact ⟨by rw [HD.out]; rfl, HC5.out⟩
      · have hk1 : (0 : Int) < (k : Int) := by omega
        have he : R.err ≠ 0 := hstop.resolve_left hk0
        have hbe : (R.err == 0) = false := by simpa using he
        clear hstop he hk0
        go_wp2_with fail
        refine (err_calls wr g d R HR5.out).mono ?_
        rintro e w6 ⟨rfl, rfl⟩
        go_wp2_with fail
        refine (end_calls _ g d R HR5.out).mono ?_
        rintro e w8 ⟨rfl, rfl⟩
        by_cases hend : rEnd R = 0
        · rw [hend]
          go_wp2_with fail
          refine (CK.out _ (Chg.refl _ _)).mono ?_
          rintro e w9 ⟨rfl, hc9⟩
          by_cases hck : K = 0
          · have HD : Hid (decF xs = some o) := by rw [Hid, HPF.out]; exact if_pos ⟨hend, (HK.out).trans hck⟩
            subst hck
            go_wp2
            go_ret2
            exact ⟨by rw [HD.out]; exact ⟨_, rfl, HIS.out _ hc9⟩, HC5.out.no hc9⟩
          · have HD : Hid (decF xs = none) := by rw [Hid, HPF.out]; exact if_neg (fun h => hck ((HK.out).symm.trans h.2))
            have bk : (K != 0) = true := by simpa using hck
            clear hck
            go_wp2
            go_ret2
            exact ⟨by rw [HD.out]; rfl, HC5.out.no hc9⟩
        · have HD : Hid (decF xs = none) := by rw [Hid, HPF.out]; exact if_neg (fun h => hend h.1)
          have bk : (rEnd R != 0) = true := by simpa using hend
          clear hend
          go_wp2
          go_ret2
          exact ⟨by rw [HD.out]; rfl, HC5.out⟩
    · have hk1 : 0 < k := by omega
      have hk1i : (0 : Int) < (k : Int) := by omega
      have he : R.err = 0 := by
        rcases Classical.em (R.err = 0) with h | h
        · exact h
        · exact absurd (.inr h) hstop
      have hbe : (R.err == 0) = true := by simpa using he
      have hE := readE_step k R acc hk1 he
      have hRR := round_rest R he
      have hnm := rText_len 32 R
      rw [if_pos he] at hr2
      clear hstop he
      obtain ⟨v5, hb5, ho5⟩ := HT.out.b
      obtain ⟨A5, c5, rfl⟩ := ownsRow_form ho5
      have HS := Lib.hid HT.out.s
      have hC5 := HT.out.c
      have hr5 := HT.out.r
      clear HT
      go_wp2_with fail
      refine (err_calls wr g d R hr5).mono ?_
      rintro e w4 ⟨rfl, rfl⟩
      go_wp2_with fail
      refine (text_calls wr g d R 32 (by omega) hr5 (by omega)).mono ?_
      rintro e w5 ⟨rfl, hr5, hc5⟩
      generalize hT : rText 32 R = T at *
      obtain ⟨nm, R1⟩ := T
      simp only at hr5 hE hRR hnm ⊢
      have hx5 := heap_alloc_new w5 (.cells #[.string (mkS nm), .bool false, .int .u64 0] 35)
      have hgw5 : gt < w5.heap.size := Nat.lt_of_lt_of_le hgs hc5.size
      have hb5 := hb5.chg hc5 (by intro h; have h : gt = g := h; omega)
      have hblk0 := World.ownsRow.lt ho5
      have ho5 := ownsRow_chg ho5 hc5 (fun q hq h => by have h : q = g := h; have := (hblk0 q hq).1; omega)
      have hC5 := hC5.one hc5 (.inl hsz)
      have HBLK : Hid (∀ q, (Value.slice A5 acc.length c5).ownBlock = some q → g + 1 ≤ q ∧ q < w5.heap.size) := World.ownsRow.lt ho5
      clear hc5 hblk0
      go_wp2_with fail
      refine (byte_calls _ g d R1 (hr5.no ((Chg.refl No w5).alloc _))).mono ?_
      rintro e w6 ⟨rfl, hr6, hc6⟩
      have hx6 := hc6.heap hx5 (by intro h; have h : w5.heap.size = g := h; omega)
      have hB6 := (hb5.no ((Chg.refl No w5).alloc (.cells #[.string (mkS nm), .bool false, .int .u64 0] 35))).chg hc6 (by intro h; have h : gt = g := h; omega)
      have hO6 := ownsRow_chg (World.ownsRow.alloc ho5 (.cells #[.string (mkS nm), .bool false, .int .u64 0] 35)) hc6 (fun q hq h => by have h : q = g := h; have := (HBLK.out q hq).1; omega)
      have hC6 := (hC5.alloc _).one hc6 (.inl hsz)
      clear hx5 hb5 ho5 hC5 hr5 hc6
      generalize w5.heap.size = gx at *
      generalize hBy : rByte R1 = BY at *
      obtain ⟨b, R2⟩ := BY
      simp only at hr6 hE hRR ⊢
      generalize hW : rWord R2 = WD at *
      obtain ⟨id, R3⟩ := WD
      simp only at hE hRR
      have hid : id < 18446744073709551616 := by have := rWord_lt R2; rw [hW] at this; exact this
      have HE := Lib.hid hE
      have HRR := Lib.hid hRR
      have hR3 : R3.rest.length ≤ R.rest.length := by omega
      clear hE hRR hT hBy
      have hne1 : gx ≠ gt := by omega
      have hne2 : gt ≠ gx := by omega
      by_cases hbb : b = 0
      · skip
        have HCV : Hid (preF xs = (readE (k - 1) R3 (acc ++ [(mkS nm, false, id)])).1.map (fun l => (.tree l, (readE (k - 1) R3 (acc ++ [(mkS nm, false, id)])).2))) := by rw [Hid, HP.out, HE.out, hbb, if_neg (by decide)]; rfl
        have hbt : b = 0 := hbb
        clear hbb
        subst hbt
        simp only [show (((0 : UInt8).toNat : Int)) = 0 from rfl]
        go_wp2_with fail
        refine (word_calls w6 g d R2 hr6).mono ?_
        rw [hW]
        rintro e w7 ⟨rfl, hr7, hc7⟩
        have hx6b := hx6
        have HB6b := Lib.hid hB6
        have HO6b := Lib.hid hO6
        have HC6b := Lib.hid hC6
        clear hr6 hB6 hO6 hC6 hx6
        have hx7 := hc7.heap hx6b (by intro h; have h : gx = g := h; omega)
        have hB7 := (HB6b.out).chg hc7 (by intro h; have h : gt = g := h; omega)
        have hO7 := ownsRow_chg HO6b.out hc7 (fun q hq h => by have h : q = g := h; have := (World.ownsRow.lt HO6b.out q hq).1; omega)
        have hC7 := HC6b.out.one hc7 (.inl hsz)
        have hblk : ∀ q, (Value.slice A5 acc.length c5).ownBlock = some q → g + 1 ≤ q ∧ q < gx := HBLK.out
        have z0 := cellAt hx7 0 (.string (mkS nm)) rfl
        have z1 := cellAt hx7 1 (.bool false) rfl
        have z2 := cellAt hx7 2 (.int .u64 0) rfl
        have zf := frzAt hx7
        have z3 := hB7.c
        have z4 := hB7.fr
        have hgx7 : gx < w7.heap.size := (Array.getElem?_eq_some_iff.1 hx7).1
        have hs7 : (w7.setCell ⟨gx, 2, none⟩ (.int .u64 (id : Int))).heap.size = w7.heap.size := by simp
        have own8 : Hid (((w7.setCell ⟨gx, 2, none⟩ (.int .u64 (id : Int))).alloc (.cells #[.string (mkS nm), .bool false, .int .u64 (id : Int)] 35)).ownsRow (g + 1) 35 3 (.slice A5 acc.length c5) acc.length (acc.flatMap encE)) :=
          World.ownsRow.alloc (ownsRow_chg hO7 (Chg.put w7 gx 2 _) (fun q hq h => by have h : q = gx := h; have := (hblk q hq).2; omega)) _
        have src8 : Hid (Src Try.prog 3 22 (.slice (some ⟨w7.heap.size, 0, none⟩) 1 1) 1 (encE (mkS nm, false, id)) ((w7.setCell ⟨gx, 2, none⟩ (.int .u64 (id : Int))).alloc (.cells #[.string (mkS nm), .bool false, .int .u64 (id : Int)] 35))) := by
          have := heap_alloc_new (w7.setCell ⟨gx, 2, none⟩ (.int .u64 (id : Int))) (.cells #[.string (mkS nm), .bool false, .int .u64 (id : Int)] 35)
          rw [hs7] at this
          exact Src.entry Try.underlying22 (mkS nm, false, id) this
        have H8 : Hid (Chg No w ((w7.setCell ⟨gx, 2, none⟩ (.int .u64 (id : Int))).alloc (.cells #[.string (mkS nm), .bool false, .int .u64 (id : Int)] 35)) ∧ Box 33 ((w7.setCell ⟨gx, 2, none⟩ (.int .u64 (id : Int))).alloc (.cells #[.string (mkS nm), .bool false, .int .u64 (id : Int)] 35)) gt (.slice A5 acc.length c5) ∧ RdrAt ((w7.setCell ⟨gx, 2, none⟩ (.int .u64 (id : Int))).alloc (.cells #[.string (mkS nm), .bool false, .int .u64 (id : Int)] 35)) g d R3) :=
          ⟨(hC7.one (Chg.put w7 gx 2 _) (.inl (by omega))).alloc _, (hB7.put (by omega) _ _).no ((Chg.refl No _).alloc _), (hr7.chg (Chg.put w7 gx 2 _) (by intro h; have h : g = gx := h; omega) (by intro h; have h : d = gx := h; omega)).no ((Chg.refl No _).alloc _)⟩
        have hsz8 : g + 1 ≤ ((w7.setCell ⟨gx, 2, none⟩ (.int .u64 (id : Int))).alloc (.cells #[.string (mkS nm), .bool false, .int .u64 (id : Int)] 35)).heap.size := by simp only [World.size_alloc, hs7]; omega
        clear hx7 hB7 hO7 hC7 hr7 hc7 HB6b HO6b HC6b hx6b hs7
        go_wp2_with (at_builtin; (refine wpList_app2 rfl (.tmp 50) (.tmp 52) 22 22 rfl (g + 1) 35 (.agg #[.string ⟨#[]⟩, .bool false, .int .u64 0]) 3 32 infoEnt Try.underlying22 rfl (by decide) (.slice A5 acc.length c5) (.slice (some ⟨w7.heap.size, 0, none⟩) 1 1) acc.length 1 (acc.flatMap encE) (encE (mkS nm, false, id)) rfl rfl ?own ?src ?b1 ?b2 ?b3 ?_; (case own => exact own8.out); (case src => exact src8.out); (case b1 => omega); (case b2 => unfold maxLen; omega); (case b3 => exact hsz8); intro v8 w8 hown8 hg8 hfrom8; refine Hid.out ?_))
        refine Lib.hid ?_
        clear z0 z1 z2 z3 z4 zf
        obtain ⟨A8, c8, rfl⟩ := ownsRow_form hown8
        have hB8 : Box 33 w8 gt (.slice A5 acc.length c5) := row_keep own8.out hg8 H8.out.2.1 (by decide)
        have hr8 := H8.out.2.2.chg (Chg.ofGrown (S := fun k => (Value.slice A5 acc.length c5).ownBlock = some k) hg8 (fun k hk => hk)) (fun h => by have := (hblk _ h).1; omega) (fun h => by have := (hblk _ h).1; omega)
        have hC8 := H8.out.1.grown hg8 (fun q hq => .inl (by have := (hblk q hq).1; omega))
        have hgt8 := hB8.lt
        have hblk8 := World.ownsRow.lt hown8
        have hO9 := ownsRow_chg hown8 (Chg.put w8 gt 0 (.slice A8 (acc.length + 1) c8)) (fun q hq h => by
          have h : q = gt := h
          subst h
          obtain ⟨cc, fz, hcc⟩ := ownsRow_cells hown8 q hq
          have := hcc.symm.trans hB8
          simp only [Option.some.injEq, Obj.cells.injEq] at this
          exact absurd this.2.1 (by decide))
        have HT9 : Hid (TI w (w8.setCell ⟨gt, 0, none⟩ (.slice A8 (acc.length + 1) c8)) g d gt R3 (acc ++ [(mkS nm, false, id)])) :=
          ⟨hr8.chg (Chg.put w8 gt 0 _) (by intro h; have h : g = gt := h; omega) (by intro h; have h : d = gt := h; omega), ⟨_, hB8.set _, by rw [List.length_append, List.flatMap_append]; simpa using hO9⟩, hC8.one (Chg.put w8 gt 0 _) (.inl (by omega)), fun y hy => by
            rcases List.mem_append.1 hy with hy | hy
            · exact HS.out y hy
            · simp only [List.mem_singleton] at hy; subst hy; simp only [mkS_size]; omega⟩
        have z3 := hB8.c
        have z4 := hB8.fr
        have hgs9 : gt < (w8.setCell ⟨gt, 0, none⟩ (.slice A8 (acc.length + 1) c8)).heap.size := by simpa using hgt8
        clear own8 src8 H8 hown8 hg8 hfrom8 hB8 hr8 hC8 hblk hblk8 hO9 hsz8
        go_wp2
        go_roundw
        case rel => exact ⟨k - 1, R3, acc ++ [(mkS nm, false, id)], by first | rfl | (congr 1; omega) | (simp; omega), by omega, by omega, by rw [List.length_append, List.length_singleton]; have := HRR.out; split at this <;> split <;> first | omega | contradiction, hgs9, HCV.out, HT9.out⟩
        case measure => first | (simp [intOf]; omega) | omega
      by_cases hbb : b = 1
      · skip
        have HCV : Hid (preF xs = (readE (k - 1) R3 (acc ++ [(mkS nm, true, id)])).1.map (fun l => (.tree l, (readE (k - 1) R3 (acc ++ [(mkS nm, true, id)])).2))) := by rw [Hid, HP.out, HE.out, hbb, if_neg (by decide)]; rfl
        have hbt : b = 1 := hbb
        clear hbb
        subst hbt
        simp only [show (((1 : UInt8).toNat : Int)) = 1 from rfl]
        have zz := frzAt hx6
        have zc := cellAt hx6 1 (.bool false) rfl
        go_wp2_with fail
        refine (word_calls (w6.setCell ⟨gx, 1, none⟩ (.bool true)) g d R2 (hr6.chg (Chg.put w6 gx 1 _) (by intro h; have h : g = gx := h; omega) (by intro h; have h : d = gx := h; omega))).mono ?_
        rw [hW]
        rintro e w7 ⟨rfl, hr7, hc7⟩
        clear zz zc
        have hx6b := heap_set hx6 1 (.bool true)
        simp only [List.setIfInBounds_toArray, List.set_cons_succ, List.set_cons_zero] at hx6b
        have HB6b := Lib.hid (hB6.put (by omega) 1 (.bool true))
        have HO6b := Lib.hid (ownsRow_chg hO6 (Chg.put w6 gx 1 (.bool true)) (fun q hq h => by have h : q = gx := h; have := (HBLK.out q hq).2; omega))
        have HC6b := Lib.hid (hC6.one (Chg.put w6 gx 1 (.bool true)) (.inl (by omega)))
        clear hr6 hB6 hO6 hC6 hx6
        have hx7 := hc7.heap hx6b (by intro h; have h : gx = g := h; omega)
        have hB7 := (HB6b.out).chg hc7 (by intro h; have h : gt = g := h; omega)
        have hO7 := ownsRow_chg HO6b.out hc7 (fun q hq h => by have h : q = g := h; have := (World.ownsRow.lt HO6b.out q hq).1; omega)
        have hC7 := HC6b.out.one hc7 (.inl hsz)
        have hblk : ∀ q, (Value.slice A5 acc.length c5).ownBlock = some q → g + 1 ≤ q ∧ q < gx := HBLK.out
        have z0 := cellAt hx7 0 (.string (mkS nm)) rfl
        have z1 := cellAt hx7 1 (.bool true) rfl
        have z2 := cellAt hx7 2 (.int .u64 0) rfl
        have zf := frzAt hx7
        have z3 := hB7.c
        have z4 := hB7.fr
        have hgx7 : gx < w7.heap.size := (Array.getElem?_eq_some_iff.1 hx7).1
        have hs7 : (w7.setCell ⟨gx, 2, none⟩ (.int .u64 (id : Int))).heap.size = w7.heap.size := by simp
        have own8 : Hid (((w7.setCell ⟨gx, 2, none⟩ (.int .u64 (id : Int))).alloc (.cells #[.string (mkS nm), .bool true, .int .u64 (id : Int)] 35)).ownsRow (g + 1) 35 3 (.slice A5 acc.length c5) acc.length (acc.flatMap encE)) :=
          World.ownsRow.alloc (ownsRow_chg hO7 (Chg.put w7 gx 2 _) (fun q hq h => by have h : q = gx := h; have := (hblk q hq).2; omega)) _
        have src8 : Hid (Src Try.prog 3 22 (.slice (some ⟨w7.heap.size, 0, none⟩) 1 1) 1 (encE (mkS nm, true, id)) ((w7.setCell ⟨gx, 2, none⟩ (.int .u64 (id : Int))).alloc (.cells #[.string (mkS nm), .bool true, .int .u64 (id : Int)] 35))) := by
          have := heap_alloc_new (w7.setCell ⟨gx, 2, none⟩ (.int .u64 (id : Int))) (.cells #[.string (mkS nm), .bool true, .int .u64 (id : Int)] 35)
          rw [hs7] at this
          exact Src.entry Try.underlying22 (mkS nm, true, id) this
        have H8 : Hid (Chg No w ((w7.setCell ⟨gx, 2, none⟩ (.int .u64 (id : Int))).alloc (.cells #[.string (mkS nm), .bool true, .int .u64 (id : Int)] 35)) ∧ Box 33 ((w7.setCell ⟨gx, 2, none⟩ (.int .u64 (id : Int))).alloc (.cells #[.string (mkS nm), .bool true, .int .u64 (id : Int)] 35)) gt (.slice A5 acc.length c5) ∧ RdrAt ((w7.setCell ⟨gx, 2, none⟩ (.int .u64 (id : Int))).alloc (.cells #[.string (mkS nm), .bool true, .int .u64 (id : Int)] 35)) g d R3) :=
          ⟨(hC7.one (Chg.put w7 gx 2 _) (.inl (by omega))).alloc _, (hB7.put (by omega) _ _).no ((Chg.refl No _).alloc _), (hr7.chg (Chg.put w7 gx 2 _) (by intro h; have h : g = gx := h; omega) (by intro h; have h : d = gx := h; omega)).no ((Chg.refl No _).alloc _)⟩
        have hsz8 : g + 1 ≤ ((w7.setCell ⟨gx, 2, none⟩ (.int .u64 (id : Int))).alloc (.cells #[.string (mkS nm), .bool true, .int .u64 (id : Int)] 35)).heap.size := by simp only [World.size_alloc, hs7]; omega
        clear hx7 hB7 hO7 hC7 hr7 hc7 HB6b HO6b HC6b hx6b hs7
        go_wp2_with (at_builtin; (refine wpList_app2 rfl (.tmp 50) (.tmp 52) 22 22 rfl (g + 1) 35 (.agg #[.string ⟨#[]⟩, .bool false, .int .u64 0]) 3 32 infoEnt Try.underlying22 rfl (by decide) (.slice A5 acc.length c5) (.slice (some ⟨w7.heap.size, 0, none⟩) 1 1) acc.length 1 (acc.flatMap encE) (encE (mkS nm, true, id)) rfl rfl ?own ?src ?b1 ?b2 ?b3 ?_; (case own => exact own8.out); (case src => exact src8.out); (case b1 => omega); (case b2 => unfold maxLen; omega); (case b3 => exact hsz8); intro v8 w8 hown8 hg8 hfrom8; refine Hid.out ?_))
        refine Lib.hid ?_
        clear z0 z1 z2 z3 z4 zf
        obtain ⟨A8, c8, rfl⟩ := ownsRow_form hown8
        have hB8 : Box 33 w8 gt (.slice A5 acc.length c5) := row_keep own8.out hg8 H8.out.2.1 (by decide)
        have hr8 := H8.out.2.2.chg (Chg.ofGrown (S := fun k => (Value.slice A5 acc.length c5).ownBlock = some k) hg8 (fun k hk => hk)) (fun h => by have := (hblk _ h).1; omega) (fun h => by have := (hblk _ h).1; omega)
        have hC8 := H8.out.1.grown hg8 (fun q hq => .inl (by have := (hblk q hq).1; omega))
        have hgt8 := hB8.lt
        have hblk8 := World.ownsRow.lt hown8
        have hO9 := ownsRow_chg hown8 (Chg.put w8 gt 0 (.slice A8 (acc.length + 1) c8)) (fun q hq h => by
          have h : q = gt := h
          subst h
          obtain ⟨cc, fz, hcc⟩ := ownsRow_cells hown8 q hq
          have := hcc.symm.trans hB8
          simp only [Option.some.injEq, Obj.cells.injEq] at this
          exact absurd this.2.1 (by decide))
        have HT9 : Hid (TI w (w8.setCell ⟨gt, 0, none⟩ (.slice A8 (acc.length + 1) c8)) g d gt R3 (acc ++ [(mkS nm, true, id)])) :=
          ⟨hr8.chg (Chg.put w8 gt 0 _) (by intro h; have h : g = gt := h; omega) (by intro h; have h : d = gt := h; omega), ⟨_, hB8.set _, by rw [List.length_append, List.flatMap_append]; simpa using hO9⟩, hC8.one (Chg.put w8 gt 0 _) (.inl (by omega)), fun y hy => by
            rcases List.mem_append.1 hy with hy | hy
            · exact HS.out y hy
            · simp only [List.mem_singleton] at hy; subst hy; simp only [mkS_size]; omega⟩
        have z3 := hB8.c
        have z4 := hB8.fr
        have hgs9 : gt < (w8.setCell ⟨gt, 0, none⟩ (.slice A8 (acc.length + 1) c8)).heap.size := by simpa using hgt8
        clear own8 src8 H8 hown8 hg8 hfrom8 hB8 hr8 hC8 hblk hblk8 hO9 hsz8
        go_wp2
        go_roundw
        case rel => exact ⟨k - 1, R3, acc ++ [(mkS nm, true, id)], by first | rfl | (congr 1; omega) | (simp; omega), by omega, by omega, by rw [List.length_append, List.length_singleton]; have := HRR.out; split at this <;> split <;> first | omega | contradiction, hgs9, HCV.out, HT9.out⟩
        case measure => first | (simp [intOf]; omega) | omega
      have HN : Hid (preF xs = none) := by rw [Hid, HP.out, HE.out, if_pos ⟨by assumption, hbb⟩]; rfl
      have HD : Hid (decF xs = none) := by rw [Hid, decF, HN.out]
      have q : ∀ (b k : UInt8), b ≠ k → ((b.toNat : Int) == (k.toNat : Int)) = false := by
        intro b k h
        rw [beq_eq_false_iff_ne]
        intro e
        exact h (UInt8.toNat_inj.1 (by omega))
      have b1 : ((b.toNat : Int) == 0) = false := q _ 0 (by assumption)
      have b2 : ((b.toNat : Int) == 1) = false := q _ 1 hbb
      have HC6 := Lib.hid hC6
      clear q hr6 hx6 hB6 hO6 hC6 hbb
      go_wp2
      go_ret2
      exact ⟨by rw [HD.out]; rfl, HC6.out⟩
end Go.Proofs.Ytkmnkbmmgopldaa

