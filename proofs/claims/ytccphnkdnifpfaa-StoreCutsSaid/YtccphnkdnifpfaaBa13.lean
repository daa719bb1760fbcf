/-
  Ac: in one text.
-/
import Derived.Test.YtccphnkdnifpfaaBa12
import Derived.Deep.RegionHeld3
namespace Go.Proofs.Ytccphnkdnifpfaa
set_option linter.unnecessarySimpa false
open Go.RowKit
set_option linter.unusedVariables false
set_option linter.unusedSimpArgs false
set_option maxRecDepth 100000

theorem cIds_stop (k : Nat) (c : Cu) (acc : List Nat) (h : k = 0 ∨ c.wrong = true) : cIds k c acc = (acc, c) := by
  cases k with
  | zero => rfl
  | succ k => rw [cIds, if_pos (h.resolve_left (by omega))]
theorem cIds_step (k : Nat) (c : Cu) (acc : List Nat) (hw : c.wrong = false) : cIds (k + 1) c acc = cIds k (cWord c).2 (acc ++ [(cWord c).1]) := by
  rw [cIds, if_neg (by rw [hw]; simp)]
theorem slOwn2 {w : World} {base c : Nat} {A : Option Addr} {L : List Nat} (h : w.ownsRow base 32 1 (.slice A L.length c) L.length (L.map u64v)) : Sl u64v w (.slice A L.length c) L := Holds.ofOwn h
/-- What AsCommit answers. -/
def AcR (w w' : World) (e : Ending) (r : Option (Nat × List Nat × List UInt8 × Int × List UInt8)) : Prop :=
  ∃ (T : Nat) (A' : Option Addr) (n' c' : Nat) (a' : ByteArray) (D : Int) (x' : ByteArray), e = .returned (.tuple #[.agg #[.int .u64 (T : Int), .slice A' n' c', .string a', .int .i64 D, .string x'], .bool r.isSome]) ∧
    (∀ t ps a d x, r = some (t, ps, a, d, x) → T = t ∧ a' = mkS a ∧ D = d ∧ x' = mkS x ∧ Sl u64v w' (.slice A' n' c') ps) ∧ Chg No w w'
set_option maxHeartbeats 12800000 in
theorem ascommit_ref (w : World) (A : Option Addr) (n c : Nat) (xs : List UInt8) (hb : Bytes w (.slice A n c) xs) (hl : xs.length = n) (hn : n ≤ 16384) :
    Calls Try.prog 63 #[.slice A n c] w fun e w' => AcR w w' e (asCommit xs) := by
  have hnc : n ≤ c := by
    obtain ⟨A', c', he, h2, -⟩ := hb.form
    simp only [Value.slice.injEq] at he
    omega
  have HB := Lib.hid hb
  have HL := Lib.hid hl
  clear hb hl
  by_cases hn0 : n = 0
  · have HA : Hid (asCommit xs = none) := by
      have : xs = [] := List.eq_nil_of_length_eq_zero (by rw [HL.out]; exact hn0)
      subst this
      rw [Hid, asCommit, if_pos (by decide)]
    subst hn0
    go_enter Try.func63, Try.ntmps63
    go_wp2
    exact bodyPost_ret (v := .tuple #[.agg #[.int .u64 0, .slice none 0 0, .string ⟨#[]⟩, .int .i64 0, .string ⟨#[]⟩], .bool false]) (by simp [results, Try.results63, go_sem]) rfl ⟨0, none, 0, 0, ⟨#[]⟩, 0, ⟨#[]⟩, by rw [HA.out]; rfl, (by rw [HA.out]; intro t ps a d x h; cases h), (Chg.refl No w).alloc _⟩
  obtain ⟨b0, o0, rfl, hcell⟩ := HB.out.addr (by rw [HL.out]; omega)
  have hx0 := hcell 0 (by rw [HL.out]; omega)
  rw [Nat.add_zero] at hx0
  have hG0 : xs.getD 0 0 = xs[0]'(by rw [HL.out]; omega) := by simp [List.getD, show 0 < xs.length by rw [HL.out]; omega]
  generalize xs[0]'(by rw [HL.out]; omega) = u at *
  have HG0 := Lib.hid hG0
  have hpos : (0 : Int) < (n : Int) := by omega
  have hn0b : ((n : Int) == 0) = false := by simp; omega
  have hd0 : b0 < w.heap.size := World.block_lt_of_cell? _ _ hx0
  have hx0' : (w.alloc (.cells #[.int .u64 0, .slice none 0 0, .string ⟨#[]⟩, .int .i64 0, .string ⟨#[]⟩] 44)).cell? ⟨b0, o0, none⟩ = some (.int .u8 (u.toNat : Int)) := ((Chg.refl No w).alloc _).cell hx0 (fun x => x)
  clear hcell hG0
  by_cases hu : u.toNat = 99
  · have hub : ((u.toNat : Int) != 99) = false := by rw [hu]; rfl
    have HNT : Hid (asCommit xs = if (preC xs).2.wrong = true ∨ (preC xs).2.rest ≠ [] ∨ commitF (preC xs).1.1 (preC xs).1.2.1 (preC xs).1.2.2.1 (preC xs).1.2.2.2.2 ≠ 0 then none else some (preC xs).1) := by
      rw [Hid, asCommit, if_neg]
      rw [HG0.out]
      have : u = 99 := UInt8.toNat_inj.1 hu
      rw [this]; simp
    have hdr0 := (show Bytes w (.slice (some ⟨b0, o0, none⟩) xs.length c) xs by rw [HL.out]; exact HB.out).drop (k := 1) (by rw [HL.out]; omega)
    rw [HL.out] at hdr0
    have hlen1 : (xs.drop 1).length = n - 1 := by rw [List.length_drop, HL.out]
    have HZ0 := Lib.hid (heap_alloc_new w (.cells #[.int .u64 0, .slice none 0 0, .string ⟨#[]⟩, .int .i64 0, .string ⟨#[]⟩] 44))
    generalize hg : w.heap.size = g at *
    by_cases hc1 : c = 1
    · have hn1 : n = 1 := by omega
      subst hc1
      subst hn1
      rw [if_pos rfl] at hdr0
      have hdr1 := hdr0.no ((Chg.refl No w).alloc (.cells #[.int .u64 0, .slice none 0 0, .string ⟨#[]⟩, .int .i64 0, .string ⟨#[]⟩] 44))
      have HCU1 : Hid (CU ((w.alloc (.cells #[.int .u64 0, .slice none 0 0, .string ⟨#[]⟩, .int .i64 0, .string ⟨#[]⟩] 44)).alloc (.cells #[.slice (some ⟨b0, o0, none⟩) 0 0, .bool false] 152)) (g + 1) b0 ⟨xs.drop 1, false⟩) := by
        have := CU.start (d := b0) hdr1 (by rw [hlen1]) (by intro p hp; cases hp; rfl) (by rw [World.size_alloc]; omega)
        rw [World.size_alloc, hg] at this; exact this
      have HC1 : Hid (Chg No w ((w.alloc (.cells #[.int .u64 0, .slice none 0 0, .string ⟨#[]⟩, .int .i64 0, .string ⟨#[]⟩] 44)).alloc (.cells #[.slice (some ⟨b0, o0, none⟩) 0 0, .bool false] 152))) := ((Chg.refl No w).alloc _).alloc _
      have HZ1 := Lib.hid (((Chg.refl No (w.alloc (.cells #[.int .u64 0, .slice none 0 0, .string ⟨#[]⟩, .int .i64 0, .string ⟨#[]⟩] 44))).alloc (.cells #[.slice (some ⟨b0, o0, none⟩) 0 0, .bool false] 152)).heap HZ0.out (fun x => x))
      clear hdr0 hdr1 hlen1 HZ0
      go_enter Try.func63, Try.ntmps63
      go_upto_region 4 with fail
      generalize hw1 : (w.alloc (.cells #[.int .u64 0, .slice none 0 0, .string ⟨#[]⟩, .int .i64 0, .string ⟨#[]⟩] 44)).alloc (.cells #[.slice (some ⟨b0, o0, none⟩) 0 0, .bool false] 152) = w1 at *
      clear hx0 hx0' hw1
      obtain ⟨gg, hgg⟩ : ∃ gg, gg = g + 1 := ⟨_, rfl⟩
      rw [← hgg] at HCU1 ⊢
      have hggl : g < gg := by omega
      have HGG := Lib.hid hgg
      clear hgg
      go_wp2_with fail
      refine (word_cu w1 gg b0 ⟨xs.drop 1, false⟩ HCU1.out (by show (xs.drop 1).length ≤ 1000000; rw [List.length_drop, HL.out]; omega)).mono ?_
      rintro e w2 ⟨rfl, hcu2, hc2⟩
      have hlw := cWord_len ⟨xs.drop 1, false⟩
      have hlw2 : (cWord ⟨xs.drop 1, false⟩).2.rest.length ≤ 16384 := Nat.le_trans hlw (by show (xs.drop 1).length ≤ 16384; rw [List.length_drop, HL.out]; omega)
      have htl := word_lt ⟨xs.drop 1, false⟩
      have HWD : Hid (cWord ⟨xs.drop 1, false⟩ = ((cWord ⟨xs.drop 1, false⟩).1, (cWord ⟨xs.drop 1, false⟩).2)) := rfl
      have HC2 := Lib.hid (HC1.out.one hc2 (.inl (by omega)))
      have HCU2 := Lib.hid hcu2
      have HZ2 := Lib.hid (hc2.heap HZ1.out (fun h => by have h : g = gg := h; omega))
      clear hcu2 hc2 HCU1 HC1 HZ1 hlw
      obtain ⟨T, hT⟩ : ∃ T, (cWord ⟨xs.drop 1, false⟩).1 = T := ⟨_, rfl⟩
      obtain ⟨cw, hcw⟩ : ∃ cw, (cWord ⟨xs.drop 1, false⟩).2 = cw := ⟨_, rfl⟩
      have HWD2 : Hid (cWord ⟨xs.drop 1, false⟩ = (T, cw)) := by rw [Hid, HWD.out, hT, hcw]
      rw [hT] at htl ⊢
      rw [hcw] at hlw2 HCU2
      clear HWD hT hcw
      have HWD := HWD2
      clear HWD2
      have hgg2 : gg < w2.heap.size := HCU2.out.lt
      have HX3 := Lib.hid (heap_alloc_new w2 (.cells #[.int .u64 (T : Int), .slice none 0 0, .string ⟨#[]⟩, .int .i64 0, .string ⟨#[]⟩] 44))
      have HCU3 := Lib.hid (HCU2.out.no ((Chg.refl No w2).alloc (.cells #[.int .u64 (T : Int), .slice none 0 0, .string ⟨#[]⟩, .int .i64 0, .string ⟨#[]⟩] 44)))
      have HZ3 := Lib.hid (((Chg.refl No w2).alloc (.cells #[.int .u64 (T : Int), .slice none 0 0, .string ⟨#[]⟩, .int .i64 0, .string ⟨#[]⟩] 44)).heap HZ2.out (fun x => x))
      have HC3 : Hid (Chg No w (w2.alloc (.cells #[.int .u64 (T : Int), .slice none 0 0, .string ⟨#[]⟩, .int .i64 0, .string ⟨#[]⟩] 44))) := HC2.out.alloc _
      clear HCU2 HZ2 HC2
      go_upto_region 5 with fail
      generalize w2.alloc (.cells #[.int .u64 (T : Int), .slice none 0 0, .string ⟨#[]⟩, .int .i64 0, .string ⟨#[]⟩] 44) = w3 at *
      generalize hgc : w2.heap.size = gc at *
      go_wp2_with fail
      refine (num_cu w3 gg b0 cw HCU3.out (by omega)).mono ?_
      rintro e w4 ⟨rfl, hcu4, hc4⟩
      obtain ⟨hnl, hn16⟩ := num_len cw
      have HNM : Hid (cNum cw = ((cNum cw).1, (cNum cw).2)) := rfl
      have HCU4 := Lib.hid hcu4
      have HX4 := Lib.hid (hc4.heap HX3.out (fun h => by have h : gc = gg := h; omega))
      have HZ4 := Lib.hid (hc4.heap HZ3.out (fun h => by have h : g = gg := h; omega))
      have HC4 := Lib.hid (HC3.out.one hc4 (.inl (by omega)))
      clear hcu4 hc4 HCU3 HX3 HZ3 HC3
      generalize (cNum cw).1 = kn at *
      generalize (cNum cw).2 = cn at *
      go_wp2
      go_loopw [6] (fun i wr => ∃ (k : Nat) (c2 : Cu) (acc : List Nat) (Av : Option Addr) (cv : Nat), k < 16384 ∧ i = .int .i64 (k : Int) ∧ acc.length + k ≤ 16384 ∧ c2.rest.length ≤ 16384 ∧ Hid (cIds kn cn [] = cIds k c2 acc) ∧ Hid (CU wr gg b0 c2) ∧ Hid (wr.ownsRow (gc + 1) 32 1 (.slice Av acc.length cv) acc.length (acc.map u64v)) ∧ Hid (wr.heap[gc]? = some (.cells #[.int .u64 (T : Int), .slice Av acc.length cv, .string ⟨#[]⟩, .int .i64 0, .string ⟨#[]⟩] 44)) ∧ Hid (wr.heap[g]? = some (.cells #[.int .u64 0, .slice none 0 0, .string ⟨#[]⟩, .int .i64 0, .string ⟨#[]⟩] 44)) ∧ Hid (∀ q ∈ acc, q < 18446744073709551616) ∧ Hid (Chg No w wr)) (fun i _ => (intOf i).toNat)
      case atStart => exact ⟨kn, cn, [], none, 0, hn16, rfl, by simp; omega, by omega, rfl, HCU4.out, World.ownsRow_nil _ _ _ _, HX4.out, HZ4.out, (fun _ h => by cases h), HC4.out⟩
      case round =>
        obtain ⟨k0, c2, acc, Av, cv, hk, rfl, hal, hl2, HP0, HCU, HO, HX, HZ, HAB, HC⟩ := hrel
        clear HCU4 HX4 HZ4 HC4
        by_cases hk0 : k0 = 0 ∨ c2.wrong = true
        · have HP : Hid (cIds kn cn [] = (acc, c2)) := by rw [Hid, HP0.out, cIds_stop _ _ _ hk0]
          clear HP0
          by_cases hkz : k0 = 0
          · have hkb : ¬ (0 : Int) < (k0 : Int) := by omega
            clear hk0 hkz
            have x2 := cellAt HX.out 2 _ rfl
            have xf2 := frzAt HX.out 2
            go_wp2_with fail
            refine (text_cu wr gg b0 c2 HCU.out (by omega)).mono ?_
            rintro e w13 ⟨rfl, hcu3, hc3⟩
            have hl3 := cText_len c2
            have hsz3 := cText_get c2
            have HCU3 := Lib.hid hcu3
            have HX3 := Lib.hid (hc3.heap HX.out (fun h => by have h : gc = gg := h; omega))
            have HZ3 := Lib.hid (hc3.heap HZ.out (fun h => by have h : g = gg := h; omega))
            have HO3 := Lib.hid (ownsRow_chg HO.out hc3 (fun q hq h => by have h : q = gg := h; have := (World.ownsRow.lt HO.out q hq).1; omega))
            have HC3 := Lib.hid (HC.out.one hc3 (.inl (by omega)))
            have HT1 : Hid (cText (cIds kn cn []).2 = ((cText c2).1, (cText c2).2)) := by rw [Hid, HP.out]
            clear hcu3 hc3 x2 xf2 HCU HX HZ HO HC
            generalize (cText c2).1 = ta at *
            generalize (cText c2).2 = c3 at *
            have x2 := cellAt HX3.out 2 _ rfl
            have xf2 := frzAt HX3.out 2
            have HX4 : Hid ((w13.setCell ⟨gc, 2, none⟩ (.string (mkS ta))).heap[gc]? = some (.cells #[.int .u64 (T : Int), .slice Av acc.length cv, .string (mkS ta), .int .i64 0, .string ⟨#[]⟩] 44)) := heap_set HX3.out 2 _
            have HZ4 : Hid ((w13.setCell ⟨gc, 2, none⟩ (.string (mkS ta))).heap[g]? = some (.cells #[.int .u64 0, .slice none 0 0, .string ⟨#[]⟩, .int .i64 0, .string ⟨#[]⟩] 44)) := (Chg.put w13 gc 2 _).heap HZ3.out (fun h => by have h : g = gc := h; omega)
            have HCU4 : Hid (CU (w13.setCell ⟨gc, 2, none⟩ (.string (mkS ta))) gg b0 c3) := HCU3.out.chg (Chg.put w13 gc 2 _) (fun h => by have h : gg = gc := h; omega) (fun h => by have h : b0 = gc := h; omega)
            have HO4 : Hid ((w13.setCell ⟨gc, 2, none⟩ (.string (mkS ta))).ownsRow (gc + 1) 32 1 (.slice Av acc.length cv) acc.length (acc.map u64v)) := ownsRow_chg HO3.out (Chg.put w13 gc 2 _) (fun q hq h => by have h : q = gc := h; have := (World.ownsRow.lt HO3.out q hq).1; omega)
            have HC4 : Hid (Chg No w (w13.setCell ⟨gc, 2, none⟩ (.string (mkS ta)))) := HC3.out.setCell (.inl (by show w.heap.size ≤ gc; omega)) _
            go_upto_region 10 with fail
            generalize w13.setCell ⟨gc, 2, none⟩ (.string (mkS ta)) = w14 at *
            clear x2 xf2 HX3 HZ3 HCU3 HO3 HC3
            go_wp2_with fail
            refine (word_cu w14 gg b0 c3 HCU4.out (by omega)).mono ?_
            rintro e w15 ⟨rfl, hcu5, hc5⟩
            have hl5 := cWord_len c3
            have hdl := word_lt c3
            have HCU5 := Lib.hid hcu5
            have HX5 := Lib.hid (hc5.heap HX4.out (fun h => by have h : gc = gg := h; omega))
            have HZ5 := Lib.hid (hc5.heap HZ4.out (fun h => by have h : g = gg := h; omega))
            have HO5 := Lib.hid (ownsRow_chg HO4.out hc5 (fun q hq h => by have h : q = gg := h; have := (World.ownsRow.lt HO4.out q hq).1; omega))
            have HC5 := Lib.hid (HC4.out.one hc5 (.inl (by omega)))
            have HT2 : Hid (cWord (cText (cIds kn cn []).2).2 = ((cWord c3).1, (cWord c3).2)) := by rw [Hid, HT1.out]
            clear hcu5 hc5 HCU4 HX4 HZ4 HO4 HC4
            generalize (cWord c3).1 = dw at *
            generalize (cWord c3).2 = c5 at *
            have hwd := wrap_sd dw hdl
            have x3 := cellAt HX5.out 3 _ rfl
            have xf3 := frzAt HX5.out 3
            have HX6 : Hid ((w15.setCell ⟨gc, 3, none⟩ (.int .i64 (sd dw))).heap[gc]? = some (.cells #[.int .u64 (T : Int), .slice Av acc.length cv, .string (mkS ta), .int .i64 (sd dw), .string ⟨#[]⟩] 44)) := heap_set HX5.out 3 _
            have HZ6 : Hid ((w15.setCell ⟨gc, 3, none⟩ (.int .i64 (sd dw))).heap[g]? = some (.cells #[.int .u64 0, .slice none 0 0, .string ⟨#[]⟩, .int .i64 0, .string ⟨#[]⟩] 44)) := (Chg.put w15 gc 3 _).heap HZ5.out (fun h => by have h : g = gc := h; omega)
            have HCU6 : Hid (CU (w15.setCell ⟨gc, 3, none⟩ (.int .i64 (sd dw))) gg b0 c5) := HCU5.out.chg (Chg.put w15 gc 3 _) (fun h => by have h : gg = gc := h; omega) (fun h => by have h : b0 = gc := h; omega)
            have HO6 : Hid ((w15.setCell ⟨gc, 3, none⟩ (.int .i64 (sd dw))).ownsRow (gc + 1) 32 1 (.slice Av acc.length cv) acc.length (acc.map u64v)) := ownsRow_chg HO5.out (Chg.put w15 gc 3 _) (fun q hq h => by have h : q = gc := h; have := (World.ownsRow.lt HO5.out q hq).1; omega)
            have HC6 : Hid (Chg No w (w15.setCell ⟨gc, 3, none⟩ (.int .i64 (sd dw)))) := HC5.out.setCell (.inl (by show w.heap.size ≤ gc; omega)) _
            go_upto_region 11 with fail
            generalize w15.setCell ⟨gc, 3, none⟩ (.int .i64 (sd dw)) = w16 at *
            clear x3 xf3 HX5 HZ5 HCU5 HO5 HC5 hwd
            go_wp2_with fail
            refine (text_cu w16 gg b0 c5 HCU6.out (by omega)).mono ?_
            rintro e w17 ⟨rfl, hcu7, hc7⟩
            have hl7 := cText_len c5
            have hsz7 := cText_get c5
            have HCU7 := Lib.hid hcu7
            have HX7 := Lib.hid (hc7.heap HX6.out (fun h => by have h : gc = gg := h; omega))
            have HZ7 := Lib.hid (hc7.heap HZ6.out (fun h => by have h : g = gg := h; omega))
            have HO7 := Lib.hid (ownsRow_chg HO6.out hc7 (fun q hq h => by have h : q = gg := h; have := (World.ownsRow.lt HO6.out q hq).1; omega))
            have HC7 := Lib.hid (HC6.out.one hc7 (.inl (by omega)))
            have HT3 : Hid (cText (cWord (cText (cIds kn cn []).2).2).2 = ((cText c5).1, (cText c5).2)) := by rw [Hid, HT2.out]
            clear hcu7 hc7 HCU6 HX6 HZ6 HO6 HC6
            generalize (cText c5).1 = tx at *
            generalize (cText c5).2 = c7 at *
            have x4 := cellAt HX7.out 4 _ rfl
            have xf4 := frzAt HX7.out 4
            have HX8 : Hid ((w17.setCell ⟨gc, 4, none⟩ (.string (mkS tx))).heap[gc]? = some (.cells #[.int .u64 (T : Int), .slice Av acc.length cv, .string (mkS ta), .int .i64 (sd dw), .string (mkS tx)] 44)) := heap_set HX7.out 4 _
            have HZ8 : Hid ((w17.setCell ⟨gc, 4, none⟩ (.string (mkS tx))).heap[g]? = some (.cells #[.int .u64 0, .slice none 0 0, .string ⟨#[]⟩, .int .i64 0, .string ⟨#[]⟩] 44)) := (Chg.put w17 gc 4 _).heap HZ7.out (fun h => by have h : g = gc := h; omega)
            have HCU8 : Hid (CU (w17.setCell ⟨gc, 4, none⟩ (.string (mkS tx))) gg b0 c7) := HCU7.out.chg (Chg.put w17 gc 4 _) (fun h => by have h : gg = gc := h; omega) (fun h => by have h : b0 = gc := h; omega)
            have HO8 : Hid ((w17.setCell ⟨gc, 4, none⟩ (.string (mkS tx))).ownsRow (gc + 1) 32 1 (.slice Av acc.length cv) acc.length (acc.map u64v)) := ownsRow_chg HO7.out (Chg.put w17 gc 4 _) (fun q hq h => by have h : q = gc := h; have := (World.ownsRow.lt HO7.out q hq).1; omega)
            have HC8 : Hid (Chg No w (w17.setCell ⟨gc, 4, none⟩ (.string (mkS tx)))) := HC7.out.setCell (.inl (by show w.heap.size ≤ gc; omega)) _
            have HPC : Hid (preC xs = ((T, acc, ta, sd dw, tx), c7)) := by
              rw [Hid]
              unfold preC
              rw [HWD.out]
              simp only
              rw [HNM.out]
              simp only
              rw [HT3.out, HT2.out, HT1.out, HP.out]
            go_upto_region 12 with fail
            generalize w17.setCell ⟨gc, 4, none⟩ (.string (mkS tx)) = w18 at *
            clear x4 xf4 HX7 HZ7 HCU7 HO7 HC7 HT1 HT2 HT3 HP
            obtain ⟨Ac, capc, hcc⟩ := HCU8.out.cells
            have q0 := cellAt hcc 0 _ rfl
            have q1 := cellAt hcc 1 _ rfl
            clear hcc
            cases hwq : c7.wrong with
            | true =>
              have HR : Hid (asCommit xs = none) := by rw [Hid, HNT.out, HPC.out, if_pos (.inl hwq)]
              rw [hwq] at q1
              clear hwq
              obtain ⟨z0, z1, z2, z3, z4⟩ := cells5b HZ8.out
              have zf0 := frzAt HZ8.out 0
              have zf1 := frzAt HZ8.out 1
              have zf2 := frzAt HZ8.out 2
              have zf3 := frzAt HZ8.out 3
              have zf4 := frzAt HZ8.out 4
              go_wp2
              exact bodyPost_ret (v := .tuple #[.agg #[.int .u64 0, .slice none 0 0, .string ⟨#[]⟩, .int .i64 0, .string ⟨#[]⟩], .bool false]) (by simp [results, Try.results63, go_sem, z0, z1, z2, z3, z4]) rfl ⟨0, none, 0, 0, ⟨#[]⟩, 0, ⟨#[]⟩, by rw [HR.out]; rfl, (by rw [HR.out]; intro t ps a d x h; cases h), (((((HC8.out.setCell (.inl (Nat.le_of_eq hg)) _).setCell (.inl (Nat.le_of_eq hg)) _).setCell (.inl (Nat.le_of_eq hg)) _).setCell (.inl (Nat.le_of_eq hg)) _).setCell (.inl (Nat.le_of_eq hg)) _)⟩
            | false =>
              rw [hwq] at q1
              by_cases hr : c7.rest.length = 0
              · have hrb : ¬ (0 : Int) < (c7.rest.length : Int) := by omega
                have HRE : Hid (c7.rest = []) := List.eq_nil_of_length_eq_zero hr
                rw [hr] at q0
                have hck := refcheck_commit w18 T Av acc.length cv acc (mkS ta) (sd dw) (mkS tx) (slOwn2 HO8.out) (by omega) (by rw [mkS_size]; omega) (by rw [mkS_size]; omega)
                rw [mkS_list, mkS_list] at hck
                generalize hz : commitF T acc ta tx = F at *
                have HCK := Lib.hid hck
                obtain ⟨y0, y1, y2, y3, y4⟩ := cells5b HX8.out
                by_cases hF : F = 0
                · subst hF
                  have HR : Hid (asCommit xs = some (T, acc, ta, sd dw, tx)) := by rw [Hid, HNT.out, HPC.out, if_neg (by rw [hwq, HRE.out]; simp only; rw [hz]; simp)]
                  have HACC := Lib.hid (slOwn2 HO8.out)
                  clear hwq hz hck hr hrb
                  generalize acc.length = al at *
                  go_wp2_with fail
                  refine HCK.out.mono ?_
                  rintro e w19 ⟨rfl, hc9⟩
                  have HA9 := Lib.hid (HACC.out.no hc9)
                  have HC9 := Lib.hid (HC8.out.no hc9)
                  have HX9 := Lib.hid (hc9.heap HX8.out (fun x => x))
                  have HZ9 := Lib.hid (hc9.heap HZ8.out (fun x => x))
                  clear y0 y1 y2 y3 y4
                  obtain ⟨y0, y1, y2, y3, y4⟩ := cells5b HX9.out
                  obtain ⟨z0, z1, z2, z3, z4⟩ := cells5b HZ9.out
                  have zf0 := frzAt HZ9.out 0
                  have zf1 := frzAt HZ9.out 1
                  have zf2 := frzAt HZ9.out 2
                  have zf3 := frzAt HZ9.out 3
                  have zf4 := frzAt HZ9.out 4
                  have HCH : Hid (∀ v0 v1 v2 v3 v4, Chg No w (((((w19.setCell ⟨g, 0, none⟩ v0).setCell ⟨g, 1, none⟩ v1).setCell ⟨g, 2, none⟩ v2).setCell ⟨g, 3, none⟩ v3).setCell ⟨g, 4, none⟩ v4)) := fun v0 v1 v2 v3 v4 => ((((HC9.out.setCell (.inl (Nat.le_of_eq hg)) _).setCell (.inl (Nat.le_of_eq hg)) _).setCell (.inl (Nat.le_of_eq hg)) _).setCell (.inl (Nat.le_of_eq hg)) _).setCell (.inl (Nat.le_of_eq hg)) _
                  have HSF : Hid (∀ v0 v1 v2 v3 v4, Sl u64v (((((w19.setCell ⟨g, 0, none⟩ v0).setCell ⟨g, 1, none⟩ v1).setCell ⟨g, 2, none⟩ v2).setCell ⟨g, 3, none⟩ v3).setCell ⟨g, 4, none⟩ v4) (.slice Av al cv) acc) := fun v0 v1 v2 v3 v4 => by
                    have hn : ∀ q, (Value.slice Av al cv).ownBlock = some q → ¬ One g q := fun q hq h => by
                      have h : q = g := h
                      have := (World.ownsRow.lt HO8.out q hq).1
                      omega
                    exact (((((HA9.out.chg (Chg.put w19 g 0 v0) hn).chg (Chg.put _ g 1 v1) hn).chg (Chg.put _ g 2 v2) hn).chg (Chg.put _ g 3 v3) hn).chg (Chg.put _ g 4 v4) hn)
                  go_wp2
                  exact bodyPost_ret (v := .tuple #[.agg #[.int .u64 (T : Int), .slice Av al cv, .string (mkS ta), .int .i64 (sd dw), .string (mkS tx)], .bool true]) (by simp [results, Try.results63, go_sem, z0, z1, z2, z3, z4]) rfl ⟨T, Av, al, cv, mkS ta, sd dw, mkS tx, by rw [HR.out]; rfl, (by rw [HR.out]; intro t ps a d x h; cases h; exact ⟨rfl, rfl, rfl, rfl, HSF.out _ _ _ _ _⟩), HCH.out _ _ _ _ _⟩
                · have HR : Hid (asCommit xs = none) := by rw [Hid, HNT.out, HPC.out, if_pos (.inr (.inr (by simp only; rw [hz]; exact hF)))]
                  have hFb : ((F : Int) != 0) = true := by simp; omega
                  clear hwq hz hck hr hrb hF
                  generalize acc.length = al at *
                  go_wp2_with fail
                  refine HCK.out.mono ?_
                  rintro e w19 ⟨rfl, hc9⟩
                  have HC9 := Lib.hid (HC8.out.no hc9)
                  have HZ9 := Lib.hid (hc9.heap HZ8.out (fun x => x))
                  obtain ⟨z0, z1, z2, z3, z4⟩ := cells5b HZ9.out
                  have zf0 := frzAt HZ9.out 0
                  have zf1 := frzAt HZ9.out 1
                  have zf2 := frzAt HZ9.out 2
                  have zf3 := frzAt HZ9.out 3
                  have zf4 := frzAt HZ9.out 4
                  go_wp2
                  exact bodyPost_ret (v := .tuple #[.agg #[.int .u64 0, .slice none 0 0, .string ⟨#[]⟩, .int .i64 0, .string ⟨#[]⟩], .bool false]) (by simp [results, Try.results63, go_sem, z0, z1, z2, z3, z4]) rfl ⟨0, none, 0, 0, ⟨#[]⟩, 0, ⟨#[]⟩, by rw [HR.out]; rfl, (by rw [HR.out]; intro t ps a d x h; cases h), (((((HC9.out.setCell (.inl (Nat.le_of_eq hg)) _).setCell (.inl (Nat.le_of_eq hg)) _).setCell (.inl (Nat.le_of_eq hg)) _).setCell (.inl (Nat.le_of_eq hg)) _).setCell (.inl (Nat.le_of_eq hg)) _)⟩
              · have hrb : (0 : Int) < (c7.rest.length : Int) := by omega
                have HR : Hid (asCommit xs = none) := by rw [Hid, HNT.out, HPC.out, if_pos (.inr (.inl (fun h => hr (by rw [h]; rfl))))]
                clear hwq hr
                generalize c7.rest.length = rl at *
                obtain ⟨z0, z1, z2, z3, z4⟩ := cells5b HZ8.out
                have zf0 := frzAt HZ8.out 0
                have zf1 := frzAt HZ8.out 1
                have zf2 := frzAt HZ8.out 2
                have zf3 := frzAt HZ8.out 3
                have zf4 := frzAt HZ8.out 4
                go_wp2
                exact bodyPost_ret (v := .tuple #[.agg #[.int .u64 0, .slice none 0 0, .string ⟨#[]⟩, .int .i64 0, .string ⟨#[]⟩], .bool false]) (by simp [results, Try.results63, go_sem, z0, z1, z2, z3, z4]) rfl ⟨0, none, 0, 0, ⟨#[]⟩, 0, ⟨#[]⟩, by rw [HR.out]; rfl, (by rw [HR.out]; intro t ps a d x h; cases h), (((((HC8.out.setCell (.inl (Nat.le_of_eq hg)) _).setCell (.inl (Nat.le_of_eq hg)) _).setCell (.inl (Nat.le_of_eq hg)) _).setCell (.inl (Nat.le_of_eq hg)) _).setCell (.inl (Nat.le_of_eq hg)) _)⟩
          · have hkb : (0 : Int) < (k0 : Int) := by omega
            have hwt := hk0.resolve_left hkz
            obtain ⟨Ad, capd, hcd⟩ := HCU.out.cells
            have qd := cellAt hcd 1 _ rfl
            rw [hwt] at qd
            clear hk0 hkz hcd hwt
            have x2 := cellAt HX.out 2 _ rfl
            have xf2 := frzAt HX.out 2
            go_wp2_with fail
            refine (text_cu wr gg b0 c2 HCU.out (by omega)).mono ?_
            rintro e w13 ⟨rfl, hcu3, hc3⟩
            have hl3 := cText_len c2
            have hsz3 := cText_get c2
            have HCU3 := Lib.hid hcu3
            have HX3 := Lib.hid (hc3.heap HX.out (fun h => by have h : gc = gg := h; omega))
            have HZ3 := Lib.hid (hc3.heap HZ.out (fun h => by have h : g = gg := h; omega))
            have HO3 := Lib.hid (ownsRow_chg HO.out hc3 (fun q hq h => by have h : q = gg := h; have := (World.ownsRow.lt HO.out q hq).1; omega))
            have HC3 := Lib.hid (HC.out.one hc3 (.inl (by omega)))
            have HT1 : Hid (cText (cIds kn cn []).2 = ((cText c2).1, (cText c2).2)) := by rw [Hid, HP.out]
            clear hcu3 hc3 x2 xf2 HCU HX HZ HO HC
            generalize (cText c2).1 = ta at *
            generalize (cText c2).2 = c3 at *
            have x2 := cellAt HX3.out 2 _ rfl
            have xf2 := frzAt HX3.out 2
            have HX4 : Hid ((w13.setCell ⟨gc, 2, none⟩ (.string (mkS ta))).heap[gc]? = some (.cells #[.int .u64 (T : Int), .slice Av acc.length cv, .string (mkS ta), .int .i64 0, .string ⟨#[]⟩] 44)) := heap_set HX3.out 2 _
            have HZ4 : Hid ((w13.setCell ⟨gc, 2, none⟩ (.string (mkS ta))).heap[g]? = some (.cells #[.int .u64 0, .slice none 0 0, .string ⟨#[]⟩, .int .i64 0, .string ⟨#[]⟩] 44)) := (Chg.put w13 gc 2 _).heap HZ3.out (fun h => by have h : g = gc := h; omega)
            have HCU4 : Hid (CU (w13.setCell ⟨gc, 2, none⟩ (.string (mkS ta))) gg b0 c3) := HCU3.out.chg (Chg.put w13 gc 2 _) (fun h => by have h : gg = gc := h; omega) (fun h => by have h : b0 = gc := h; omega)
            have HO4 : Hid ((w13.setCell ⟨gc, 2, none⟩ (.string (mkS ta))).ownsRow (gc + 1) 32 1 (.slice Av acc.length cv) acc.length (acc.map u64v)) := ownsRow_chg HO3.out (Chg.put w13 gc 2 _) (fun q hq h => by have h : q = gc := h; have := (World.ownsRow.lt HO3.out q hq).1; omega)
            have HC4 : Hid (Chg No w (w13.setCell ⟨gc, 2, none⟩ (.string (mkS ta)))) := HC3.out.setCell (.inl (by show w.heap.size ≤ gc; omega)) _
            go_upto_region 10 with fail
            generalize w13.setCell ⟨gc, 2, none⟩ (.string (mkS ta)) = w14 at *
            clear x2 xf2 HX3 HZ3 HCU3 HO3 HC3
            go_wp2_with fail
            refine (word_cu w14 gg b0 c3 HCU4.out (by omega)).mono ?_
            rintro e w15 ⟨rfl, hcu5, hc5⟩
            have hl5 := cWord_len c3
            have hdl := word_lt c3
            have HCU5 := Lib.hid hcu5
            have HX5 := Lib.hid (hc5.heap HX4.out (fun h => by have h : gc = gg := h; omega))
            have HZ5 := Lib.hid (hc5.heap HZ4.out (fun h => by have h : g = gg := h; omega))
            have HO5 := Lib.hid (ownsRow_chg HO4.out hc5 (fun q hq h => by have h : q = gg := h; have := (World.ownsRow.lt HO4.out q hq).1; omega))
            have HC5 := Lib.hid (HC4.out.one hc5 (.inl (by omega)))
            have HT2 : Hid (cWord (cText (cIds kn cn []).2).2 = ((cWord c3).1, (cWord c3).2)) := by rw [Hid, HT1.out]
            clear hcu5 hc5 HCU4 HX4 HZ4 HO4 HC4
            generalize (cWord c3).1 = dw at *
            generalize (cWord c3).2 = c5 at *
            have hwd := wrap_sd dw hdl
            have x3 := cellAt HX5.out 3 _ rfl
            have xf3 := frzAt HX5.out 3
            have HX6 : Hid ((w15.setCell ⟨gc, 3, none⟩ (.int .i64 (sd dw))).heap[gc]? = some (.cells #[.int .u64 (T : Int), .slice Av acc.length cv, .string (mkS ta), .int .i64 (sd dw), .string ⟨#[]⟩] 44)) := heap_set HX5.out 3 _
            have HZ6 : Hid ((w15.setCell ⟨gc, 3, none⟩ (.int .i64 (sd dw))).heap[g]? = some (.cells #[.int .u64 0, .slice none 0 0, .string ⟨#[]⟩, .int .i64 0, .string ⟨#[]⟩] 44)) := (Chg.put w15 gc 3 _).heap HZ5.out (fun h => by have h : g = gc := h; omega)
            have HCU6 : Hid (CU (w15.setCell ⟨gc, 3, none⟩ (.int .i64 (sd dw))) gg b0 c5) := HCU5.out.chg (Chg.put w15 gc 3 _) (fun h => by have h : gg = gc := h; omega) (fun h => by have h : b0 = gc := h; omega)
            have HO6 : Hid ((w15.setCell ⟨gc, 3, none⟩ (.int .i64 (sd dw))).ownsRow (gc + 1) 32 1 (.slice Av acc.length cv) acc.length (acc.map u64v)) := ownsRow_chg HO5.out (Chg.put w15 gc 3 _) (fun q hq h => by have h : q = gc := h; have := (World.ownsRow.lt HO5.out q hq).1; omega)
            have HC6 : Hid (Chg No w (w15.setCell ⟨gc, 3, none⟩ (.int .i64 (sd dw)))) := HC5.out.setCell (.inl (by show w.heap.size ≤ gc; omega)) _
            go_upto_region 11 with fail
            generalize w15.setCell ⟨gc, 3, none⟩ (.int .i64 (sd dw)) = w16 at *
            clear x3 xf3 HX5 HZ5 HCU5 HO5 HC5 hwd
            go_wp2_with fail
            refine (text_cu w16 gg b0 c5 HCU6.out (by omega)).mono ?_
            rintro e w17 ⟨rfl, hcu7, hc7⟩
            have hl7 := cText_len c5
            have hsz7 := cText_get c5
            have HCU7 := Lib.hid hcu7
            have HX7 := Lib.hid (hc7.heap HX6.out (fun h => by have h : gc = gg := h; omega))
            have HZ7 := Lib.hid (hc7.heap HZ6.out (fun h => by have h : g = gg := h; omega))
            have HO7 := Lib.hid (ownsRow_chg HO6.out hc7 (fun q hq h => by have h : q = gg := h; have := (World.ownsRow.lt HO6.out q hq).1; omega))
            have HC7 := Lib.hid (HC6.out.one hc7 (.inl (by omega)))
            have HT3 : Hid (cText (cWord (cText (cIds kn cn []).2).2).2 = ((cText c5).1, (cText c5).2)) := by rw [Hid, HT2.out]
            clear hcu7 hc7 HCU6 HX6 HZ6 HO6 HC6
            generalize (cText c5).1 = tx at *
            generalize (cText c5).2 = c7 at *
            have x4 := cellAt HX7.out 4 _ rfl
            have xf4 := frzAt HX7.out 4
            have HX8 : Hid ((w17.setCell ⟨gc, 4, none⟩ (.string (mkS tx))).heap[gc]? = some (.cells #[.int .u64 (T : Int), .slice Av acc.length cv, .string (mkS ta), .int .i64 (sd dw), .string (mkS tx)] 44)) := heap_set HX7.out 4 _
            have HZ8 : Hid ((w17.setCell ⟨gc, 4, none⟩ (.string (mkS tx))).heap[g]? = some (.cells #[.int .u64 0, .slice none 0 0, .string ⟨#[]⟩, .int .i64 0, .string ⟨#[]⟩] 44)) := (Chg.put w17 gc 4 _).heap HZ7.out (fun h => by have h : g = gc := h; omega)
            have HCU8 : Hid (CU (w17.setCell ⟨gc, 4, none⟩ (.string (mkS tx))) gg b0 c7) := HCU7.out.chg (Chg.put w17 gc 4 _) (fun h => by have h : gg = gc := h; omega) (fun h => by have h : b0 = gc := h; omega)
            have HO8 : Hid ((w17.setCell ⟨gc, 4, none⟩ (.string (mkS tx))).ownsRow (gc + 1) 32 1 (.slice Av acc.length cv) acc.length (acc.map u64v)) := ownsRow_chg HO7.out (Chg.put w17 gc 4 _) (fun q hq h => by have h : q = gc := h; have := (World.ownsRow.lt HO7.out q hq).1; omega)
            have HC8 : Hid (Chg No w (w17.setCell ⟨gc, 4, none⟩ (.string (mkS tx)))) := HC7.out.setCell (.inl (by show w.heap.size ≤ gc; omega)) _
            have HPC : Hid (preC xs = ((T, acc, ta, sd dw, tx), c7)) := by
              rw [Hid]
              unfold preC
              rw [HWD.out]
              simp only
              rw [HNM.out]
              simp only
              rw [HT3.out, HT2.out, HT1.out, HP.out]
            go_upto_region 12 with fail
            generalize w17.setCell ⟨gc, 4, none⟩ (.string (mkS tx)) = w18 at *
            clear x4 xf4 HX7 HZ7 HCU7 HO7 HC7 HT1 HT2 HT3 HP
            obtain ⟨Ac, capc, hcc⟩ := HCU8.out.cells
            have q0 := cellAt hcc 0 _ rfl
            have q1 := cellAt hcc 1 _ rfl
            clear hcc
            cases hwq : c7.wrong with
            | true =>
              have HR : Hid (asCommit xs = none) := by rw [Hid, HNT.out, HPC.out, if_pos (.inl hwq)]
              rw [hwq] at q1
              clear hwq
              obtain ⟨z0, z1, z2, z3, z4⟩ := cells5b HZ8.out
              have zf0 := frzAt HZ8.out 0
              have zf1 := frzAt HZ8.out 1
              have zf2 := frzAt HZ8.out 2
              have zf3 := frzAt HZ8.out 3
              have zf4 := frzAt HZ8.out 4
              go_wp2
              exact bodyPost_ret (v := .tuple #[.agg #[.int .u64 0, .slice none 0 0, .string ⟨#[]⟩, .int .i64 0, .string ⟨#[]⟩], .bool false]) (by simp [results, Try.results63, go_sem, z0, z1, z2, z3, z4]) rfl ⟨0, none, 0, 0, ⟨#[]⟩, 0, ⟨#[]⟩, by rw [HR.out]; rfl, (by rw [HR.out]; intro t ps a d x h; cases h), (((((HC8.out.setCell (.inl (Nat.le_of_eq hg)) _).setCell (.inl (Nat.le_of_eq hg)) _).setCell (.inl (Nat.le_of_eq hg)) _).setCell (.inl (Nat.le_of_eq hg)) _).setCell (.inl (Nat.le_of_eq hg)) _)⟩
            | false =>
              rw [hwq] at q1
              by_cases hr : c7.rest.length = 0
              · have hrb : ¬ (0 : Int) < (c7.rest.length : Int) := by omega
                have HRE : Hid (c7.rest = []) := List.eq_nil_of_length_eq_zero hr
                rw [hr] at q0
                have hck := refcheck_commit w18 T Av acc.length cv acc (mkS ta) (sd dw) (mkS tx) (slOwn2 HO8.out) (by omega) (by rw [mkS_size]; omega) (by rw [mkS_size]; omega)
                rw [mkS_list, mkS_list] at hck
                generalize hz : commitF T acc ta tx = F at *
                have HCK := Lib.hid hck
                obtain ⟨y0, y1, y2, y3, y4⟩ := cells5b HX8.out
                by_cases hF : F = 0
                · subst hF
                  have HR : Hid (asCommit xs = some (T, acc, ta, sd dw, tx)) := by rw [Hid, HNT.out, HPC.out, if_neg (by rw [hwq, HRE.out]; simp only; rw [hz]; simp)]
                  have HACC := Lib.hid (slOwn2 HO8.out)
                  clear hwq hz hck hr hrb
                  generalize acc.length = al at *
                  go_wp2_with fail
                  refine HCK.out.mono ?_
                  rintro e w19 ⟨rfl, hc9⟩
                  have HA9 := Lib.hid (HACC.out.no hc9)
                  have HC9 := Lib.hid (HC8.out.no hc9)
                  have HX9 := Lib.hid (hc9.heap HX8.out (fun x => x))
                  have HZ9 := Lib.hid (hc9.heap HZ8.out (fun x => x))
                  clear y0 y1 y2 y3 y4
                  obtain ⟨y0, y1, y2, y3, y4⟩ := cells5b HX9.out
                  obtain ⟨z0, z1, z2, z3, z4⟩ := cells5b HZ9.out
                  have zf0 := frzAt HZ9.out 0
                  have zf1 := frzAt HZ9.out 1
                  have zf2 := frzAt HZ9.out 2
                  have zf3 := frzAt HZ9.out 3
                  have zf4 := frzAt HZ9.out 4
                  have HCH : Hid (∀ v0 v1 v2 v3 v4, Chg No w (((((w19.setCell ⟨g, 0, none⟩ v0).setCell ⟨g, 1, none⟩ v1).setCell ⟨g, 2, none⟩ v2).setCell ⟨g, 3, none⟩ v3).setCell ⟨g, 4, none⟩ v4)) := fun v0 v1 v2 v3 v4 => ((((HC9.out.setCell (.inl (Nat.le_of_eq hg)) _).setCell (.inl (Nat.le_of_eq hg)) _).setCell (.inl (Nat.le_of_eq hg)) _).setCell (.inl (Nat.le_of_eq hg)) _).setCell (.inl (Nat.le_of_eq hg)) _
                  have HSF : Hid (∀ v0 v1 v2 v3 v4, Sl u64v (((((w19.setCell ⟨g, 0, none⟩ v0).setCell ⟨g, 1, none⟩ v1).setCell ⟨g, 2, none⟩ v2).setCell ⟨g, 3, none⟩ v3).setCell ⟨g, 4, none⟩ v4) (.slice Av al cv) acc) := fun v0 v1 v2 v3 v4 => by
                    have hn : ∀ q, (Value.slice Av al cv).ownBlock = some q → ¬ One g q := fun q hq h => by
                      have h : q = g := h
                      have := (World.ownsRow.lt HO8.out q hq).1
                      omega
                    exact (((((HA9.out.chg (Chg.put w19 g 0 v0) hn).chg (Chg.put _ g 1 v1) hn).chg (Chg.put _ g 2 v2) hn).chg (Chg.put _ g 3 v3) hn).chg (Chg.put _ g 4 v4) hn)
                  go_wp2
                  exact bodyPost_ret (v := .tuple #[.agg #[.int .u64 (T : Int), .slice Av al cv, .string (mkS ta), .int .i64 (sd dw), .string (mkS tx)], .bool true]) (by simp [results, Try.results63, go_sem, z0, z1, z2, z3, z4]) rfl ⟨T, Av, al, cv, mkS ta, sd dw, mkS tx, by rw [HR.out]; rfl, (by rw [HR.out]; intro t ps a d x h; cases h; exact ⟨rfl, rfl, rfl, rfl, HSF.out _ _ _ _ _⟩), HCH.out _ _ _ _ _⟩
                · have HR : Hid (asCommit xs = none) := by rw [Hid, HNT.out, HPC.out, if_pos (.inr (.inr (by simp only; rw [hz]; exact hF)))]
                  have hFb : ((F : Int) != 0) = true := by simp; omega
                  clear hwq hz hck hr hrb hF
                  generalize acc.length = al at *
                  go_wp2_with fail
                  refine HCK.out.mono ?_
                  rintro e w19 ⟨rfl, hc9⟩
                  have HC9 := Lib.hid (HC8.out.no hc9)
                  have HZ9 := Lib.hid (hc9.heap HZ8.out (fun x => x))
                  obtain ⟨z0, z1, z2, z3, z4⟩ := cells5b HZ9.out
                  have zf0 := frzAt HZ9.out 0
                  have zf1 := frzAt HZ9.out 1
                  have zf2 := frzAt HZ9.out 2
                  have zf3 := frzAt HZ9.out 3
                  have zf4 := frzAt HZ9.out 4
                  go_wp2
                  exact bodyPost_ret (v := .tuple #[.agg #[.int .u64 0, .slice none 0 0, .string ⟨#[]⟩, .int .i64 0, .string ⟨#[]⟩], .bool false]) (by simp [results, Try.results63, go_sem, z0, z1, z2, z3, z4]) rfl ⟨0, none, 0, 0, ⟨#[]⟩, 0, ⟨#[]⟩, by rw [HR.out]; rfl, (by rw [HR.out]; intro t ps a d x h; cases h), (((((HC9.out.setCell (.inl (Nat.le_of_eq hg)) _).setCell (.inl (Nat.le_of_eq hg)) _).setCell (.inl (Nat.le_of_eq hg)) _).setCell (.inl (Nat.le_of_eq hg)) _).setCell (.inl (Nat.le_of_eq hg)) _)⟩
              · have hrb : (0 : Int) < (c7.rest.length : Int) := by omega
                have HR : Hid (asCommit xs = none) := by rw [Hid, HNT.out, HPC.out, if_pos (.inr (.inl (fun h => hr (by rw [h]; rfl))))]
                clear hwq hr
                generalize c7.rest.length = rl at *
                obtain ⟨z0, z1, z2, z3, z4⟩ := cells5b HZ8.out
                have zf0 := frzAt HZ8.out 0
                have zf1 := frzAt HZ8.out 1
                have zf2 := frzAt HZ8.out 2
                have zf3 := frzAt HZ8.out 3
                have zf4 := frzAt HZ8.out 4
                go_wp2
                exact bodyPost_ret (v := .tuple #[.agg #[.int .u64 0, .slice none 0 0, .string ⟨#[]⟩, .int .i64 0, .string ⟨#[]⟩], .bool false]) (by simp [results, Try.results63, go_sem, z0, z1, z2, z3, z4]) rfl ⟨0, none, 0, 0, ⟨#[]⟩, 0, ⟨#[]⟩, by rw [HR.out]; rfl, (by rw [HR.out]; intro t ps a d x h; cases h), (((((HC8.out.setCell (.inl (Nat.le_of_eq hg)) _).setCell (.inl (Nat.le_of_eq hg)) _).setCell (.inl (Nat.le_of_eq hg)) _).setCell (.inl (Nat.le_of_eq hg)) _).setCell (.inl (Nat.le_of_eq hg)) _)⟩
        · obtain ⟨k, rfl⟩ : ∃ k, k0 = k + 1 := ⟨k0 - 1, by omega⟩
          have hkb : (0 : Int) < ((k + 1 : Nat) : Int) := by omega
          have hwf : c2.wrong = false := by cases h : c2.wrong with | true => exact absurd (.inr h) hk0 | false => rfl
          obtain ⟨Ad, capd, hcd⟩ := HCU.out.cells
          have qd := cellAt hcd 1 _ rfl
          rw [hwf] at qd
          have HST := Lib.hid (cIds_step k c2 acc hwf)
          have HP := HP0
          clear hk0 hwf hcd HP0
          go_upto_region 8 with fail
          clear qd
          have HAL : Hid (acc.length = acc.length) := rfl
          generalize hall : acc.length = al at *
          have HAL := Lib.hid hall
          clear hall
          refine wp_region_held_drew (S := (fun _ => True)) (by kernel_rfl) trivial (fun hSw => ?_)
          replace HCU := Lib.hid (HCU.out.no ((Chg.refl No wr).drew))
          replace HO : Hid (wr.drew.ownsRow (gc + 1) 32 1 (.slice Av al cv) al (acc.map u64v)) := HO.out
          replace HX : Hid (wr.drew.heap[gc]? = some (.cells #[.int .u64 (T : Int), .slice Av al cv, .string ⟨#[]⟩, .int .i64 0, .string ⟨#[]⟩] 44)) := HX.out
          replace HZ : Hid (wr.drew.heap[g]? = some (.cells #[.int .u64 0, .slice none 0 0, .string ⟨#[]⟩, .int .i64 0, .string ⟨#[]⟩] 44)) := HZ.out
          replace HC : Hid (Chg No w wr.drew) := HC.out.drew
          generalize wr.drew = u at *
          refine wpAnyH_take (i := 0) (oi := { dst := some 37, op := Go.Op.fieldAddr 44 (Go.Operand.tmp 5) 1, type := 0, pos := "ref.go:193", after := #[], guard := none }) (v := ?_) rfl (by kernel_rfl) (by kernel_rfl) (by kernel_rfl) (fun _ _ _ h => h) (Or.inl ⟨by rfl, ?_⟩) hSw ?_
          rotate_left
          · (intro W hW; (try dsimp only at hW); go_simp; try with_reducible rfl)
          try simp only [Act.put, List.setIfInBounds_toArray, List.set_cons_zero, List.set_cons_succ]
          refine wpAnyH_take (i := 2) (oi := { dst := some 39, op := Go.Op.move (Go.Operand.tmp 4), type := 150, pos := "ref.go:193", after := #[], guard := none }) (v := ?_) rfl (by kernel_rfl) (by kernel_rfl) (by kernel_rfl) (fun _ _ _ h => h) (Or.inl ⟨by rfl, ?_⟩) hSw ?_
          rotate_left
          · (intro W hW; (try dsimp only at hW); go_simp; try with_reducible rfl)
          try simp only [Act.put, List.setIfInBounds_toArray, List.set_cons_zero, List.set_cons_succ]
          refine wpAnyH_ready (rs := [1, 3]) (by kernel_rfl) (by simp) ?_
          refine (AllReadyH.cons (o := { dst := some 38, op := Go.Op.load 42 (Go.Operand.tmp 37), type := 42, pos := "ref.go:193", after := #[{ on := 0, ground := Go.Ground.data }], guard := none }) rfl (fun K hK => ?_) (AllReadyH.cons (o := { dst := some 40, op := Go.Op.call { callee := Go.Callee.value (Go.Operand.func 93), args := #[Go.Operand.tmp 39], argTypes := #[150] }, type := 31, pos := "ref.go:193", after := #[{ on := 2, ground := Go.Ground.data }], guard := none }) rfl (fun K hK => ?_) AllReadyH.nil))
          · skip
            rw [if_pos (by rfl)]
            have u1 := cellAt HX.out 1 _ rfl
            go_simp
            refine hK.out _ _ trivial (fun hSw => ?_)
            clear hK
            try simp only [Act.put, List.setIfInBounds_toArray, List.set_cons_zero, List.set_cons_succ]
            refine wpAnyH_ready (rs := [3]) (by kernel_rfl) (by simp) ?_
            refine (AllReadyH.cons (o := { dst := some 40, op := Go.Op.call { callee := Go.Callee.value (Go.Operand.func 93), args := #[Go.Operand.tmp 39], argTypes := #[150] }, type := 31, pos := "ref.go:193", after := #[{ on := 2, ground := Go.Ground.data }], guard := none }) rfl (fun K hK => ?_) AllReadyH.nil)
            rw [if_pos (by rfl)]
            go_simp
            refine (word_cu u gg b0 c2 HCU.out (by omega)).mono ?_
            rintro e w3 ⟨rfl, hcu3, hc3⟩
            have HCU3 := Lib.hid hcu3
            have HX3 := Lib.hid (hc3.heap HX.out (fun h => by have h : gc = gg := h; omega))
            have HZ3 := Lib.hid (hc3.heap HZ.out (fun h => by have h : g = gg := h; omega))
            have HO3 := Lib.hid (ownsRow_chg HO.out hc3 (fun q hq h => by have h : q = gg := h; have := (World.ownsRow.lt HO.out q hq).1; omega))
            have HC3 := Lib.hid (HC.out.one hc3 (.inl (by omega)))
            have hl5 := cWord_len c2
            have HID3 : Hid ((cWord c2).1 < 18446744073709551616) := word_lt c2
            clear hcu3 hc3
            generalize (cWord c2).1 = id at *
            generalize (cWord c2).2 = c5 at *
            refine hK.out _ _ trivial (fun hSw => ?_)
            clear hK
            try simp only [Act.put, List.setIfInBounds_toArray, List.set_cons_zero, List.set_cons_succ]
            refine wpAnyH_ready (rs := [4]) (by kernel_rfl) (by simp) ?_
            refine (AllReadyH.cons (o := { dst := some 41, op := Go.Op.buildSlice 42 1 #[(0, Go.Operand.tmp 40)], type := 42, pos := "ref.go:193", after := #[{ on := 3, ground := Go.Ground.data }], guard := none }) rfl (fun K hK => ?_) AllReadyH.nil)
            rw [if_pos (by rfl)]
            go_simp
            have HCU34 := Lib.hid (HCU3.out.no ((Chg.refl No w3).alloc (.cells #[.int .u64 (id : Int)] 32)))
            have HX34 := Lib.hid (((Chg.refl No w3).alloc (.cells #[.int .u64 (id : Int)] 32)).heap HX3.out (fun x => x))
            have HZ34 := Lib.hid (((Chg.refl No w3).alloc (.cells #[.int .u64 (id : Int)] 32)).heap HZ3.out (fun x => x))
            have HO34 := Lib.hid (World.ownsRow.alloc HO3.out (.cells #[.int .u64 (id : Int)] 32))
            have HC34 : Hid (Chg No w (w3.alloc (.cells #[.int .u64 (id : Int)] 32))) := HC3.out.alloc _
            have HS34 : Hid (Src Try.prog 1 42 (.slice (some ⟨w3.heap.size, 0, none⟩) 1 1) 1 [u64v id] (w3.alloc (.cells #[.int .u64 (id : Int)] 32))) := Src.one Try.underlying42 _ rfl
            have hsz4 : gc + 1 ≤ (w3.alloc (.cells #[.int .u64 (id : Int)] 32)).heap.size := by have := (Array.getElem?_eq_some_iff.1 HX3.out).1; rw [World.size_alloc]; omega
            generalize w3.alloc (.cells #[.int .u64 (id : Int)] 32) = w4 at *
            generalize w3.heap.size = gb at *
            refine hK.out _ _ trivial (fun hSw => ?_)
            clear hK
            try simp only [Act.put, List.setIfInBounds_toArray, List.set_cons_zero, List.set_cons_succ]
            refine wpAnyH_ready (rs := [5]) (by kernel_rfl) (by simp) ?_
            refine (AllReadyH.cons (o := { dst := some 42, op := Go.Op.call { callee := Go.Callee.builtin Go.Builtin.append, args := #[Go.Operand.tmp 38, Go.Operand.tmp 41], argTypes := #[42, 42] }, type := 42, pos := "ref.go:193", after := #[{ on := 1, ground := Go.Ground.data }, { on := 4, ground := Go.Ground.data }, { on := 3, ground := Go.Ground.chain }], guard := none }) rfl (fun K hK => ?_) AllReadyH.nil)
            rw [if_pos (by rfl)]
            refine wp_app2 (.tmp 38) (.tmp 41) 42 42 rfl (gc + 1) 32 (.int .u64 0) 1 8 infoId Try.underlying42 rfl (by decide) (.slice Av al cv) (.slice (some ⟨gb, 0, none⟩) 1 1) al 1 (acc.map u64v) [u64v id] rfl rfl ?_ ?_ ?_ ?_ ?_ ?_
            · exact HO34.out
            · exact HS34.out
            · omega
            · unfold maxLen; omega
            · exact hsz4
            intro v5 w5 hown5 hg5 hfrom5
            obtain ⟨A8, c8, rfl⟩ := ownsRow_form hown5
            have HX345 := Lib.hid (row_keep HO34.out hg5 HX34.out (by decide))
            have HZ345 := Lib.hid (row_keep HO34.out hg5 HZ34.out (by decide))
            have HCU345 := Lib.hid (HCU34.out.chg (Chg.ofGrown (S := fun k => (Value.slice Av al cv).ownBlock = some k) hg5 (fun k hk => hk)) (fun h => by have := (World.ownsRow.lt HO34.out _ h).1; omega) (fun h => by have := (World.ownsRow.lt HO34.out _ h).1; omega))
            have HC345 : Hid (Chg No w w5) := HC34.out.grown hg5 (fun q hq => .inl (by have := (World.ownsRow.lt HO34.out q hq).1; omega))
            have HO345 := Lib.hid hown5
            have u3 := cellAt HX345.out 1 _ rfl
            have f3 := frzAt HX345.out 1
            clear hown5 hg5 hfrom5
            refine hK.out _ _ trivial (fun hSw => ?_)
            clear hK
            try simp only [Act.put, List.setIfInBounds_toArray, List.set_cons_zero, List.set_cons_succ]
            refine wpAnyH_take (i := 6) (oi := { dst := some 43, op := Go.Op.fieldAddr 44 (Go.Operand.tmp 5) 1, type := 0, pos := "ref.go:193", after := #[{ on := 0, ground := Go.Ground.phase }, { on := 1, ground := Go.Ground.phase }, { on := 2, ground := Go.Ground.phase }, { on := 3, ground := Go.Ground.phase }, { on := 4, ground := Go.Ground.phase }, { on := 5, ground := Go.Ground.phase }], guard := none }) (v := ?_) rfl (by kernel_rfl) (by kernel_rfl) (by kernel_rfl) (fun _ _ _ h => h) (Or.inl ⟨by rfl, ?_⟩) hSw ?_
            rotate_left
            · (intro W hW; (try dsimp only at hW); go_simp; try with_reducible rfl)
            try simp only [Act.put, List.setIfInBounds_toArray, List.set_cons_zero, List.set_cons_succ]
            refine wpAnyH_ready (rs := [7]) (by kernel_rfl) (by simp) ?_
            refine (AllReadyH.cons (o := { dst := none, op := Go.Op.store 42 (Go.Operand.tmp 43) (Go.Operand.tmp 42), type := 0, pos := "ref.go:193", after := #[{ on := 6, ground := Go.Ground.data }, { on := 5, ground := Go.Ground.data }, { on := 5, ground := Go.Ground.chain }, { on := 0, ground := Go.Ground.phase }, { on := 1, ground := Go.Ground.phase }, { on := 2, ground := Go.Ground.phase }, { on := 3, ground := Go.Ground.phase }, { on := 4, ground := Go.Ground.phase }, { on := 5, ground := Go.Ground.phase }], guard := none }) rfl (fun K hK => ?_) AllReadyH.nil)
            rw [if_pos (by rfl)]
            go_simp
            refine hK.out _ _ trivial (fun hSw => ?_)
            clear hK
            try simp only [Act.put, List.setIfInBounds_toArray, List.set_cons_zero, List.set_cons_succ]
            refine wpAnyH_done (by kernel_rfl) ?_ _
            have HLL : Hid ((acc ++ [id]).length = al + 1) := by rw [Hid, List.length_append, HAL.out]; rfl
            have HXF : Hid ((w5.setCell ⟨gc, 1, none⟩ (.slice A8 (al + 1) c8)).heap[gc]? = some (.cells #[.int .u64 (T : Int), .slice A8 (acc ++ [id]).length c8, .string ⟨#[]⟩, .int .i64 0, .string ⟨#[]⟩] 44)) := by rw [HLL.out]; exact heap_set HX345.out 1 _
            have HZF : Hid ((w5.setCell ⟨gc, 1, none⟩ (.slice A8 (al + 1) c8)).heap[g]? = some (.cells #[.int .u64 0, .slice none 0 0, .string ⟨#[]⟩, .int .i64 0, .string ⟨#[]⟩] 44)) := (Chg.put w5 gc 1 _).heap HZ345.out (fun h => by have h : g = gc := h; omega)
            have HCUF : Hid (CU (w5.setCell ⟨gc, 1, none⟩ (.slice A8 (al + 1) c8)) gg b0 c5) := HCU345.out.chg (Chg.put w5 gc 1 _) (fun h => by have h : gg = gc := h; omega) (fun h => by have h : b0 = gc := h; omega)
            have HOF : Hid ((w5.setCell ⟨gc, 1, none⟩ (.slice A8 (al + 1) c8)).ownsRow (gc + 1) 32 1 (.slice A8 (acc ++ [id]).length c8) (acc ++ [id]).length ((acc ++ [id]).map u64v)) := by
              rw [Hid, HLL.out, List.map_append]
              exact ownsRow_chg HO345.out (Chg.put w5 gc 1 _) (fun q hq h => by have h : q = gc := h; have := (World.ownsRow.lt HO345.out q hq).1; omega)
            have HCF : Hid (Chg No w (w5.setCell ⟨gc, 1, none⟩ (.slice A8 (al + 1) c8))) := HC345.out.setCell (.inl (by show w.heap.size ≤ gc; omega)) _
            have HPF : Hid (cIds kn cn [] = cIds k c5 (acc ++ [id])) := by rw [Hid, HP.out, HST.out]
            have HABF : Hid (∀ q ∈ acc ++ [id], q < 18446744073709551616) := by
              intro q hq
              rcases List.mem_append.1 hq with hq | hq
              · exact HAB.out q hq
              · simp only [List.mem_cons, List.not_mem_nil, or_false] at hq
                subst hq
                exact HID3.out
            go_wp2
            go_roundw
            case rel => exact ⟨k, c5, acc ++ [id], A8, c8, by omega, by first | rfl | (congr 1; omega) | (simp; omega) | simp, by rw [HLL.out]; omega, by omega, HPF.out, HCUF.out, HOF.out, HXF.out, HZF.out, HABF.out, HCF.out⟩
            case measure => first | (simp [intOf]; done) | (simp [intOf]; omega) | omega
          · skip
            rw [if_pos (by rfl)]
            go_simp
            refine (word_cu u gg b0 c2 HCU.out (by omega)).mono ?_
            rintro e w3 ⟨rfl, hcu3, hc3⟩
            have HCU3 := Lib.hid hcu3
            have HX3 := Lib.hid (hc3.heap HX.out (fun h => by have h : gc = gg := h; omega))
            have HZ3 := Lib.hid (hc3.heap HZ.out (fun h => by have h : g = gg := h; omega))
            have HO3 := Lib.hid (ownsRow_chg HO.out hc3 (fun q hq h => by have h : q = gg := h; have := (World.ownsRow.lt HO.out q hq).1; omega))
            have HC3 := Lib.hid (HC.out.one hc3 (.inl (by omega)))
            have hl5 := cWord_len c2
            have HID3 : Hid ((cWord c2).1 < 18446744073709551616) := word_lt c2
            clear hcu3 hc3
            generalize (cWord c2).1 = id at *
            generalize (cWord c2).2 = c5 at *
            refine hK.out _ _ trivial (fun hSw => ?_)
            clear hK
            try simp only [Act.put, List.setIfInBounds_toArray, List.set_cons_zero, List.set_cons_succ]
            refine wpAnyH_ready (rs := [1, 4]) (by kernel_rfl) (by simp) ?_
            refine (AllReadyH.cons (o := { dst := some 38, op := Go.Op.load 42 (Go.Operand.tmp 37), type := 42, pos := "ref.go:193", after := #[{ on := 0, ground := Go.Ground.data }], guard := none }) rfl (fun K hK => ?_) (AllReadyH.cons (o := { dst := some 41, op := Go.Op.buildSlice 42 1 #[(0, Go.Operand.tmp 40)], type := 42, pos := "ref.go:193", after := #[{ on := 3, ground := Go.Ground.data }], guard := none }) rfl (fun K hK => ?_) AllReadyH.nil))
            · skip
              rw [if_pos (by rfl)]
              have u1 := cellAt HX3.out 1 _ rfl
              go_simp
              refine hK.out _ _ trivial (fun hSw => ?_)
              clear hK
              try simp only [Act.put, List.setIfInBounds_toArray, List.set_cons_zero, List.set_cons_succ]
              refine wpAnyH_ready (rs := [4]) (by kernel_rfl) (by simp) ?_
              refine (AllReadyH.cons (o := { dst := some 41, op := Go.Op.buildSlice 42 1 #[(0, Go.Operand.tmp 40)], type := 42, pos := "ref.go:193", after := #[{ on := 3, ground := Go.Ground.data }], guard := none }) rfl (fun K hK => ?_) AllReadyH.nil)
              rw [if_pos (by rfl)]
              go_simp
              have HCU34 := Lib.hid (HCU3.out.no ((Chg.refl No w3).alloc (.cells #[.int .u64 (id : Int)] 32)))
              have HX34 := Lib.hid (((Chg.refl No w3).alloc (.cells #[.int .u64 (id : Int)] 32)).heap HX3.out (fun x => x))
              have HZ34 := Lib.hid (((Chg.refl No w3).alloc (.cells #[.int .u64 (id : Int)] 32)).heap HZ3.out (fun x => x))
              have HO34 := Lib.hid (World.ownsRow.alloc HO3.out (.cells #[.int .u64 (id : Int)] 32))
              have HC34 : Hid (Chg No w (w3.alloc (.cells #[.int .u64 (id : Int)] 32))) := HC3.out.alloc _
              have HS34 : Hid (Src Try.prog 1 42 (.slice (some ⟨w3.heap.size, 0, none⟩) 1 1) 1 [u64v id] (w3.alloc (.cells #[.int .u64 (id : Int)] 32))) := Src.one Try.underlying42 _ rfl
              have hsz4 : gc + 1 ≤ (w3.alloc (.cells #[.int .u64 (id : Int)] 32)).heap.size := by have := (Array.getElem?_eq_some_iff.1 HX3.out).1; rw [World.size_alloc]; omega
              generalize w3.alloc (.cells #[.int .u64 (id : Int)] 32) = w4 at *
              generalize w3.heap.size = gb at *
              refine hK.out _ _ trivial (fun hSw => ?_)
              clear hK
              try simp only [Act.put, List.setIfInBounds_toArray, List.set_cons_zero, List.set_cons_succ]
              refine wpAnyH_ready (rs := [5]) (by kernel_rfl) (by simp) ?_
              refine (AllReadyH.cons (o := { dst := some 42, op := Go.Op.call { callee := Go.Callee.builtin Go.Builtin.append, args := #[Go.Operand.tmp 38, Go.Operand.tmp 41], argTypes := #[42, 42] }, type := 42, pos := "ref.go:193", after := #[{ on := 1, ground := Go.Ground.data }, { on := 4, ground := Go.Ground.data }, { on := 3, ground := Go.Ground.chain }], guard := none }) rfl (fun K hK => ?_) AllReadyH.nil)
              rw [if_pos (by rfl)]
              refine wp_app2 (.tmp 38) (.tmp 41) 42 42 rfl (gc + 1) 32 (.int .u64 0) 1 8 infoId Try.underlying42 rfl (by decide) (.slice Av al cv) (.slice (some ⟨gb, 0, none⟩) 1 1) al 1 (acc.map u64v) [u64v id] rfl rfl ?_ ?_ ?_ ?_ ?_ ?_
              · exact HO34.out
              · exact HS34.out
              · omega
              · unfold maxLen; omega
              · exact hsz4
              intro v5 w5 hown5 hg5 hfrom5
              obtain ⟨A8, c8, rfl⟩ := ownsRow_form hown5
              have HX345 := Lib.hid (row_keep HO34.out hg5 HX34.out (by decide))
              have HZ345 := Lib.hid (row_keep HO34.out hg5 HZ34.out (by decide))
              have HCU345 := Lib.hid (HCU34.out.chg (Chg.ofGrown (S := fun k => (Value.slice Av al cv).ownBlock = some k) hg5 (fun k hk => hk)) (fun h => by have := (World.ownsRow.lt HO34.out _ h).1; omega) (fun h => by have := (World.ownsRow.lt HO34.out _ h).1; omega))
              have HC345 : Hid (Chg No w w5) := HC34.out.grown hg5 (fun q hq => .inl (by have := (World.ownsRow.lt HO34.out q hq).1; omega))
              have HO345 := Lib.hid hown5
              have u3 := cellAt HX345.out 1 _ rfl
              have f3 := frzAt HX345.out 1
              clear hown5 hg5 hfrom5
              refine hK.out _ _ trivial (fun hSw => ?_)
              clear hK
              try simp only [Act.put, List.setIfInBounds_toArray, List.set_cons_zero, List.set_cons_succ]
              refine wpAnyH_take (i := 6) (oi := { dst := some 43, op := Go.Op.fieldAddr 44 (Go.Operand.tmp 5) 1, type := 0, pos := "ref.go:193", after := #[{ on := 0, ground := Go.Ground.phase }, { on := 1, ground := Go.Ground.phase }, { on := 2, ground := Go.Ground.phase }, { on := 3, ground := Go.Ground.phase }, { on := 4, ground := Go.Ground.phase }, { on := 5, ground := Go.Ground.phase }], guard := none }) (v := ?_) rfl (by kernel_rfl) (by kernel_rfl) (by kernel_rfl) (fun _ _ _ h => h) (Or.inl ⟨by rfl, ?_⟩) hSw ?_
              rotate_left
              · (intro W hW; (try dsimp only at hW); go_simp; try with_reducible rfl)
              try simp only [Act.put, List.setIfInBounds_toArray, List.set_cons_zero, List.set_cons_succ]
              refine wpAnyH_ready (rs := [7]) (by kernel_rfl) (by simp) ?_
              refine (AllReadyH.cons (o := { dst := none, op := Go.Op.store 42 (Go.Operand.tmp 43) (Go.Operand.tmp 42), type := 0, pos := "ref.go:193", after := #[{ on := 6, ground := Go.Ground.data }, { on := 5, ground := Go.Ground.data }, { on := 5, ground := Go.Ground.chain }, { on := 0, ground := Go.Ground.phase }, { on := 1, ground := Go.Ground.phase }, { on := 2, ground := Go.Ground.phase }, { on := 3, ground := Go.Ground.phase }, { on := 4, ground := Go.Ground.phase }, { on := 5, ground := Go.Ground.phase }], guard := none }) rfl (fun K hK => ?_) AllReadyH.nil)
              rw [if_pos (by rfl)]
              go_simp
              refine hK.out _ _ trivial (fun hSw => ?_)
              clear hK
              try simp only [Act.put, List.setIfInBounds_toArray, List.set_cons_zero, List.set_cons_succ]
              refine wpAnyH_done (by kernel_rfl) ?_ _
              have HLL : Hid ((acc ++ [id]).length = al + 1) := by rw [Hid, List.length_append, HAL.out]; rfl
              have HXF : Hid ((w5.setCell ⟨gc, 1, none⟩ (.slice A8 (al + 1) c8)).heap[gc]? = some (.cells #[.int .u64 (T : Int), .slice A8 (acc ++ [id]).length c8, .string ⟨#[]⟩, .int .i64 0, .string ⟨#[]⟩] 44)) := by rw [HLL.out]; exact heap_set HX345.out 1 _
              have HZF : Hid ((w5.setCell ⟨gc, 1, none⟩ (.slice A8 (al + 1) c8)).heap[g]? = some (.cells #[.int .u64 0, .slice none 0 0, .string ⟨#[]⟩, .int .i64 0, .string ⟨#[]⟩] 44)) := (Chg.put w5 gc 1 _).heap HZ345.out (fun h => by have h : g = gc := h; omega)
              have HCUF : Hid (CU (w5.setCell ⟨gc, 1, none⟩ (.slice A8 (al + 1) c8)) gg b0 c5) := HCU345.out.chg (Chg.put w5 gc 1 _) (fun h => by have h : gg = gc := h; omega) (fun h => by have h : b0 = gc := h; omega)
              have HOF : Hid ((w5.setCell ⟨gc, 1, none⟩ (.slice A8 (al + 1) c8)).ownsRow (gc + 1) 32 1 (.slice A8 (acc ++ [id]).length c8) (acc ++ [id]).length ((acc ++ [id]).map u64v)) := by
                rw [Hid, HLL.out, List.map_append]
                exact ownsRow_chg HO345.out (Chg.put w5 gc 1 _) (fun q hq h => by have h : q = gc := h; have := (World.ownsRow.lt HO345.out q hq).1; omega)
              have HCF : Hid (Chg No w (w5.setCell ⟨gc, 1, none⟩ (.slice A8 (al + 1) c8))) := HC345.out.setCell (.inl (by show w.heap.size ≤ gc; omega)) _
              have HPF : Hid (cIds kn cn [] = cIds k c5 (acc ++ [id])) := by rw [Hid, HP.out, HST.out]
              have HABF : Hid (∀ q ∈ acc ++ [id], q < 18446744073709551616) := by
                intro q hq
                rcases List.mem_append.1 hq with hq | hq
                · exact HAB.out q hq
                · simp only [List.mem_cons, List.not_mem_nil, or_false] at hq
                  subst hq
                  exact HID3.out
              go_wp2
              go_roundw
              case rel => exact ⟨k, c5, acc ++ [id], A8, c8, by omega, by first | rfl | (congr 1; omega) | (simp; omega) | simp, by rw [HLL.out]; omega, by omega, HPF.out, HCUF.out, HOF.out, HXF.out, HZF.out, HABF.out, HCF.out⟩
              case measure => first | (simp [intOf]; done) | (simp [intOf]; omega) | omega
            · skip
              rw [if_pos (by rfl)]
              go_simp
              have HCU34 := Lib.hid (HCU3.out.no ((Chg.refl No w3).alloc (.cells #[.int .u64 (id : Int)] 32)))
              have HX34 := Lib.hid (((Chg.refl No w3).alloc (.cells #[.int .u64 (id : Int)] 32)).heap HX3.out (fun x => x))
              have HZ34 := Lib.hid (((Chg.refl No w3).alloc (.cells #[.int .u64 (id : Int)] 32)).heap HZ3.out (fun x => x))
              have HO34 := Lib.hid (World.ownsRow.alloc HO3.out (.cells #[.int .u64 (id : Int)] 32))
              have HC34 : Hid (Chg No w (w3.alloc (.cells #[.int .u64 (id : Int)] 32))) := HC3.out.alloc _
              have HS34 : Hid (Src Try.prog 1 42 (.slice (some ⟨w3.heap.size, 0, none⟩) 1 1) 1 [u64v id] (w3.alloc (.cells #[.int .u64 (id : Int)] 32))) := Src.one Try.underlying42 _ rfl
              have hsz4 : gc + 1 ≤ (w3.alloc (.cells #[.int .u64 (id : Int)] 32)).heap.size := by have := (Array.getElem?_eq_some_iff.1 HX3.out).1; rw [World.size_alloc]; omega
              generalize w3.alloc (.cells #[.int .u64 (id : Int)] 32) = w4 at *
              generalize w3.heap.size = gb at *
              refine hK.out _ _ trivial (fun hSw => ?_)
              clear hK
              try simp only [Act.put, List.setIfInBounds_toArray, List.set_cons_zero, List.set_cons_succ]
              refine wpAnyH_ready (rs := [1]) (by kernel_rfl) (by simp) ?_
              refine (AllReadyH.cons (o := { dst := some 38, op := Go.Op.load 42 (Go.Operand.tmp 37), type := 42, pos := "ref.go:193", after := #[{ on := 0, ground := Go.Ground.data }], guard := none }) rfl (fun K hK => ?_) AllReadyH.nil)
              rw [if_pos (by rfl)]
              have u1 := cellAt HX34.out 1 _ rfl
              go_simp
              refine hK.out _ _ trivial (fun hSw => ?_)
              clear hK
              try simp only [Act.put, List.setIfInBounds_toArray, List.set_cons_zero, List.set_cons_succ]
              refine wpAnyH_ready (rs := [5]) (by kernel_rfl) (by simp) ?_
              refine (AllReadyH.cons (o := { dst := some 42, op := Go.Op.call { callee := Go.Callee.builtin Go.Builtin.append, args := #[Go.Operand.tmp 38, Go.Operand.tmp 41], argTypes := #[42, 42] }, type := 42, pos := "ref.go:193", after := #[{ on := 1, ground := Go.Ground.data }, { on := 4, ground := Go.Ground.data }, { on := 3, ground := Go.Ground.chain }], guard := none }) rfl (fun K hK => ?_) AllReadyH.nil)
              rw [if_pos (by rfl)]
              refine wp_app2 (.tmp 38) (.tmp 41) 42 42 rfl (gc + 1) 32 (.int .u64 0) 1 8 infoId Try.underlying42 rfl (by decide) (.slice Av al cv) (.slice (some ⟨gb, 0, none⟩) 1 1) al 1 (acc.map u64v) [u64v id] rfl rfl ?_ ?_ ?_ ?_ ?_ ?_
              · exact HO34.out
              · exact HS34.out
              · omega
              · unfold maxLen; omega
              · exact hsz4
              intro v5 w5 hown5 hg5 hfrom5
              obtain ⟨A8, c8, rfl⟩ := ownsRow_form hown5
              have HX345 := Lib.hid (row_keep HO34.out hg5 HX34.out (by decide))
              have HZ345 := Lib.hid (row_keep HO34.out hg5 HZ34.out (by decide))
              have HCU345 := Lib.hid (HCU34.out.chg (Chg.ofGrown (S := fun k => (Value.slice Av al cv).ownBlock = some k) hg5 (fun k hk => hk)) (fun h => by have := (World.ownsRow.lt HO34.out _ h).1; omega) (fun h => by have := (World.ownsRow.lt HO34.out _ h).1; omega))
              have HC345 : Hid (Chg No w w5) := HC34.out.grown hg5 (fun q hq => .inl (by have := (World.ownsRow.lt HO34.out q hq).1; omega))
              have HO345 := Lib.hid hown5
              have u3 := cellAt HX345.out 1 _ rfl
              have f3 := frzAt HX345.out 1
              clear hown5 hg5 hfrom5
              refine hK.out _ _ trivial (fun hSw => ?_)
              clear hK
              try simp only [Act.put, List.setIfInBounds_toArray, List.set_cons_zero, List.set_cons_succ]
              refine wpAnyH_take (i := 6) (oi := { dst := some 43, op := Go.Op.fieldAddr 44 (Go.Operand.tmp 5) 1, type := 0, pos := "ref.go:193", after := #[{ on := 0, ground := Go.Ground.phase }, { on := 1, ground := Go.Ground.phase }, { on := 2, ground := Go.Ground.phase }, { on := 3, ground := Go.Ground.phase }, { on := 4, ground := Go.Ground.phase }, { on := 5, ground := Go.Ground.phase }], guard := none }) (v := ?_) rfl (by kernel_rfl) (by kernel_rfl) (by kernel_rfl) (fun _ _ _ h => h) (Or.inl ⟨by rfl, ?_⟩) hSw ?_
              rotate_left
              · (intro W hW; (try dsimp only at hW); go_simp; try with_reducible rfl)
              try simp only [Act.put, List.setIfInBounds_toArray, List.set_cons_zero, List.set_cons_succ]
              refine wpAnyH_ready (rs := [7]) (by kernel_rfl) (by simp) ?_
              refine (AllReadyH.cons (o := { dst := none, op := Go.Op.store 42 (Go.Operand.tmp 43) (Go.Operand.tmp 42), type := 0, pos := "ref.go:193", after := #[{ on := 6, ground := Go.Ground.data }, { on := 5, ground := Go.Ground.data }, { on := 5, ground := Go.Ground.chain }, { on := 0, ground := Go.Ground.phase }, { on := 1, ground := Go.Ground.phase }, { on := 2, ground := Go.Ground.phase }, { on := 3, ground := Go.Ground.phase }, { on := 4, ground := Go.Ground.phase }, { on := 5, ground := Go.Ground.phase }], guard := none }) rfl (fun K hK => ?_) AllReadyH.nil)
              rw [if_pos (by rfl)]
              go_simp
              refine hK.out _ _ trivial (fun hSw => ?_)
              clear hK
              try simp only [Act.put, List.setIfInBounds_toArray, List.set_cons_zero, List.set_cons_succ]
              refine wpAnyH_done (by kernel_rfl) ?_ _
              have HLL : Hid ((acc ++ [id]).length = al + 1) := by rw [Hid, List.length_append, HAL.out]; rfl
              have HXF : Hid ((w5.setCell ⟨gc, 1, none⟩ (.slice A8 (al + 1) c8)).heap[gc]? = some (.cells #[.int .u64 (T : Int), .slice A8 (acc ++ [id]).length c8, .string ⟨#[]⟩, .int .i64 0, .string ⟨#[]⟩] 44)) := by rw [HLL.out]; exact heap_set HX345.out 1 _
              have HZF : Hid ((w5.setCell ⟨gc, 1, none⟩ (.slice A8 (al + 1) c8)).heap[g]? = some (.cells #[.int .u64 0, .slice none 0 0, .string ⟨#[]⟩, .int .i64 0, .string ⟨#[]⟩] 44)) := (Chg.put w5 gc 1 _).heap HZ345.out (fun h => by have h : g = gc := h; omega)
              have HCUF : Hid (CU (w5.setCell ⟨gc, 1, none⟩ (.slice A8 (al + 1) c8)) gg b0 c5) := HCU345.out.chg (Chg.put w5 gc 1 _) (fun h => by have h : gg = gc := h; omega) (fun h => by have h : b0 = gc := h; omega)
              have HOF : Hid ((w5.setCell ⟨gc, 1, none⟩ (.slice A8 (al + 1) c8)).ownsRow (gc + 1) 32 1 (.slice A8 (acc ++ [id]).length c8) (acc ++ [id]).length ((acc ++ [id]).map u64v)) := by
                rw [Hid, HLL.out, List.map_append]
                exact ownsRow_chg HO345.out (Chg.put w5 gc 1 _) (fun q hq h => by have h : q = gc := h; have := (World.ownsRow.lt HO345.out q hq).1; omega)
              have HCF : Hid (Chg No w (w5.setCell ⟨gc, 1, none⟩ (.slice A8 (al + 1) c8))) := HC345.out.setCell (.inl (by show w.heap.size ≤ gc; omega)) _
              have HPF : Hid (cIds kn cn [] = cIds k c5 (acc ++ [id])) := by rw [Hid, HP.out, HST.out]
              have HABF : Hid (∀ q ∈ acc ++ [id], q < 18446744073709551616) := by
                intro q hq
                rcases List.mem_append.1 hq with hq | hq
                · exact HAB.out q hq
                · simp only [List.mem_cons, List.not_mem_nil, or_false] at hq
                  subst hq
                  exact HID3.out
              go_wp2
              go_roundw
              case rel => exact ⟨k, c5, acc ++ [id], A8, c8, by omega, by first | rfl | (congr 1; omega) | (simp; omega) | simp, by rw [HLL.out]; omega, by omega, HPF.out, HCUF.out, HOF.out, HXF.out, HZF.out, HABF.out, HCF.out⟩
              case measure => first | (simp [intOf]; done) | (simp [intOf]; omega) | omega
    · rw [if_neg hc1] at hdr0
      have hdr1 := hdr0.no ((Chg.refl No w).alloc (.cells #[.int .u64 0, .slice none 0 0, .string ⟨#[]⟩, .int .i64 0, .string ⟨#[]⟩] 44))
      have HCU1 : Hid (CU ((w.alloc (.cells #[.int .u64 0, .slice none 0 0, .string ⟨#[]⟩, .int .i64 0, .string ⟨#[]⟩] 44)).alloc (.cells #[.slice (some ⟨b0, o0 + 1, none⟩) (n - 1) (c - 1), .bool false] 152)) (g + 1) b0 ⟨xs.drop 1, false⟩) := by
        have := CU.start (d := b0) hdr1 hlen1 (by intro p hp; cases hp; rfl) (by rw [World.size_alloc]; omega)
        rw [World.size_alloc, hg] at this; exact this
      have HC1 : Hid (Chg No w ((w.alloc (.cells #[.int .u64 0, .slice none 0 0, .string ⟨#[]⟩, .int .i64 0, .string ⟨#[]⟩] 44)).alloc (.cells #[.slice (some ⟨b0, o0 + 1, none⟩) (n - 1) (c - 1), .bool false] 152))) := ((Chg.refl No w).alloc _).alloc _
      have HZ1 := Lib.hid (((Chg.refl No (w.alloc (.cells #[.int .u64 0, .slice none 0 0, .string ⟨#[]⟩, .int .i64 0, .string ⟨#[]⟩] 44))).alloc (.cells #[.slice (some ⟨b0, o0 + 1, none⟩) (n - 1) (c - 1), .bool false] 152)).heap HZ0.out (fun x => x))
      clear hdr0 hdr1 hlen1 HZ0
      go_enter Try.func63, Try.ntmps63
      go_upto_region 4 with fail
      generalize hw1 : (w.alloc (.cells #[.int .u64 0, .slice none 0 0, .string ⟨#[]⟩, .int .i64 0, .string ⟨#[]⟩] 44)).alloc (.cells #[.slice (some ⟨b0, o0 + 1, none⟩) (n - 1) (c - 1), .bool false] 152) = w1 at *
      clear hx0 hx0' hw1
      obtain ⟨gg, hgg⟩ : ∃ gg, gg = g + 1 := ⟨_, rfl⟩
      rw [← hgg] at HCU1 ⊢
      have hggl : g < gg := by omega
      have HGG := Lib.hid hgg
      clear hgg
      go_wp2_with fail
      refine (word_cu w1 gg b0 ⟨xs.drop 1, false⟩ HCU1.out (by show (xs.drop 1).length ≤ 1000000; rw [List.length_drop, HL.out]; omega)).mono ?_
      rintro e w2 ⟨rfl, hcu2, hc2⟩
      have hlw := cWord_len ⟨xs.drop 1, false⟩
      have hlw2 : (cWord ⟨xs.drop 1, false⟩).2.rest.length ≤ 16384 := Nat.le_trans hlw (by show (xs.drop 1).length ≤ 16384; rw [List.length_drop, HL.out]; omega)
      have htl := word_lt ⟨xs.drop 1, false⟩
      have HWD : Hid (cWord ⟨xs.drop 1, false⟩ = ((cWord ⟨xs.drop 1, false⟩).1, (cWord ⟨xs.drop 1, false⟩).2)) := rfl
      have HC2 := Lib.hid (HC1.out.one hc2 (.inl (by omega)))
      have HCU2 := Lib.hid hcu2
      have HZ2 := Lib.hid (hc2.heap HZ1.out (fun h => by have h : g = gg := h; omega))
      clear hcu2 hc2 HCU1 HC1 HZ1 hlw
      obtain ⟨T, hT⟩ : ∃ T, (cWord ⟨xs.drop 1, false⟩).1 = T := ⟨_, rfl⟩
      obtain ⟨cw, hcw⟩ : ∃ cw, (cWord ⟨xs.drop 1, false⟩).2 = cw := ⟨_, rfl⟩
      have HWD2 : Hid (cWord ⟨xs.drop 1, false⟩ = (T, cw)) := by rw [Hid, HWD.out, hT, hcw]
      rw [hT] at htl ⊢
      rw [hcw] at hlw2 HCU2
      clear HWD hT hcw
      have HWD := HWD2
      clear HWD2
      have hgg2 : gg < w2.heap.size := HCU2.out.lt
      have HX3 := Lib.hid (heap_alloc_new w2 (.cells #[.int .u64 (T : Int), .slice none 0 0, .string ⟨#[]⟩, .int .i64 0, .string ⟨#[]⟩] 44))
      have HCU3 := Lib.hid (HCU2.out.no ((Chg.refl No w2).alloc (.cells #[.int .u64 (T : Int), .slice none 0 0, .string ⟨#[]⟩, .int .i64 0, .string ⟨#[]⟩] 44)))
      have HZ3 := Lib.hid (((Chg.refl No w2).alloc (.cells #[.int .u64 (T : Int), .slice none 0 0, .string ⟨#[]⟩, .int .i64 0, .string ⟨#[]⟩] 44)).heap HZ2.out (fun x => x))
      have HC3 : Hid (Chg No w (w2.alloc (.cells #[.int .u64 (T : Int), .slice none 0 0, .string ⟨#[]⟩, .int .i64 0, .string ⟨#[]⟩] 44))) := HC2.out.alloc _
      clear HCU2 HZ2 HC2
      go_upto_region 5 with fail
      generalize w2.alloc (.cells #[.int .u64 (T : Int), .slice none 0 0, .string ⟨#[]⟩, .int .i64 0, .string ⟨#[]⟩] 44) = w3 at *
      generalize hgc : w2.heap.size = gc at *
      go_wp2_with fail
      refine (num_cu w3 gg b0 cw HCU3.out (by omega)).mono ?_
      rintro e w4 ⟨rfl, hcu4, hc4⟩
      obtain ⟨hnl, hn16⟩ := num_len cw
      have HNM : Hid (cNum cw = ((cNum cw).1, (cNum cw).2)) := rfl
      have HCU4 := Lib.hid hcu4
      have HX4 := Lib.hid (hc4.heap HX3.out (fun h => by have h : gc = gg := h; omega))
      have HZ4 := Lib.hid (hc4.heap HZ3.out (fun h => by have h : g = gg := h; omega))
      have HC4 := Lib.hid (HC3.out.one hc4 (.inl (by omega)))
      clear hcu4 hc4 HCU3 HX3 HZ3 HC3
      generalize (cNum cw).1 = kn at *
      generalize (cNum cw).2 = cn at *
      go_wp2
      go_loopw [6] (fun i wr => ∃ (k : Nat) (c2 : Cu) (acc : List Nat) (Av : Option Addr) (cv : Nat), k < 16384 ∧ i = .int .i64 (k : Int) ∧ acc.length + k ≤ 16384 ∧ c2.rest.length ≤ 16384 ∧ Hid (cIds kn cn [] = cIds k c2 acc) ∧ Hid (CU wr gg b0 c2) ∧ Hid (wr.ownsRow (gc + 1) 32 1 (.slice Av acc.length cv) acc.length (acc.map u64v)) ∧ Hid (wr.heap[gc]? = some (.cells #[.int .u64 (T : Int), .slice Av acc.length cv, .string ⟨#[]⟩, .int .i64 0, .string ⟨#[]⟩] 44)) ∧ Hid (wr.heap[g]? = some (.cells #[.int .u64 0, .slice none 0 0, .string ⟨#[]⟩, .int .i64 0, .string ⟨#[]⟩] 44)) ∧ Hid (∀ q ∈ acc, q < 18446744073709551616) ∧ Hid (Chg No w wr)) (fun i _ => (intOf i).toNat)
      case atStart => exact ⟨kn, cn, [], none, 0, hn16, rfl, by simp; omega, by omega, rfl, HCU4.out, World.ownsRow_nil _ _ _ _, HX4.out, HZ4.out, (fun _ h => by cases h), HC4.out⟩
      case round =>
        obtain ⟨k0, c2, acc, Av, cv, hk, rfl, hal, hl2, HP0, HCU, HO, HX, HZ, HAB, HC⟩ := hrel
        clear HCU4 HX4 HZ4 HC4
        by_cases hk0 : k0 = 0 ∨ c2.wrong = true
        · have HP : Hid (cIds kn cn [] = (acc, c2)) := by rw [Hid, HP0.out, cIds_stop _ _ _ hk0]
          clear HP0
          by_cases hkz : k0 = 0
          · have hkb : ¬ (0 : Int) < (k0 : Int) := by omega
            clear hk0 hkz
            have x2 := cellAt HX.out 2 _ rfl
            have xf2 := frzAt HX.out 2
            go_wp2_with fail
            refine (text_cu wr gg b0 c2 HCU.out (by omega)).mono ?_
            rintro e w13 ⟨rfl, hcu3, hc3⟩
            have hl3 := cText_len c2
            have hsz3 := cText_get c2
            have HCU3 := Lib.hid hcu3
            have HX3 := Lib.hid (hc3.heap HX.out (fun h => by have h : gc = gg := h; omega))
            have HZ3 := Lib.hid (hc3.heap HZ.out (fun h => by have h : g = gg := h; omega))
            have HO3 := Lib.hid (ownsRow_chg HO.out hc3 (fun q hq h => by have h : q = gg := h; have := (World.ownsRow.lt HO.out q hq).1; omega))
            have HC3 := Lib.hid (HC.out.one hc3 (.inl (by omega)))
            have HT1 : Hid (cText (cIds kn cn []).2 = ((cText c2).1, (cText c2).2)) := by rw [Hid, HP.out]
            clear hcu3 hc3 x2 xf2 HCU HX HZ HO HC
            generalize (cText c2).1 = ta at *
            generalize (cText c2).2 = c3 at *
            have x2 := cellAt HX3.out 2 _ rfl
            have xf2 := frzAt HX3.out 2
            have HX4 : Hid ((w13.setCell ⟨gc, 2, none⟩ (.string (mkS ta))).heap[gc]? = some (.cells #[.int .u64 (T : Int), .slice Av acc.length cv, .string (mkS ta), .int .i64 0, .string ⟨#[]⟩] 44)) := heap_set HX3.out 2 _
            have HZ4 : Hid ((w13.setCell ⟨gc, 2, none⟩ (.string (mkS ta))).heap[g]? = some (.cells #[.int .u64 0, .slice none 0 0, .string ⟨#[]⟩, .int .i64 0, .string ⟨#[]⟩] 44)) := (Chg.put w13 gc 2 _).heap HZ3.out (fun h => by have h : g = gc := h; omega)
            have HCU4 : Hid (CU (w13.setCell ⟨gc, 2, none⟩ (.string (mkS ta))) gg b0 c3) := HCU3.out.chg (Chg.put w13 gc 2 _) (fun h => by have h : gg = gc := h; omega) (fun h => by have h : b0 = gc := h; omega)
            have HO4 : Hid ((w13.setCell ⟨gc, 2, none⟩ (.string (mkS ta))).ownsRow (gc + 1) 32 1 (.slice Av acc.length cv) acc.length (acc.map u64v)) := ownsRow_chg HO3.out (Chg.put w13 gc 2 _) (fun q hq h => by have h : q = gc := h; have := (World.ownsRow.lt HO3.out q hq).1; omega)
            have HC4 : Hid (Chg No w (w13.setCell ⟨gc, 2, none⟩ (.string (mkS ta)))) := HC3.out.setCell (.inl (by show w.heap.size ≤ gc; omega)) _
            go_upto_region 10 with fail
            generalize w13.setCell ⟨gc, 2, none⟩ (.string (mkS ta)) = w14 at *
            clear x2 xf2 HX3 HZ3 HCU3 HO3 HC3
            go_wp2_with fail
            refine (word_cu w14 gg b0 c3 HCU4.out (by omega)).mono ?_
            rintro e w15 ⟨rfl, hcu5, hc5⟩
            have hl5 := cWord_len c3
            have hdl := word_lt c3
            have HCU5 := Lib.hid hcu5
            have HX5 := Lib.hid (hc5.heap HX4.out (fun h => by have h : gc = gg := h; omega))
            have HZ5 := Lib.hid (hc5.heap HZ4.out (fun h => by have h : g = gg := h; omega))
            have HO5 := Lib.hid (ownsRow_chg HO4.out hc5 (fun q hq h => by have h : q = gg := h; have := (World.ownsRow.lt HO4.out q hq).1; omega))
            have HC5 := Lib.hid (HC4.out.one hc5 (.inl (by omega)))
            have HT2 : Hid (cWord (cText (cIds kn cn []).2).2 = ((cWord c3).1, (cWord c3).2)) := by rw [Hid, HT1.out]
            clear hcu5 hc5 HCU4 HX4 HZ4 HO4 HC4
            generalize (cWord c3).1 = dw at *
            generalize (cWord c3).2 = c5 at *
            have hwd := wrap_sd dw hdl
            have x3 := cellAt HX5.out 3 _ rfl
            have xf3 := frzAt HX5.out 3
            have HX6 : Hid ((w15.setCell ⟨gc, 3, none⟩ (.int .i64 (sd dw))).heap[gc]? = some (.cells #[.int .u64 (T : Int), .slice Av acc.length cv, .string (mkS ta), .int .i64 (sd dw), .string ⟨#[]⟩] 44)) := heap_set HX5.out 3 _
            have HZ6 : Hid ((w15.setCell ⟨gc, 3, none⟩ (.int .i64 (sd dw))).heap[g]? = some (.cells #[.int .u64 0, .slice none 0 0, .string ⟨#[]⟩, .int .i64 0, .string ⟨#[]⟩] 44)) := (Chg.put w15 gc 3 _).heap HZ5.out (fun h => by have h : g = gc := h; omega)
            have HCU6 : Hid (CU (w15.setCell ⟨gc, 3, none⟩ (.int .i64 (sd dw))) gg b0 c5) := HCU5.out.chg (Chg.put w15 gc 3 _) (fun h => by have h : gg = gc := h; omega) (fun h => by have h : b0 = gc := h; omega)
            have HO6 : Hid ((w15.setCell ⟨gc, 3, none⟩ (.int .i64 (sd dw))).ownsRow (gc + 1) 32 1 (.slice Av acc.length cv) acc.length (acc.map u64v)) := ownsRow_chg HO5.out (Chg.put w15 gc 3 _) (fun q hq h => by have h : q = gc := h; have := (World.ownsRow.lt HO5.out q hq).1; omega)
            have HC6 : Hid (Chg No w (w15.setCell ⟨gc, 3, none⟩ (.int .i64 (sd dw)))) := HC5.out.setCell (.inl (by show w.heap.size ≤ gc; omega)) _
            go_upto_region 11 with fail
            generalize w15.setCell ⟨gc, 3, none⟩ (.int .i64 (sd dw)) = w16 at *
            clear x3 xf3 HX5 HZ5 HCU5 HO5 HC5 hwd
            go_wp2_with fail
            refine (text_cu w16 gg b0 c5 HCU6.out (by omega)).mono ?_
            rintro e w17 ⟨rfl, hcu7, hc7⟩
            have hl7 := cText_len c5
            have hsz7 := cText_get c5
            have HCU7 := Lib.hid hcu7
            have HX7 := Lib.hid (hc7.heap HX6.out (fun h => by have h : gc = gg := h; omega))
            have HZ7 := Lib.hid (hc7.heap HZ6.out (fun h => by have h : g = gg := h; omega))
            have HO7 := Lib.hid (ownsRow_chg HO6.out hc7 (fun q hq h => by have h : q = gg := h; have := (World.ownsRow.lt HO6.out q hq).1; omega))
            have HC7 := Lib.hid (HC6.out.one hc7 (.inl (by omega)))
            have HT3 : Hid (cText (cWord (cText (cIds kn cn []).2).2).2 = ((cText c5).1, (cText c5).2)) := by rw [Hid, HT2.out]
            clear hcu7 hc7 HCU6 HX6 HZ6 HO6 HC6
            generalize (cText c5).1 = tx at *
            generalize (cText c5).2 = c7 at *
            have x4 := cellAt HX7.out 4 _ rfl
            have xf4 := frzAt HX7.out 4
            have HX8 : Hid ((w17.setCell ⟨gc, 4, none⟩ (.string (mkS tx))).heap[gc]? = some (.cells #[.int .u64 (T : Int), .slice Av acc.length cv, .string (mkS ta), .int .i64 (sd dw), .string (mkS tx)] 44)) := heap_set HX7.out 4 _
            have HZ8 : Hid ((w17.setCell ⟨gc, 4, none⟩ (.string (mkS tx))).heap[g]? = some (.cells #[.int .u64 0, .slice none 0 0, .string ⟨#[]⟩, .int .i64 0, .string ⟨#[]⟩] 44)) := (Chg.put w17 gc 4 _).heap HZ7.out (fun h => by have h : g = gc := h; omega)
            have HCU8 : Hid (CU (w17.setCell ⟨gc, 4, none⟩ (.string (mkS tx))) gg b0 c7) := HCU7.out.chg (Chg.put w17 gc 4 _) (fun h => by have h : gg = gc := h; omega) (fun h => by have h : b0 = gc := h; omega)
            have HO8 : Hid ((w17.setCell ⟨gc, 4, none⟩ (.string (mkS tx))).ownsRow (gc + 1) 32 1 (.slice Av acc.length cv) acc.length (acc.map u64v)) := ownsRow_chg HO7.out (Chg.put w17 gc 4 _) (fun q hq h => by have h : q = gc := h; have := (World.ownsRow.lt HO7.out q hq).1; omega)
            have HC8 : Hid (Chg No w (w17.setCell ⟨gc, 4, none⟩ (.string (mkS tx)))) := HC7.out.setCell (.inl (by show w.heap.size ≤ gc; omega)) _
            have HPC : Hid (preC xs = ((T, acc, ta, sd dw, tx), c7)) := by
              rw [Hid]
              unfold preC
              rw [HWD.out]
              simp only
              rw [HNM.out]
              simp only
              rw [HT3.out, HT2.out, HT1.out, HP.out]
            go_upto_region 12 with fail
            generalize w17.setCell ⟨gc, 4, none⟩ (.string (mkS tx)) = w18 at *
            clear x4 xf4 HX7 HZ7 HCU7 HO7 HC7 HT1 HT2 HT3 HP
            obtain ⟨Ac, capc, hcc⟩ := HCU8.out.cells
            have q0 := cellAt hcc 0 _ rfl
            have q1 := cellAt hcc 1 _ rfl
            clear hcc
            cases hwq : c7.wrong with
            | true =>
              have HR : Hid (asCommit xs = none) := by rw [Hid, HNT.out, HPC.out, if_pos (.inl hwq)]
              rw [hwq] at q1
              clear hwq
              obtain ⟨z0, z1, z2, z3, z4⟩ := cells5b HZ8.out
              have zf0 := frzAt HZ8.out 0
              have zf1 := frzAt HZ8.out 1
              have zf2 := frzAt HZ8.out 2
              have zf3 := frzAt HZ8.out 3
              have zf4 := frzAt HZ8.out 4
              go_wp2
              exact bodyPost_ret (v := .tuple #[.agg #[.int .u64 0, .slice none 0 0, .string ⟨#[]⟩, .int .i64 0, .string ⟨#[]⟩], .bool false]) (by simp [results, Try.results63, go_sem, z0, z1, z2, z3, z4]) rfl ⟨0, none, 0, 0, ⟨#[]⟩, 0, ⟨#[]⟩, by rw [HR.out]; rfl, (by rw [HR.out]; intro t ps a d x h; cases h), (((((HC8.out.setCell (.inl (Nat.le_of_eq hg)) _).setCell (.inl (Nat.le_of_eq hg)) _).setCell (.inl (Nat.le_of_eq hg)) _).setCell (.inl (Nat.le_of_eq hg)) _).setCell (.inl (Nat.le_of_eq hg)) _)⟩
            | false =>
              rw [hwq] at q1
              by_cases hr : c7.rest.length = 0
              · have hrb : ¬ (0 : Int) < (c7.rest.length : Int) := by omega
                have HRE : Hid (c7.rest = []) := List.eq_nil_of_length_eq_zero hr
                rw [hr] at q0
                have hck := refcheck_commit w18 T Av acc.length cv acc (mkS ta) (sd dw) (mkS tx) (slOwn2 HO8.out) (by omega) (by rw [mkS_size]; omega) (by rw [mkS_size]; omega)
                rw [mkS_list, mkS_list] at hck
                generalize hz : commitF T acc ta tx = F at *
                have HCK := Lib.hid hck
                obtain ⟨y0, y1, y2, y3, y4⟩ := cells5b HX8.out
                by_cases hF : F = 0
                · subst hF
                  have HR : Hid (asCommit xs = some (T, acc, ta, sd dw, tx)) := by rw [Hid, HNT.out, HPC.out, if_neg (by rw [hwq, HRE.out]; simp only; rw [hz]; simp)]
                  have HACC := Lib.hid (slOwn2 HO8.out)
                  clear hwq hz hck hr hrb
                  generalize acc.length = al at *
                  go_wp2_with fail
                  refine HCK.out.mono ?_
                  rintro e w19 ⟨rfl, hc9⟩
                  have HA9 := Lib.hid (HACC.out.no hc9)
                  have HC9 := Lib.hid (HC8.out.no hc9)
                  have HX9 := Lib.hid (hc9.heap HX8.out (fun x => x))
                  have HZ9 := Lib.hid (hc9.heap HZ8.out (fun x => x))
                  clear y0 y1 y2 y3 y4
                  obtain ⟨y0, y1, y2, y3, y4⟩ := cells5b HX9.out
                  obtain ⟨z0, z1, z2, z3, z4⟩ := cells5b HZ9.out
                  have zf0 := frzAt HZ9.out 0
                  have zf1 := frzAt HZ9.out 1
                  have zf2 := frzAt HZ9.out 2
                  have zf3 := frzAt HZ9.out 3
                  have zf4 := frzAt HZ9.out 4
                  have HCH : Hid (∀ v0 v1 v2 v3 v4, Chg No w (((((w19.setCell ⟨g, 0, none⟩ v0).setCell ⟨g, 1, none⟩ v1).setCell ⟨g, 2, none⟩ v2).setCell ⟨g, 3, none⟩ v3).setCell ⟨g, 4, none⟩ v4)) := fun v0 v1 v2 v3 v4 => ((((HC9.out.setCell (.inl (Nat.le_of_eq hg)) _).setCell (.inl (Nat.le_of_eq hg)) _).setCell (.inl (Nat.le_of_eq hg)) _).setCell (.inl (Nat.le_of_eq hg)) _).setCell (.inl (Nat.le_of_eq hg)) _
                  have HSF : Hid (∀ v0 v1 v2 v3 v4, Sl u64v (((((w19.setCell ⟨g, 0, none⟩ v0).setCell ⟨g, 1, none⟩ v1).setCell ⟨g, 2, none⟩ v2).setCell ⟨g, 3, none⟩ v3).setCell ⟨g, 4, none⟩ v4) (.slice Av al cv) acc) := fun v0 v1 v2 v3 v4 => by
                    have hn : ∀ q, (Value.slice Av al cv).ownBlock = some q → ¬ One g q := fun q hq h => by
                      have h : q = g := h
                      have := (World.ownsRow.lt HO8.out q hq).1
                      omega
                    exact (((((HA9.out.chg (Chg.put w19 g 0 v0) hn).chg (Chg.put _ g 1 v1) hn).chg (Chg.put _ g 2 v2) hn).chg (Chg.put _ g 3 v3) hn).chg (Chg.put _ g 4 v4) hn)
                  go_wp2
                  exact bodyPost_ret (v := .tuple #[.agg #[.int .u64 (T : Int), .slice Av al cv, .string (mkS ta), .int .i64 (sd dw), .string (mkS tx)], .bool true]) (by simp [results, Try.results63, go_sem, z0, z1, z2, z3, z4]) rfl ⟨T, Av, al, cv, mkS ta, sd dw, mkS tx, by rw [HR.out]; rfl, (by rw [HR.out]; intro t ps a d x h; cases h; exact ⟨rfl, rfl, rfl, rfl, HSF.out _ _ _ _ _⟩), HCH.out _ _ _ _ _⟩
                · have HR : Hid (asCommit xs = none) := by rw [Hid, HNT.out, HPC.out, if_pos (.inr (.inr (by simp only; rw [hz]; exact hF)))]
                  have hFb : ((F : Int) != 0) = true := by simp; omega
                  clear hwq hz hck hr hrb hF
                  generalize acc.length = al at *
                  go_wp2_with fail
                  refine HCK.out.mono ?_
                  rintro e w19 ⟨rfl, hc9⟩
                  have HC9 := Lib.hid (HC8.out.no hc9)
                  have HZ9 := Lib.hid (hc9.heap HZ8.out (fun x => x))
                  obtain ⟨z0, z1, z2, z3, z4⟩ := cells5b HZ9.out
                  have zf0 := frzAt HZ9.out 0
                  have zf1 := frzAt HZ9.out 1
                  have zf2 := frzAt HZ9.out 2
                  have zf3 := frzAt HZ9.out 3
                  have zf4 := frzAt HZ9.out 4
                  go_wp2
                  exact bodyPost_ret (v := .tuple #[.agg #[.int .u64 0, .slice none 0 0, .string ⟨#[]⟩, .int .i64 0, .string ⟨#[]⟩], .bool false]) (by simp [results, Try.results63, go_sem, z0, z1, z2, z3, z4]) rfl ⟨0, none, 0, 0, ⟨#[]⟩, 0, ⟨#[]⟩, by rw [HR.out]; rfl, (by rw [HR.out]; intro t ps a d x h; cases h), (((((HC9.out.setCell (.inl (Nat.le_of_eq hg)) _).setCell (.inl (Nat.le_of_eq hg)) _).setCell (.inl (Nat.le_of_eq hg)) _).setCell (.inl (Nat.le_of_eq hg)) _).setCell (.inl (Nat.le_of_eq hg)) _)⟩
              · have hrb : (0 : Int) < (c7.rest.length : Int) := by omega
                have HR : Hid (asCommit xs = none) := by rw [Hid, HNT.out, HPC.out, if_pos (.inr (.inl (fun h => hr (by rw [h]; rfl))))]
                clear hwq hr
                generalize c7.rest.length = rl at *
                obtain ⟨z0, z1, z2, z3, z4⟩ := cells5b HZ8.out
                have zf0 := frzAt HZ8.out 0
                have zf1 := frzAt HZ8.out 1
                have zf2 := frzAt HZ8.out 2
                have zf3 := frzAt HZ8.out 3
                have zf4 := frzAt HZ8.out 4
                go_wp2
                exact bodyPost_ret (v := .tuple #[.agg #[.int .u64 0, .slice none 0 0, .string ⟨#[]⟩, .int .i64 0, .string ⟨#[]⟩], .bool false]) (by simp [results, Try.results63, go_sem, z0, z1, z2, z3, z4]) rfl ⟨0, none, 0, 0, ⟨#[]⟩, 0, ⟨#[]⟩, by rw [HR.out]; rfl, (by rw [HR.out]; intro t ps a d x h; cases h), (((((HC8.out.setCell (.inl (Nat.le_of_eq hg)) _).setCell (.inl (Nat.le_of_eq hg)) _).setCell (.inl (Nat.le_of_eq hg)) _).setCell (.inl (Nat.le_of_eq hg)) _).setCell (.inl (Nat.le_of_eq hg)) _)⟩
          · have hkb : (0 : Int) < (k0 : Int) := by omega
            have hwt := hk0.resolve_left hkz
            obtain ⟨Ad, capd, hcd⟩ := HCU.out.cells
            have qd := cellAt hcd 1 _ rfl
            rw [hwt] at qd
            clear hk0 hkz hcd hwt
            have x2 := cellAt HX.out 2 _ rfl
            have xf2 := frzAt HX.out 2
            go_wp2_with fail
            refine (text_cu wr gg b0 c2 HCU.out (by omega)).mono ?_
            rintro e w13 ⟨rfl, hcu3, hc3⟩
            have hl3 := cText_len c2
            have hsz3 := cText_get c2
            have HCU3 := Lib.hid hcu3
            have HX3 := Lib.hid (hc3.heap HX.out (fun h => by have h : gc = gg := h; omega))
            have HZ3 := Lib.hid (hc3.heap HZ.out (fun h => by have h : g = gg := h; omega))
            have HO3 := Lib.hid (ownsRow_chg HO.out hc3 (fun q hq h => by have h : q = gg := h; have := (World.ownsRow.lt HO.out q hq).1; omega))
            have HC3 := Lib.hid (HC.out.one hc3 (.inl (by omega)))
            have HT1 : Hid (cText (cIds kn cn []).2 = ((cText c2).1, (cText c2).2)) := by rw [Hid, HP.out]
            clear hcu3 hc3 x2 xf2 HCU HX HZ HO HC
            generalize (cText c2).1 = ta at *
            generalize (cText c2).2 = c3 at *
            have x2 := cellAt HX3.out 2 _ rfl
            have xf2 := frzAt HX3.out 2
            have HX4 : Hid ((w13.setCell ⟨gc, 2, none⟩ (.string (mkS ta))).heap[gc]? = some (.cells #[.int .u64 (T : Int), .slice Av acc.length cv, .string (mkS ta), .int .i64 0, .string ⟨#[]⟩] 44)) := heap_set HX3.out 2 _
            have HZ4 : Hid ((w13.setCell ⟨gc, 2, none⟩ (.string (mkS ta))).heap[g]? = some (.cells #[.int .u64 0, .slice none 0 0, .string ⟨#[]⟩, .int .i64 0, .string ⟨#[]⟩] 44)) := (Chg.put w13 gc 2 _).heap HZ3.out (fun h => by have h : g = gc := h; omega)
            have HCU4 : Hid (CU (w13.setCell ⟨gc, 2, none⟩ (.string (mkS ta))) gg b0 c3) := HCU3.out.chg (Chg.put w13 gc 2 _) (fun h => by have h : gg = gc := h; omega) (fun h => by have h : b0 = gc := h; omega)
            have HO4 : Hid ((w13.setCell ⟨gc, 2, none⟩ (.string (mkS ta))).ownsRow (gc + 1) 32 1 (.slice Av acc.length cv) acc.length (acc.map u64v)) := ownsRow_chg HO3.out (Chg.put w13 gc 2 _) (fun q hq h => by have h : q = gc := h; have := (World.ownsRow.lt HO3.out q hq).1; omega)
            have HC4 : Hid (Chg No w (w13.setCell ⟨gc, 2, none⟩ (.string (mkS ta)))) := HC3.out.setCell (.inl (by show w.heap.size ≤ gc; omega)) _
            go_upto_region 10 with fail
            generalize w13.setCell ⟨gc, 2, none⟩ (.string (mkS ta)) = w14 at *
            clear x2 xf2 HX3 HZ3 HCU3 HO3 HC3
            go_wp2_with fail
            refine (word_cu w14 gg b0 c3 HCU4.out (by omega)).mono ?_
            rintro e w15 ⟨rfl, hcu5, hc5⟩
            have hl5 := cWord_len c3
            have hdl := word_lt c3
            have HCU5 := Lib.hid hcu5
            have HX5 := Lib.hid (hc5.heap HX4.out (fun h => by have h : gc = gg := h; omega))
            have HZ5 := Lib.hid (hc5.heap HZ4.out (fun h => by have h : g = gg := h; omega))
            have HO5 := Lib.hid (ownsRow_chg HO4.out hc5 (fun q hq h => by have h : q = gg := h; have := (World.ownsRow.lt HO4.out q hq).1; omega))
            have HC5 := Lib.hid (HC4.out.one hc5 (.inl (by omega)))
            have HT2 : Hid (cWord (cText (cIds kn cn []).2).2 = ((cWord c3).1, (cWord c3).2)) := by rw [Hid, HT1.out]
            clear hcu5 hc5 HCU4 HX4 HZ4 HO4 HC4
            generalize (cWord c3).1 = dw at *
            generalize (cWord c3).2 = c5 at *
            have hwd := wrap_sd dw hdl
            have x3 := cellAt HX5.out 3 _ rfl
            have xf3 := frzAt HX5.out 3
            have HX6 : Hid ((w15.setCell ⟨gc, 3, none⟩ (.int .i64 (sd dw))).heap[gc]? = some (.cells #[.int .u64 (T : Int), .slice Av acc.length cv, .string (mkS ta), .int .i64 (sd dw), .string ⟨#[]⟩] 44)) := heap_set HX5.out 3 _
            have HZ6 : Hid ((w15.setCell ⟨gc, 3, none⟩ (.int .i64 (sd dw))).heap[g]? = some (.cells #[.int .u64 0, .slice none 0 0, .string ⟨#[]⟩, .int .i64 0, .string ⟨#[]⟩] 44)) := (Chg.put w15 gc 3 _).heap HZ5.out (fun h => by have h : g = gc := h; omega)
            have HCU6 : Hid (CU (w15.setCell ⟨gc, 3, none⟩ (.int .i64 (sd dw))) gg b0 c5) := HCU5.out.chg (Chg.put w15 gc 3 _) (fun h => by have h : gg = gc := h; omega) (fun h => by have h : b0 = gc := h; omega)
            have HO6 : Hid ((w15.setCell ⟨gc, 3, none⟩ (.int .i64 (sd dw))).ownsRow (gc + 1) 32 1 (.slice Av acc.length cv) acc.length (acc.map u64v)) := ownsRow_chg HO5.out (Chg.put w15 gc 3 _) (fun q hq h => by have h : q = gc := h; have := (World.ownsRow.lt HO5.out q hq).1; omega)
            have HC6 : Hid (Chg No w (w15.setCell ⟨gc, 3, none⟩ (.int .i64 (sd dw)))) := HC5.out.setCell (.inl (by show w.heap.size ≤ gc; omega)) _
            go_upto_region 11 with fail
            generalize w15.setCell ⟨gc, 3, none⟩ (.int .i64 (sd dw)) = w16 at *
            clear x3 xf3 HX5 HZ5 HCU5 HO5 HC5 hwd
            go_wp2_with fail
            refine (text_cu w16 gg b0 c5 HCU6.out (by omega)).mono ?_
            rintro e w17 ⟨rfl, hcu7, hc7⟩
            have hl7 := cText_len c5
            have hsz7 := cText_get c5
            have HCU7 := Lib.hid hcu7
            have HX7 := Lib.hid (hc7.heap HX6.out (fun h => by have h : gc = gg := h; omega))
            have HZ7 := Lib.hid (hc7.heap HZ6.out (fun h => by have h : g = gg := h; omega))
            have HO7 := Lib.hid (ownsRow_chg HO6.out hc7 (fun q hq h => by have h : q = gg := h; have := (World.ownsRow.lt HO6.out q hq).1; omega))
            have HC7 := Lib.hid (HC6.out.one hc7 (.inl (by omega)))
            have HT3 : Hid (cText (cWord (cText (cIds kn cn []).2).2).2 = ((cText c5).1, (cText c5).2)) := by rw [Hid, HT2.out]
            clear hcu7 hc7 HCU6 HX6 HZ6 HO6 HC6
            generalize (cText c5).1 = tx at *
            generalize (cText c5).2 = c7 at *
            have x4 := cellAt HX7.out 4 _ rfl
            have xf4 := frzAt HX7.out 4
            have HX8 : Hid ((w17.setCell ⟨gc, 4, none⟩ (.string (mkS tx))).heap[gc]? = some (.cells #[.int .u64 (T : Int), .slice Av acc.length cv, .string (mkS ta), .int .i64 (sd dw), .string (mkS tx)] 44)) := heap_set HX7.out 4 _
            have HZ8 : Hid ((w17.setCell ⟨gc, 4, none⟩ (.string (mkS tx))).heap[g]? = some (.cells #[.int .u64 0, .slice none 0 0, .string ⟨#[]⟩, .int .i64 0, .string ⟨#[]⟩] 44)) := (Chg.put w17 gc 4 _).heap HZ7.out (fun h => by have h : g = gc := h; omega)
            have HCU8 : Hid (CU (w17.setCell ⟨gc, 4, none⟩ (.string (mkS tx))) gg b0 c7) := HCU7.out.chg (Chg.put w17 gc 4 _) (fun h => by have h : gg = gc := h; omega) (fun h => by have h : b0 = gc := h; omega)
            have HO8 : Hid ((w17.setCell ⟨gc, 4, none⟩ (.string (mkS tx))).ownsRow (gc + 1) 32 1 (.slice Av acc.length cv) acc.length (acc.map u64v)) := ownsRow_chg HO7.out (Chg.put w17 gc 4 _) (fun q hq h => by have h : q = gc := h; have := (World.ownsRow.lt HO7.out q hq).1; omega)
            have HC8 : Hid (Chg No w (w17.setCell ⟨gc, 4, none⟩ (.string (mkS tx)))) := HC7.out.setCell (.inl (by show w.heap.size ≤ gc; omega)) _
            have HPC : Hid (preC xs = ((T, acc, ta, sd dw, tx), c7)) := by
              rw [Hid]
              unfold preC
              rw [HWD.out]
              simp only
              rw [HNM.out]
              simp only
              rw [HT3.out, HT2.out, HT1.out, HP.out]
            go_upto_region 12 with fail
            generalize w17.setCell ⟨gc, 4, none⟩ (.string (mkS tx)) = w18 at *
            clear x4 xf4 HX7 HZ7 HCU7 HO7 HC7 HT1 HT2 HT3 HP
            obtain ⟨Ac, capc, hcc⟩ := HCU8.out.cells
            have q0 := cellAt hcc 0 _ rfl
            have q1 := cellAt hcc 1 _ rfl
            clear hcc
            cases hwq : c7.wrong with
            | true =>
              have HR : Hid (asCommit xs = none) := by rw [Hid, HNT.out, HPC.out, if_pos (.inl hwq)]
              rw [hwq] at q1
              clear hwq
              obtain ⟨z0, z1, z2, z3, z4⟩ := cells5b HZ8.out
              have zf0 := frzAt HZ8.out 0
              have zf1 := frzAt HZ8.out 1
              have zf2 := frzAt HZ8.out 2
              have zf3 := frzAt HZ8.out 3
              have zf4 := frzAt HZ8.out 4
              go_wp2
              exact bodyPost_ret (v := .tuple #[.agg #[.int .u64 0, .slice none 0 0, .string ⟨#[]⟩, .int .i64 0, .string ⟨#[]⟩], .bool false]) (by simp [results, Try.results63, go_sem, z0, z1, z2, z3, z4]) rfl ⟨0, none, 0, 0, ⟨#[]⟩, 0, ⟨#[]⟩, by rw [HR.out]; rfl, (by rw [HR.out]; intro t ps a d x h; cases h), (((((HC8.out.setCell (.inl (Nat.le_of_eq hg)) _).setCell (.inl (Nat.le_of_eq hg)) _).setCell (.inl (Nat.le_of_eq hg)) _).setCell (.inl (Nat.le_of_eq hg)) _).setCell (.inl (Nat.le_of_eq hg)) _)⟩
            | false =>
              rw [hwq] at q1
              by_cases hr : c7.rest.length = 0
              · have hrb : ¬ (0 : Int) < (c7.rest.length : Int) := by omega
                have HRE : Hid (c7.rest = []) := List.eq_nil_of_length_eq_zero hr
                rw [hr] at q0
                have hck := refcheck_commit w18 T Av acc.length cv acc (mkS ta) (sd dw) (mkS tx) (slOwn2 HO8.out) (by omega) (by rw [mkS_size]; omega) (by rw [mkS_size]; omega)
                rw [mkS_list, mkS_list] at hck
                generalize hz : commitF T acc ta tx = F at *
                have HCK := Lib.hid hck
                obtain ⟨y0, y1, y2, y3, y4⟩ := cells5b HX8.out
                by_cases hF : F = 0
                · subst hF
                  have HR : Hid (asCommit xs = some (T, acc, ta, sd dw, tx)) := by rw [Hid, HNT.out, HPC.out, if_neg (by rw [hwq, HRE.out]; simp only; rw [hz]; simp)]
                  have HACC := Lib.hid (slOwn2 HO8.out)
                  clear hwq hz hck hr hrb
                  generalize acc.length = al at *
                  go_wp2_with fail
                  refine HCK.out.mono ?_
                  rintro e w19 ⟨rfl, hc9⟩
                  have HA9 := Lib.hid (HACC.out.no hc9)
                  have HC9 := Lib.hid (HC8.out.no hc9)
                  have HX9 := Lib.hid (hc9.heap HX8.out (fun x => x))
                  have HZ9 := Lib.hid (hc9.heap HZ8.out (fun x => x))
                  clear y0 y1 y2 y3 y4
                  obtain ⟨y0, y1, y2, y3, y4⟩ := cells5b HX9.out
                  obtain ⟨z0, z1, z2, z3, z4⟩ := cells5b HZ9.out
                  have zf0 := frzAt HZ9.out 0
                  have zf1 := frzAt HZ9.out 1
                  have zf2 := frzAt HZ9.out 2
                  have zf3 := frzAt HZ9.out 3
                  have zf4 := frzAt HZ9.out 4
                  have HCH : Hid (∀ v0 v1 v2 v3 v4, Chg No w (((((w19.setCell ⟨g, 0, none⟩ v0).setCell ⟨g, 1, none⟩ v1).setCell ⟨g, 2, none⟩ v2).setCell ⟨g, 3, none⟩ v3).setCell ⟨g, 4, none⟩ v4)) := fun v0 v1 v2 v3 v4 => ((((HC9.out.setCell (.inl (Nat.le_of_eq hg)) _).setCell (.inl (Nat.le_of_eq hg)) _).setCell (.inl (Nat.le_of_eq hg)) _).setCell (.inl (Nat.le_of_eq hg)) _).setCell (.inl (Nat.le_of_eq hg)) _
                  have HSF : Hid (∀ v0 v1 v2 v3 v4, Sl u64v (((((w19.setCell ⟨g, 0, none⟩ v0).setCell ⟨g, 1, none⟩ v1).setCell ⟨g, 2, none⟩ v2).setCell ⟨g, 3, none⟩ v3).setCell ⟨g, 4, none⟩ v4) (.slice Av al cv) acc) := fun v0 v1 v2 v3 v4 => by
                    have hn : ∀ q, (Value.slice Av al cv).ownBlock = some q → ¬ One g q := fun q hq h => by
                      have h : q = g := h
                      have := (World.ownsRow.lt HO8.out q hq).1
                      omega
                    exact (((((HA9.out.chg (Chg.put w19 g 0 v0) hn).chg (Chg.put _ g 1 v1) hn).chg (Chg.put _ g 2 v2) hn).chg (Chg.put _ g 3 v3) hn).chg (Chg.put _ g 4 v4) hn)
                  go_wp2
                  exact bodyPost_ret (v := .tuple #[.agg #[.int .u64 (T : Int), .slice Av al cv, .string (mkS ta), .int .i64 (sd dw), .string (mkS tx)], .bool true]) (by simp [results, Try.results63, go_sem, z0, z1, z2, z3, z4]) rfl ⟨T, Av, al, cv, mkS ta, sd dw, mkS tx, by rw [HR.out]; rfl, (by rw [HR.out]; intro t ps a d x h; cases h; exact ⟨rfl, rfl, rfl, rfl, HSF.out _ _ _ _ _⟩), HCH.out _ _ _ _ _⟩
                · have HR : Hid (asCommit xs = none) := by rw [Hid, HNT.out, HPC.out, if_pos (.inr (.inr (by simp only; rw [hz]; exact hF)))]
                  have hFb : ((F : Int) != 0) = true := by simp; omega
                  clear hwq hz hck hr hrb hF
                  generalize acc.length = al at *
                  go_wp2_with fail
                  refine HCK.out.mono ?_
                  rintro e w19 ⟨rfl, hc9⟩
                  have HC9 := Lib.hid (HC8.out.no hc9)
                  have HZ9 := Lib.hid (hc9.heap HZ8.out (fun x => x))
                  obtain ⟨z0, z1, z2, z3, z4⟩ := cells5b HZ9.out
                  have zf0 := frzAt HZ9.out 0
                  have zf1 := frzAt HZ9.out 1
                  have zf2 := frzAt HZ9.out 2
                  have zf3 := frzAt HZ9.out 3
                  have zf4 := frzAt HZ9.out 4
                  go_wp2
                  exact bodyPost_ret (v := .tuple #[.agg #[.int .u64 0, .slice none 0 0, .string ⟨#[]⟩, .int .i64 0, .string ⟨#[]⟩], .bool false]) (by simp [results, Try.results63, go_sem, z0, z1, z2, z3, z4]) rfl ⟨0, none, 0, 0, ⟨#[]⟩, 0, ⟨#[]⟩, by rw [HR.out]; rfl, (by rw [HR.out]; intro t ps a d x h; cases h), (((((HC9.out.setCell (.inl (Nat.le_of_eq hg)) _).setCell (.inl (Nat.le_of_eq hg)) _).setCell (.inl (Nat.le_of_eq hg)) _).setCell (.inl (Nat.le_of_eq hg)) _).setCell (.inl (Nat.le_of_eq hg)) _)⟩
              · have hrb : (0 : Int) < (c7.rest.length : Int) := by omega
                have HR : Hid (asCommit xs = none) := by rw [Hid, HNT.out, HPC.out, if_pos (.inr (.inl (fun h => hr (by rw [h]; rfl))))]
                clear hwq hr
                generalize c7.rest.length = rl at *
                obtain ⟨z0, z1, z2, z3, z4⟩ := cells5b HZ8.out
                have zf0 := frzAt HZ8.out 0
                have zf1 := frzAt HZ8.out 1
                have zf2 := frzAt HZ8.out 2
                have zf3 := frzAt HZ8.out 3
                have zf4 := frzAt HZ8.out 4
                go_wp2
                exact bodyPost_ret (v := .tuple #[.agg #[.int .u64 0, .slice none 0 0, .string ⟨#[]⟩, .int .i64 0, .string ⟨#[]⟩], .bool false]) (by simp [results, Try.results63, go_sem, z0, z1, z2, z3, z4]) rfl ⟨0, none, 0, 0, ⟨#[]⟩, 0, ⟨#[]⟩, by rw [HR.out]; rfl, (by rw [HR.out]; intro t ps a d x h; cases h), (((((HC8.out.setCell (.inl (Nat.le_of_eq hg)) _).setCell (.inl (Nat.le_of_eq hg)) _).setCell (.inl (Nat.le_of_eq hg)) _).setCell (.inl (Nat.le_of_eq hg)) _).setCell (.inl (Nat.le_of_eq hg)) _)⟩
        · obtain ⟨k, rfl⟩ : ∃ k, k0 = k + 1 := ⟨k0 - 1, by omega⟩
          have hkb : (0 : Int) < ((k + 1 : Nat) : Int) := by omega
          have hwf : c2.wrong = false := by cases h : c2.wrong with | true => exact absurd (.inr h) hk0 | false => rfl
          obtain ⟨Ad, capd, hcd⟩ := HCU.out.cells
          have qd := cellAt hcd 1 _ rfl
          rw [hwf] at qd
          have HST := Lib.hid (cIds_step k c2 acc hwf)
          have HP := HP0
          clear hk0 hwf hcd HP0
          go_upto_region 8 with fail
          clear qd
          have HAL : Hid (acc.length = acc.length) := rfl
          generalize hall : acc.length = al at *
          have HAL := Lib.hid hall
          clear hall
          refine wp_region_held_drew (S := (fun _ => True)) (by kernel_rfl) trivial (fun hSw => ?_)
          replace HCU := Lib.hid (HCU.out.no ((Chg.refl No wr).drew))
          replace HO : Hid (wr.drew.ownsRow (gc + 1) 32 1 (.slice Av al cv) al (acc.map u64v)) := HO.out
          replace HX : Hid (wr.drew.heap[gc]? = some (.cells #[.int .u64 (T : Int), .slice Av al cv, .string ⟨#[]⟩, .int .i64 0, .string ⟨#[]⟩] 44)) := HX.out
          replace HZ : Hid (wr.drew.heap[g]? = some (.cells #[.int .u64 0, .slice none 0 0, .string ⟨#[]⟩, .int .i64 0, .string ⟨#[]⟩] 44)) := HZ.out
          replace HC : Hid (Chg No w wr.drew) := HC.out.drew
          generalize wr.drew = u at *
          refine wpAnyH_take (i := 0) (oi := { dst := some 37, op := Go.Op.fieldAddr 44 (Go.Operand.tmp 5) 1, type := 0, pos := "ref.go:193", after := #[], guard := none }) (v := ?_) rfl (by kernel_rfl) (by kernel_rfl) (by kernel_rfl) (fun _ _ _ h => h) (Or.inl ⟨by rfl, ?_⟩) hSw ?_
          rotate_left
          · (intro W hW; (try dsimp only at hW); go_simp; try with_reducible rfl)
          try simp only [Act.put, List.setIfInBounds_toArray, List.set_cons_zero, List.set_cons_succ]
          refine wpAnyH_take (i := 2) (oi := { dst := some 39, op := Go.Op.move (Go.Operand.tmp 4), type := 150, pos := "ref.go:193", after := #[], guard := none }) (v := ?_) rfl (by kernel_rfl) (by kernel_rfl) (by kernel_rfl) (fun _ _ _ h => h) (Or.inl ⟨by rfl, ?_⟩) hSw ?_
          rotate_left
          · (intro W hW; (try dsimp only at hW); go_simp; try with_reducible rfl)
          try simp only [Act.put, List.setIfInBounds_toArray, List.set_cons_zero, List.set_cons_succ]
          refine wpAnyH_ready (rs := [1, 3]) (by kernel_rfl) (by simp) ?_
          refine (AllReadyH.cons (o := { dst := some 38, op := Go.Op.load 42 (Go.Operand.tmp 37), type := 42, pos := "ref.go:193", after := #[{ on := 0, ground := Go.Ground.data }], guard := none }) rfl (fun K hK => ?_) (AllReadyH.cons (o := { dst := some 40, op := Go.Op.call { callee := Go.Callee.value (Go.Operand.func 93), args := #[Go.Operand.tmp 39], argTypes := #[150] }, type := 31, pos := "ref.go:193", after := #[{ on := 2, ground := Go.Ground.data }], guard := none }) rfl (fun K hK => ?_) AllReadyH.nil))
          · skip
            rw [if_pos (by rfl)]
            have u1 := cellAt HX.out 1 _ rfl
            go_simp
            refine hK.out _ _ trivial (fun hSw => ?_)
            clear hK
            try simp only [Act.put, List.setIfInBounds_toArray, List.set_cons_zero, List.set_cons_succ]
            refine wpAnyH_ready (rs := [3]) (by kernel_rfl) (by simp) ?_
            refine (AllReadyH.cons (o := { dst := some 40, op := Go.Op.call { callee := Go.Callee.value (Go.Operand.func 93), args := #[Go.Operand.tmp 39], argTypes := #[150] }, type := 31, pos := "ref.go:193", after := #[{ on := 2, ground := Go.Ground.data }], guard := none }) rfl (fun K hK => ?_) AllReadyH.nil)
            rw [if_pos (by rfl)]
            go_simp
            refine (word_cu u gg b0 c2 HCU.out (by omega)).mono ?_
            rintro e w3 ⟨rfl, hcu3, hc3⟩
            have HCU3 := Lib.hid hcu3
            have HX3 := Lib.hid (hc3.heap HX.out (fun h => by have h : gc = gg := h; omega))
            have HZ3 := Lib.hid (hc3.heap HZ.out (fun h => by have h : g = gg := h; omega))
            have HO3 := Lib.hid (ownsRow_chg HO.out hc3 (fun q hq h => by have h : q = gg := h; have := (World.ownsRow.lt HO.out q hq).1; omega))
            have HC3 := Lib.hid (HC.out.one hc3 (.inl (by omega)))
            have hl5 := cWord_len c2
            have HID3 : Hid ((cWord c2).1 < 18446744073709551616) := word_lt c2
            clear hcu3 hc3
            generalize (cWord c2).1 = id at *
            generalize (cWord c2).2 = c5 at *
            refine hK.out _ _ trivial (fun hSw => ?_)
            clear hK
            try simp only [Act.put, List.setIfInBounds_toArray, List.set_cons_zero, List.set_cons_succ]
            refine wpAnyH_ready (rs := [4]) (by kernel_rfl) (by simp) ?_
            refine (AllReadyH.cons (o := { dst := some 41, op := Go.Op.buildSlice 42 1 #[(0, Go.Operand.tmp 40)], type := 42, pos := "ref.go:193", after := #[{ on := 3, ground := Go.Ground.data }], guard := none }) rfl (fun K hK => ?_) AllReadyH.nil)
            rw [if_pos (by rfl)]
            go_simp
            have HCU34 := Lib.hid (HCU3.out.no ((Chg.refl No w3).alloc (.cells #[.int .u64 (id : Int)] 32)))
            have HX34 := Lib.hid (((Chg.refl No w3).alloc (.cells #[.int .u64 (id : Int)] 32)).heap HX3.out (fun x => x))
            have HZ34 := Lib.hid (((Chg.refl No w3).alloc (.cells #[.int .u64 (id : Int)] 32)).heap HZ3.out (fun x => x))
            have HO34 := Lib.hid (World.ownsRow.alloc HO3.out (.cells #[.int .u64 (id : Int)] 32))
            have HC34 : Hid (Chg No w (w3.alloc (.cells #[.int .u64 (id : Int)] 32))) := HC3.out.alloc _
            have HS34 : Hid (Src Try.prog 1 42 (.slice (some ⟨w3.heap.size, 0, none⟩) 1 1) 1 [u64v id] (w3.alloc (.cells #[.int .u64 (id : Int)] 32))) := Src.one Try.underlying42 _ rfl
            have hsz4 : gc + 1 ≤ (w3.alloc (.cells #[.int .u64 (id : Int)] 32)).heap.size := by have := (Array.getElem?_eq_some_iff.1 HX3.out).1; rw [World.size_alloc]; omega
            generalize w3.alloc (.cells #[.int .u64 (id : Int)] 32) = w4 at *
            generalize w3.heap.size = gb at *
            refine hK.out _ _ trivial (fun hSw => ?_)
            clear hK
            try simp only [Act.put, List.setIfInBounds_toArray, List.set_cons_zero, List.set_cons_succ]
            refine wpAnyH_ready (rs := [5]) (by kernel_rfl) (by simp) ?_
            refine (AllReadyH.cons (o := { dst := some 42, op := Go.Op.call { callee := Go.Callee.builtin Go.Builtin.append, args := #[Go.Operand.tmp 38, Go.Operand.tmp 41], argTypes := #[42, 42] }, type := 42, pos := "ref.go:193", after := #[{ on := 1, ground := Go.Ground.data }, { on := 4, ground := Go.Ground.data }, { on := 3, ground := Go.Ground.chain }], guard := none }) rfl (fun K hK => ?_) AllReadyH.nil)
            rw [if_pos (by rfl)]
            refine wp_app2 (.tmp 38) (.tmp 41) 42 42 rfl (gc + 1) 32 (.int .u64 0) 1 8 infoId Try.underlying42 rfl (by decide) (.slice Av al cv) (.slice (some ⟨gb, 0, none⟩) 1 1) al 1 (acc.map u64v) [u64v id] rfl rfl ?_ ?_ ?_ ?_ ?_ ?_
            · exact HO34.out
            · exact HS34.out
            · omega
            · unfold maxLen; omega
            · exact hsz4
            intro v5 w5 hown5 hg5 hfrom5
            obtain ⟨A8, c8, rfl⟩ := ownsRow_form hown5
            have HX345 := Lib.hid (row_keep HO34.out hg5 HX34.out (by decide))
            have HZ345 := Lib.hid (row_keep HO34.out hg5 HZ34.out (by decide))
            have HCU345 := Lib.hid (HCU34.out.chg (Chg.ofGrown (S := fun k => (Value.slice Av al cv).ownBlock = some k) hg5 (fun k hk => hk)) (fun h => by have := (World.ownsRow.lt HO34.out _ h).1; omega) (fun h => by have := (World.ownsRow.lt HO34.out _ h).1; omega))
            have HC345 : Hid (Chg No w w5) := HC34.out.grown hg5 (fun q hq => .inl (by have := (World.ownsRow.lt HO34.out q hq).1; omega))
            have HO345 := Lib.hid hown5
            have u3 := cellAt HX345.out 1 _ rfl
            have f3 := frzAt HX345.out 1
            clear hown5 hg5 hfrom5
            refine hK.out _ _ trivial (fun hSw => ?_)
            clear hK
            try simp only [Act.put, List.setIfInBounds_toArray, List.set_cons_zero, List.set_cons_succ]
            refine wpAnyH_take (i := 6) (oi := { dst := some 43, op := Go.Op.fieldAddr 44 (Go.Operand.tmp 5) 1, type := 0, pos := "ref.go:193", after := #[{ on := 0, ground := Go.Ground.phase }, { on := 1, ground := Go.Ground.phase }, { on := 2, ground := Go.Ground.phase }, { on := 3, ground := Go.Ground.phase }, { on := 4, ground := Go.Ground.phase }, { on := 5, ground := Go.Ground.phase }], guard := none }) (v := ?_) rfl (by kernel_rfl) (by kernel_rfl) (by kernel_rfl) (fun _ _ _ h => h) (Or.inl ⟨by rfl, ?_⟩) hSw ?_
            rotate_left
            · (intro W hW; (try dsimp only at hW); go_simp; try with_reducible rfl)
            try simp only [Act.put, List.setIfInBounds_toArray, List.set_cons_zero, List.set_cons_succ]
            refine wpAnyH_ready (rs := [7]) (by kernel_rfl) (by simp) ?_
            refine (AllReadyH.cons (o := { dst := none, op := Go.Op.store 42 (Go.Operand.tmp 43) (Go.Operand.tmp 42), type := 0, pos := "ref.go:193", after := #[{ on := 6, ground := Go.Ground.data }, { on := 5, ground := Go.Ground.data }, { on := 5, ground := Go.Ground.chain }, { on := 0, ground := Go.Ground.phase }, { on := 1, ground := Go.Ground.phase }, { on := 2, ground := Go.Ground.phase }, { on := 3, ground := Go.Ground.phase }, { on := 4, ground := Go.Ground.phase }, { on := 5, ground := Go.Ground.phase }], guard := none }) rfl (fun K hK => ?_) AllReadyH.nil)
            rw [if_pos (by rfl)]
            go_simp
            refine hK.out _ _ trivial (fun hSw => ?_)
            clear hK
            try simp only [Act.put, List.setIfInBounds_toArray, List.set_cons_zero, List.set_cons_succ]
            refine wpAnyH_done (by kernel_rfl) ?_ _
            have HLL : Hid ((acc ++ [id]).length = al + 1) := by rw [Hid, List.length_append, HAL.out]; rfl
            have HXF : Hid ((w5.setCell ⟨gc, 1, none⟩ (.slice A8 (al + 1) c8)).heap[gc]? = some (.cells #[.int .u64 (T : Int), .slice A8 (acc ++ [id]).length c8, .string ⟨#[]⟩, .int .i64 0, .string ⟨#[]⟩] 44)) := by rw [HLL.out]; exact heap_set HX345.out 1 _
            have HZF : Hid ((w5.setCell ⟨gc, 1, none⟩ (.slice A8 (al + 1) c8)).heap[g]? = some (.cells #[.int .u64 0, .slice none 0 0, .string ⟨#[]⟩, .int .i64 0, .string ⟨#[]⟩] 44)) := (Chg.put w5 gc 1 _).heap HZ345.out (fun h => by have h : g = gc := h; omega)
            have HCUF : Hid (CU (w5.setCell ⟨gc, 1, none⟩ (.slice A8 (al + 1) c8)) gg b0 c5) := HCU345.out.chg (Chg.put w5 gc 1 _) (fun h => by have h : gg = gc := h; omega) (fun h => by have h : b0 = gc := h; omega)
            have HOF : Hid ((w5.setCell ⟨gc, 1, none⟩ (.slice A8 (al + 1) c8)).ownsRow (gc + 1) 32 1 (.slice A8 (acc ++ [id]).length c8) (acc ++ [id]).length ((acc ++ [id]).map u64v)) := by
              rw [Hid, HLL.out, List.map_append]
              exact ownsRow_chg HO345.out (Chg.put w5 gc 1 _) (fun q hq h => by have h : q = gc := h; have := (World.ownsRow.lt HO345.out q hq).1; omega)
            have HCF : Hid (Chg No w (w5.setCell ⟨gc, 1, none⟩ (.slice A8 (al + 1) c8))) := HC345.out.setCell (.inl (by show w.heap.size ≤ gc; omega)) _
            have HPF : Hid (cIds kn cn [] = cIds k c5 (acc ++ [id])) := by rw [Hid, HP.out, HST.out]
            have HABF : Hid (∀ q ∈ acc ++ [id], q < 18446744073709551616) := by
              intro q hq
              rcases List.mem_append.1 hq with hq | hq
              · exact HAB.out q hq
              · simp only [List.mem_cons, List.not_mem_nil, or_false] at hq
                subst hq
                exact HID3.out
            go_wp2
            go_roundw
            case rel => exact ⟨k, c5, acc ++ [id], A8, c8, by omega, by first | rfl | (congr 1; omega) | (simp; omega) | simp, by rw [HLL.out]; omega, by omega, HPF.out, HCUF.out, HOF.out, HXF.out, HZF.out, HABF.out, HCF.out⟩
            case measure => first | (simp [intOf]; done) | (simp [intOf]; omega) | omega
          · skip
            rw [if_pos (by rfl)]
            go_simp
            refine (word_cu u gg b0 c2 HCU.out (by omega)).mono ?_
            rintro e w3 ⟨rfl, hcu3, hc3⟩
            have HCU3 := Lib.hid hcu3
            have HX3 := Lib.hid (hc3.heap HX.out (fun h => by have h : gc = gg := h; omega))
            have HZ3 := Lib.hid (hc3.heap HZ.out (fun h => by have h : g = gg := h; omega))
            have HO3 := Lib.hid (ownsRow_chg HO.out hc3 (fun q hq h => by have h : q = gg := h; have := (World.ownsRow.lt HO.out q hq).1; omega))
            have HC3 := Lib.hid (HC.out.one hc3 (.inl (by omega)))
            have hl5 := cWord_len c2
            have HID3 : Hid ((cWord c2).1 < 18446744073709551616) := word_lt c2
            clear hcu3 hc3
            generalize (cWord c2).1 = id at *
            generalize (cWord c2).2 = c5 at *
            refine hK.out _ _ trivial (fun hSw => ?_)
            clear hK
            try simp only [Act.put, List.setIfInBounds_toArray, List.set_cons_zero, List.set_cons_succ]
            refine wpAnyH_ready (rs := [1, 4]) (by kernel_rfl) (by simp) ?_
            refine (AllReadyH.cons (o := { dst := some 38, op := Go.Op.load 42 (Go.Operand.tmp 37), type := 42, pos := "ref.go:193", after := #[{ on := 0, ground := Go.Ground.data }], guard := none }) rfl (fun K hK => ?_) (AllReadyH.cons (o := { dst := some 41, op := Go.Op.buildSlice 42 1 #[(0, Go.Operand.tmp 40)], type := 42, pos := "ref.go:193", after := #[{ on := 3, ground := Go.Ground.data }], guard := none }) rfl (fun K hK => ?_) AllReadyH.nil))
            · skip
              rw [if_pos (by rfl)]
              have u1 := cellAt HX3.out 1 _ rfl
              go_simp
              refine hK.out _ _ trivial (fun hSw => ?_)
              clear hK
              try simp only [Act.put, List.setIfInBounds_toArray, List.set_cons_zero, List.set_cons_succ]
              refine wpAnyH_ready (rs := [4]) (by kernel_rfl) (by simp) ?_
              refine (AllReadyH.cons (o := { dst := some 41, op := Go.Op.buildSlice 42 1 #[(0, Go.Operand.tmp 40)], type := 42, pos := "ref.go:193", after := #[{ on := 3, ground := Go.Ground.data }], guard := none }) rfl (fun K hK => ?_) AllReadyH.nil)
              rw [if_pos (by rfl)]
              go_simp
              have HCU34 := Lib.hid (HCU3.out.no ((Chg.refl No w3).alloc (.cells #[.int .u64 (id : Int)] 32)))
              have HX34 := Lib.hid (((Chg.refl No w3).alloc (.cells #[.int .u64 (id : Int)] 32)).heap HX3.out (fun x => x))
              have HZ34 := Lib.hid (((Chg.refl No w3).alloc (.cells #[.int .u64 (id : Int)] 32)).heap HZ3.out (fun x => x))
              have HO34 := Lib.hid (World.ownsRow.alloc HO3.out (.cells #[.int .u64 (id : Int)] 32))
              have HC34 : Hid (Chg No w (w3.alloc (.cells #[.int .u64 (id : Int)] 32))) := HC3.out.alloc _
              have HS34 : Hid (Src Try.prog 1 42 (.slice (some ⟨w3.heap.size, 0, none⟩) 1 1) 1 [u64v id] (w3.alloc (.cells #[.int .u64 (id : Int)] 32))) := Src.one Try.underlying42 _ rfl
              have hsz4 : gc + 1 ≤ (w3.alloc (.cells #[.int .u64 (id : Int)] 32)).heap.size := by have := (Array.getElem?_eq_some_iff.1 HX3.out).1; rw [World.size_alloc]; omega
              generalize w3.alloc (.cells #[.int .u64 (id : Int)] 32) = w4 at *
              generalize w3.heap.size = gb at *
              refine hK.out _ _ trivial (fun hSw => ?_)
              clear hK
              try simp only [Act.put, List.setIfInBounds_toArray, List.set_cons_zero, List.set_cons_succ]
              refine wpAnyH_ready (rs := [5]) (by kernel_rfl) (by simp) ?_
              refine (AllReadyH.cons (o := { dst := some 42, op := Go.Op.call { callee := Go.Callee.builtin Go.Builtin.append, args := #[Go.Operand.tmp 38, Go.Operand.tmp 41], argTypes := #[42, 42] }, type := 42, pos := "ref.go:193", after := #[{ on := 1, ground := Go.Ground.data }, { on := 4, ground := Go.Ground.data }, { on := 3, ground := Go.Ground.chain }], guard := none }) rfl (fun K hK => ?_) AllReadyH.nil)
              rw [if_pos (by rfl)]
              refine wp_app2 (.tmp 38) (.tmp 41) 42 42 rfl (gc + 1) 32 (.int .u64 0) 1 8 infoId Try.underlying42 rfl (by decide) (.slice Av al cv) (.slice (some ⟨gb, 0, none⟩) 1 1) al 1 (acc.map u64v) [u64v id] rfl rfl ?_ ?_ ?_ ?_ ?_ ?_
              · exact HO34.out
              · exact HS34.out
              · omega
              · unfold maxLen; omega
              · exact hsz4
              intro v5 w5 hown5 hg5 hfrom5
              obtain ⟨A8, c8, rfl⟩ := ownsRow_form hown5
              have HX345 := Lib.hid (row_keep HO34.out hg5 HX34.out (by decide))
              have HZ345 := Lib.hid (row_keep HO34.out hg5 HZ34.out (by decide))
              have HCU345 := Lib.hid (HCU34.out.chg (Chg.ofGrown (S := fun k => (Value.slice Av al cv).ownBlock = some k) hg5 (fun k hk => hk)) (fun h => by have := (World.ownsRow.lt HO34.out _ h).1; omega) (fun h => by have := (World.ownsRow.lt HO34.out _ h).1; omega))
              have HC345 : Hid (Chg No w w5) := HC34.out.grown hg5 (fun q hq => .inl (by have := (World.ownsRow.lt HO34.out q hq).1; omega))
              have HO345 := Lib.hid hown5
              have u3 := cellAt HX345.out 1 _ rfl
              have f3 := frzAt HX345.out 1
              clear hown5 hg5 hfrom5
              refine hK.out _ _ trivial (fun hSw => ?_)
              clear hK
              try simp only [Act.put, List.setIfInBounds_toArray, List.set_cons_zero, List.set_cons_succ]
              refine wpAnyH_take (i := 6) (oi := { dst := some 43, op := Go.Op.fieldAddr 44 (Go.Operand.tmp 5) 1, type := 0, pos := "ref.go:193", after := #[{ on := 0, ground := Go.Ground.phase }, { on := 1, ground := Go.Ground.phase }, { on := 2, ground := Go.Ground.phase }, { on := 3, ground := Go.Ground.phase }, { on := 4, ground := Go.Ground.phase }, { on := 5, ground := Go.Ground.phase }], guard := none }) (v := ?_) rfl (by kernel_rfl) (by kernel_rfl) (by kernel_rfl) (fun _ _ _ h => h) (Or.inl ⟨by rfl, ?_⟩) hSw ?_
              rotate_left
              · (intro W hW; (try dsimp only at hW); go_simp; try with_reducible rfl)
              try simp only [Act.put, List.setIfInBounds_toArray, List.set_cons_zero, List.set_cons_succ]
              refine wpAnyH_ready (rs := [7]) (by kernel_rfl) (by simp) ?_
              refine (AllReadyH.cons (o := { dst := none, op := Go.Op.store 42 (Go.Operand.tmp 43) (Go.Operand.tmp 42), type := 0, pos := "ref.go:193", after := #[{ on := 6, ground := Go.Ground.data }, { on := 5, ground := Go.Ground.data }, { on := 5, ground := Go.Ground.chain }, { on := 0, ground := Go.Ground.phase }, { on := 1, ground := Go.Ground.phase }, { on := 2, ground := Go.Ground.phase }, { on := 3, ground := Go.Ground.phase }, { on := 4, ground := Go.Ground.phase }, { on := 5, ground := Go.Ground.phase }], guard := none }) rfl (fun K hK => ?_) AllReadyH.nil)
              rw [if_pos (by rfl)]
              go_simp
              refine hK.out _ _ trivial (fun hSw => ?_)
              clear hK
              try simp only [Act.put, List.setIfInBounds_toArray, List.set_cons_zero, List.set_cons_succ]
              refine wpAnyH_done (by kernel_rfl) ?_ _
              have HLL : Hid ((acc ++ [id]).length = al + 1) := by rw [Hid, List.length_append, HAL.out]; rfl
              have HXF : Hid ((w5.setCell ⟨gc, 1, none⟩ (.slice A8 (al + 1) c8)).heap[gc]? = some (.cells #[.int .u64 (T : Int), .slice A8 (acc ++ [id]).length c8, .string ⟨#[]⟩, .int .i64 0, .string ⟨#[]⟩] 44)) := by rw [HLL.out]; exact heap_set HX345.out 1 _
              have HZF : Hid ((w5.setCell ⟨gc, 1, none⟩ (.slice A8 (al + 1) c8)).heap[g]? = some (.cells #[.int .u64 0, .slice none 0 0, .string ⟨#[]⟩, .int .i64 0, .string ⟨#[]⟩] 44)) := (Chg.put w5 gc 1 _).heap HZ345.out (fun h => by have h : g = gc := h; omega)
              have HCUF : Hid (CU (w5.setCell ⟨gc, 1, none⟩ (.slice A8 (al + 1) c8)) gg b0 c5) := HCU345.out.chg (Chg.put w5 gc 1 _) (fun h => by have h : gg = gc := h; omega) (fun h => by have h : b0 = gc := h; omega)
              have HOF : Hid ((w5.setCell ⟨gc, 1, none⟩ (.slice A8 (al + 1) c8)).ownsRow (gc + 1) 32 1 (.slice A8 (acc ++ [id]).length c8) (acc ++ [id]).length ((acc ++ [id]).map u64v)) := by
                rw [Hid, HLL.out, List.map_append]
                exact ownsRow_chg HO345.out (Chg.put w5 gc 1 _) (fun q hq h => by have h : q = gc := h; have := (World.ownsRow.lt HO345.out q hq).1; omega)
              have HCF : Hid (Chg No w (w5.setCell ⟨gc, 1, none⟩ (.slice A8 (al + 1) c8))) := HC345.out.setCell (.inl (by show w.heap.size ≤ gc; omega)) _
              have HPF : Hid (cIds kn cn [] = cIds k c5 (acc ++ [id])) := by rw [Hid, HP.out, HST.out]
              have HABF : Hid (∀ q ∈ acc ++ [id], q < 18446744073709551616) := by
                intro q hq
                rcases List.mem_append.1 hq with hq | hq
                · exact HAB.out q hq
                · simp only [List.mem_cons, List.not_mem_nil, or_false] at hq
                  subst hq
                  exact HID3.out
              go_wp2
              go_roundw
              case rel => exact ⟨k, c5, acc ++ [id], A8, c8, by omega, by first | rfl | (congr 1; omega) | (simp; omega) | simp, by rw [HLL.out]; omega, by omega, HPF.out, HCUF.out, HOF.out, HXF.out, HZF.out, HABF.out, HCF.out⟩
              case measure => first | (simp [intOf]; done) | (simp [intOf]; omega) | omega
            · skip
              rw [if_pos (by rfl)]
              go_simp
              have HCU34 := Lib.hid (HCU3.out.no ((Chg.refl No w3).alloc (.cells #[.int .u64 (id : Int)] 32)))
              have HX34 := Lib.hid (((Chg.refl No w3).alloc (.cells #[.int .u64 (id : Int)] 32)).heap HX3.out (fun x => x))
              have HZ34 := Lib.hid (((Chg.refl No w3).alloc (.cells #[.int .u64 (id : Int)] 32)).heap HZ3.out (fun x => x))
              have HO34 := Lib.hid (World.ownsRow.alloc HO3.out (.cells #[.int .u64 (id : Int)] 32))
              have HC34 : Hid (Chg No w (w3.alloc (.cells #[.int .u64 (id : Int)] 32))) := HC3.out.alloc _
              have HS34 : Hid (Src Try.prog 1 42 (.slice (some ⟨w3.heap.size, 0, none⟩) 1 1) 1 [u64v id] (w3.alloc (.cells #[.int .u64 (id : Int)] 32))) := Src.one Try.underlying42 _ rfl
              have hsz4 : gc + 1 ≤ (w3.alloc (.cells #[.int .u64 (id : Int)] 32)).heap.size := by have := (Array.getElem?_eq_some_iff.1 HX3.out).1; rw [World.size_alloc]; omega
              generalize w3.alloc (.cells #[.int .u64 (id : Int)] 32) = w4 at *
              generalize w3.heap.size = gb at *
              refine hK.out _ _ trivial (fun hSw => ?_)
              clear hK
              try simp only [Act.put, List.setIfInBounds_toArray, List.set_cons_zero, List.set_cons_succ]
              refine wpAnyH_ready (rs := [1]) (by kernel_rfl) (by simp) ?_
              refine (AllReadyH.cons (o := { dst := some 38, op := Go.Op.load 42 (Go.Operand.tmp 37), type := 42, pos := "ref.go:193", after := #[{ on := 0, ground := Go.Ground.data }], guard := none }) rfl (fun K hK => ?_) AllReadyH.nil)
              rw [if_pos (by rfl)]
              have u1 := cellAt HX34.out 1 _ rfl
              go_simp
              refine hK.out _ _ trivial (fun hSw => ?_)
              clear hK
              try simp only [Act.put, List.setIfInBounds_toArray, List.set_cons_zero, List.set_cons_succ]
              refine wpAnyH_ready (rs := [5]) (by kernel_rfl) (by simp) ?_
              refine (AllReadyH.cons (o := { dst := some 42, op := Go.Op.call { callee := Go.Callee.builtin Go.Builtin.append, args := #[Go.Operand.tmp 38, Go.Operand.tmp 41], argTypes := #[42, 42] }, type := 42, pos := "ref.go:193", after := #[{ on := 1, ground := Go.Ground.data }, { on := 4, ground := Go.Ground.data }, { on := 3, ground := Go.Ground.chain }], guard := none }) rfl (fun K hK => ?_) AllReadyH.nil)
              rw [if_pos (by rfl)]
              refine wp_app2 (.tmp 38) (.tmp 41) 42 42 rfl (gc + 1) 32 (.int .u64 0) 1 8 infoId Try.underlying42 rfl (by decide) (.slice Av al cv) (.slice (some ⟨gb, 0, none⟩) 1 1) al 1 (acc.map u64v) [u64v id] rfl rfl ?_ ?_ ?_ ?_ ?_ ?_
              · exact HO34.out
              · exact HS34.out
              · omega
              · unfold maxLen; omega
              · exact hsz4
              intro v5 w5 hown5 hg5 hfrom5
              obtain ⟨A8, c8, rfl⟩ := ownsRow_form hown5
              have HX345 := Lib.hid (row_keep HO34.out hg5 HX34.out (by decide))
              have HZ345 := Lib.hid (row_keep HO34.out hg5 HZ34.out (by decide))
              have HCU345 := Lib.hid (HCU34.out.chg (Chg.ofGrown (S := fun k => (Value.slice Av al cv).ownBlock = some k) hg5 (fun k hk => hk)) (fun h => by have := (World.ownsRow.lt HO34.out _ h).1; omega) (fun h => by have := (World.ownsRow.lt HO34.out _ h).1; omega))
              have HC345 : Hid (Chg No w w5) := HC34.out.grown hg5 (fun q hq => .inl (by have := (World.ownsRow.lt HO34.out q hq).1; omega))
              have HO345 := Lib.hid hown5
              have u3 := cellAt HX345.out 1 _ rfl
              have f3 := frzAt HX345.out 1
              clear hown5 hg5 hfrom5
              refine hK.out _ _ trivial (fun hSw => ?_)
              clear hK
              try simp only [Act.put, List.setIfInBounds_toArray, List.set_cons_zero, List.set_cons_succ]
              refine wpAnyH_take (i := 6) (oi := { dst := some 43, op := Go.Op.fieldAddr 44 (Go.Operand.tmp 5) 1, type := 0, pos := "ref.go:193", after := #[{ on := 0, ground := Go.Ground.phase }, { on := 1, ground := Go.Ground.phase }, { on := 2, ground := Go.Ground.phase }, { on := 3, ground := Go.Ground.phase }, { on := 4, ground := Go.Ground.phase }, { on := 5, ground := Go.Ground.phase }], guard := none }) (v := ?_) rfl (by kernel_rfl) (by kernel_rfl) (by kernel_rfl) (fun _ _ _ h => h) (Or.inl ⟨by rfl, ?_⟩) hSw ?_
              rotate_left
              · (intro W hW; (try dsimp only at hW); go_simp; try with_reducible rfl)
              try simp only [Act.put, List.setIfInBounds_toArray, List.set_cons_zero, List.set_cons_succ]
              refine wpAnyH_ready (rs := [7]) (by kernel_rfl) (by simp) ?_
              refine (AllReadyH.cons (o := { dst := none, op := Go.Op.store 42 (Go.Operand.tmp 43) (Go.Operand.tmp 42), type := 0, pos := "ref.go:193", after := #[{ on := 6, ground := Go.Ground.data }, { on := 5, ground := Go.Ground.data }, { on := 5, ground := Go.Ground.chain }, { on := 0, ground := Go.Ground.phase }, { on := 1, ground := Go.Ground.phase }, { on := 2, ground := Go.Ground.phase }, { on := 3, ground := Go.Ground.phase }, { on := 4, ground := Go.Ground.phase }, { on := 5, ground := Go.Ground.phase }], guard := none }) rfl (fun K hK => ?_) AllReadyH.nil)
              rw [if_pos (by rfl)]
              go_simp
              refine hK.out _ _ trivial (fun hSw => ?_)
              clear hK
              try simp only [Act.put, List.setIfInBounds_toArray, List.set_cons_zero, List.set_cons_succ]
              refine wpAnyH_done (by kernel_rfl) ?_ _
              have HLL : Hid ((acc ++ [id]).length = al + 1) := by rw [Hid, List.length_append, HAL.out]; rfl
              have HXF : Hid ((w5.setCell ⟨gc, 1, none⟩ (.slice A8 (al + 1) c8)).heap[gc]? = some (.cells #[.int .u64 (T : Int), .slice A8 (acc ++ [id]).length c8, .string ⟨#[]⟩, .int .i64 0, .string ⟨#[]⟩] 44)) := by rw [HLL.out]; exact heap_set HX345.out 1 _
              have HZF : Hid ((w5.setCell ⟨gc, 1, none⟩ (.slice A8 (al + 1) c8)).heap[g]? = some (.cells #[.int .u64 0, .slice none 0 0, .string ⟨#[]⟩, .int .i64 0, .string ⟨#[]⟩] 44)) := (Chg.put w5 gc 1 _).heap HZ345.out (fun h => by have h : g = gc := h; omega)
              have HCUF : Hid (CU (w5.setCell ⟨gc, 1, none⟩ (.slice A8 (al + 1) c8)) gg b0 c5) := HCU345.out.chg (Chg.put w5 gc 1 _) (fun h => by have h : gg = gc := h; omega) (fun h => by have h : b0 = gc := h; omega)
              have HOF : Hid ((w5.setCell ⟨gc, 1, none⟩ (.slice A8 (al + 1) c8)).ownsRow (gc + 1) 32 1 (.slice A8 (acc ++ [id]).length c8) (acc ++ [id]).length ((acc ++ [id]).map u64v)) := by
                rw [Hid, HLL.out, List.map_append]
                exact ownsRow_chg HO345.out (Chg.put w5 gc 1 _) (fun q hq h => by have h : q = gc := h; have := (World.ownsRow.lt HO345.out q hq).1; omega)
              have HCF : Hid (Chg No w (w5.setCell ⟨gc, 1, none⟩ (.slice A8 (al + 1) c8))) := HC345.out.setCell (.inl (by show w.heap.size ≤ gc; omega)) _
              have HPF : Hid (cIds kn cn [] = cIds k c5 (acc ++ [id])) := by rw [Hid, HP.out, HST.out]
              have HABF : Hid (∀ q ∈ acc ++ [id], q < 18446744073709551616) := by
                intro q hq
                rcases List.mem_append.1 hq with hq | hq
                · exact HAB.out q hq
                · simp only [List.mem_cons, List.not_mem_nil, or_false] at hq
                  subst hq
                  exact HID3.out
              go_wp2
              go_roundw
              case rel => exact ⟨k, c5, acc ++ [id], A8, c8, by omega, by first | rfl | (congr 1; omega) | (simp; omega) | simp, by rw [HLL.out]; omega, by omega, HPF.out, HCUF.out, HOF.out, HXF.out, HZF.out, HABF.out, HCF.out⟩
              case measure => first | (simp [intOf]; done) | (simp [intOf]; omega) | omega
  · have hub : ((u.toNat : Int) != 99) = true := by simp; omega
    have HR : Hid (asCommit xs = none) := by
      rw [Hid, asCommit, if_pos]
      rw [HG0.out]; intro h; rw [h] at hu; exact hu (by decide)
    go_enter Try.func63, Try.ntmps63
    go_wp2
    exact bodyPost_ret (v := .tuple #[.agg #[.int .u64 0, .slice none 0 0, .string ⟨#[]⟩, .int .i64 0, .string ⟨#[]⟩], .bool false]) (by simp [results, Try.results63, go_sem]) rfl ⟨0, none, 0, 0, ⟨#[]⟩, 0, ⟨#[]⟩, by rw [HR.out]; rfl, (by rw [HR.out]; intro t ps a d x h; cases h), (Chg.refl No w).alloc _⟩
end Go.Proofs.Ytccphnkdnifpfaa

