/-
  At: in one text.
-/
import Derived.Test.YtccphnkdnifpfaaBa11
import Derived.Deep.DeepCutAuto
namespace Go.Proofs.Ytccphnkdnifpfaa
set_option linter.unnecessarySimpa false
open Go.RowKit
set_option linter.unusedVariables false
set_option linter.unusedSimpArgs false
set_option maxRecDepth 100000

theorem cTake_len (n : Nat) (c : Cu) : (cTake n c).2.rest.length ≤ c.rest.length := by
  unfold cTake
  split
  · exact Nat.le_refl _
  · simp only [List.length_drop]; omega
theorem cText_len (c : Cu) : (cText c).2.rest.length ≤ c.rest.length := Nat.le_trans (cTake_len _ _) (num_len c).1
theorem cWord_len (c : Cu) : (cWord c).2.rest.length ≤ c.rest.length := cTake_len 8 c
theorem cEnts_stop (k : Nat) (c : Cu) (acc : List Ent) (h : k = 0 ∨ c.wrong = true) : cEnts k c acc = (acc, c) := by
  cases k with
  | zero => rfl
  | succ k => rw [cEnts, if_pos (h.resolve_left (by omega))]
theorem cEnts_step (k : Nat) (c : Cu) (acc : List Ent) (f : Bool) (c4 : Cu) (hw : c.wrong = false) (hf : cFold (cText c).2 = (f, c4)) : cEnts (k + 1) c acc = cEnts k (cWord c4).2 (acc ++ [(mkS (cText c).1, f, (cWord c4).1)]) := by
  rw [cEnts, if_neg (by rw [hw]; simp), cEnt, hf]
theorem cText_get (c : Cu) : (cText c).1.length ≤ c.rest.length := by
  have h := (num_len c).1
  unfold cText cTake
  split
  · simp
  · simp only [List.length_take]; omega
theorem word_lt (c : Cu) : (cWord c).1 < 18446744073709551616 := by
  have h8 : (cTake 8 c).1.length ≤ 8 := by
    unfold cTake
    split
    · simp
    · rw [List.length_take]; omega
  have h1 := beF_lt (cTake 8 c).1 0
  have h3 := Nat.pow_le_pow_right (n := 256) (by decide) h8
  have h4 : (256 : Nat) ^ 8 = 18446744073709551616 := by decide
  rw [cWord]
  simp only
  omega
theorem esOwn2 {w : World} {base c : Nat} {A : Option Addr} {xs : List Ent} (h : w.ownsRow base 130 3 (.slice A xs.length c) xs.length (xs.flatMap encE)) : Es w (.slice A xs.length c) xs := Holds.ofOwn h
theorem CU.start {w : World} {A : Option Addr} {n c d : Nat} {xs : List UInt8} (hb : Bytes w (.slice A n c) xs) (hl : xs.length = n) (hd : ∀ p, A = some p → p.block = d) (hdg : d ≠ w.heap.size) :
    CU (w.alloc (.cells #[.slice A n c, .bool false] 152)) w.heap.size d ⟨xs, false⟩ :=
  ⟨A, n, c, heap_alloc_new w _, hb.no ((Chg.refl No w).alloc _), hl, hd, hdg⟩
theorem CU.cells {w : World} {g d : Nat} {c : Cu} (h : CU w g d c) : ∃ A cap, w.heap[g]? = some (.cells #[.slice A c.rest.length cap, .bool c.wrong] 152 (0, 0)) := by
  obtain ⟨A, n, cap, h1, h2, rfl, h4, h5⟩ := h
  exact ⟨A, cap, h1⟩

set_option maxHeartbeats 12800000 in
theorem astree_ref (w : World) (A : Option Addr) (n c : Nat) (xs : List UInt8) (hb : Bytes w (.slice A n c) xs) (hl : xs.length = n) (hn : n ≤ 16384) :
    Calls Try.prog 62 #[.slice A n c] w fun e w' => ∃ A' n' c', e = .returned (.tuple #[.slice A' n' c', .bool (asTree xs).isSome]) ∧ (∀ l, asTree xs = some l → Es w' (.slice A' n' c') l) ∧ Chg No w w' := by
  have hnc : n ≤ c := by
    obtain ⟨A', c', he, h2, -⟩ := hb.form
    simp only [Value.slice.injEq] at he
    omega
  have HB := Lib.hid hb
  have HL := Lib.hid hl
  clear hb hl
  by_cases hn0 : n = 0
  · have HA : Hid (asTree xs = none) := by
      have : xs = [] := List.eq_nil_of_length_eq_zero (by rw [HL.out]; exact hn0)
      subst this
      rw [Hid, asTree, if_pos (by decide)]
    subst hn0
    go_enter Try.func62, Try.ntmps62
    go_wp2
    go_ret2
    exact ⟨none, 0, 0, by rw [HA.out]; rfl, (by rw [HA.out]; intro l h; cases h), Chg.refl _ _⟩
  obtain ⟨b0, o0, rfl, hcell⟩ := HB.out.addr (by rw [HL.out]; omega)
  have hx0 := hcell 0 (by rw [HL.out]; omega)
  rw [Nat.add_zero] at hx0
  have hG0 : xs.getD 0 0 = xs[0]'(by rw [HL.out]; omega) := by simp [List.getD, show 0 < xs.length by rw [HL.out]; omega]
  generalize xs[0]'(by rw [HL.out]; omega) = u at *
  have HG0 := Lib.hid hG0
  have hpos : (0 : Int) < (n : Int) := by omega
  have hn0b : ((n : Int) == 0) = false := by simp; omega
  have hd0 : b0 < w.heap.size := World.block_lt_of_cell? _ _ hx0
  clear hcell hG0
  by_cases hu : u.toNat = 116
  · have hub : ((u.toNat : Int) != 116) = false := by rw [hu]; rfl
    have HNT : Hid (asTree xs = if (preT xs).2.wrong = true ∨ (preT xs).2.rest ≠ [] ∨ treeF (preT xs).1 ≠ 0 then none else some (preT xs).1) := by
      rw [Hid, asTree, if_neg]
      rw [HG0.out]
      have : u = 116 := UInt8.toNat_inj.1 hu
      rw [this]; simp

    have hdr0 := (show Bytes w (.slice (some ⟨b0, o0, none⟩) xs.length c) xs by rw [HL.out]; exact HB.out).drop (k := 1) (by rw [HL.out]; omega)
    rw [HL.out] at hdr0
    have hlen1 : (xs.drop 1).length = n - 1 := by rw [List.length_drop, HL.out]
    generalize hg : w.heap.size = g at *
    by_cases hc1 : c = 1
    · have hn1 : n = 1 := by omega
      subst hc1
      subst hn1
      rw [if_pos rfl] at hdr0
      have HCU1 : Hid (CU (w.alloc (.cells #[.slice (some ⟨b0, o0, none⟩) 0 0, .bool false] 152)) g b0 ⟨xs.drop 1, false⟩) := by
        have := CU.start (d := b0) hdr0 (by rw [hlen1]) (by intro p hp; cases hp; rfl) (by omega)
        rw [hg] at this; exact this
      have HC1 : Hid (Chg No w (w.alloc (.cells #[.slice (some ⟨b0, o0, none⟩) 0 0, .bool false] 152))) := (Chg.refl No w).alloc _
      clear hdr0 hlen1
      go_enter Try.func62, Try.ntmps62
      go_upto_region 4 with fail
      generalize hw1 : w.alloc (.cells #[.slice (some ⟨b0, o0, none⟩) 0 0, .bool false] 152) = w1 at *
      clear hx0 hw1
      go_wp2_with fail
      refine (num_cu w1 g b0 ⟨xs.drop 1, false⟩ HCU1.out (by show (xs.drop 1).length ≤ 1000000; rw [List.length_drop, HL.out]; omega)).mono ?_
      rintro e w2 ⟨rfl, hcu2, hc2⟩
      obtain ⟨hnl, hn16⟩ := num_len ⟨xs.drop 1, false⟩
      have hnl2 : (cNum ⟨xs.drop 1, false⟩).2.rest.length ≤ 16384 := Nat.le_trans hnl (by show (xs.drop 1).length ≤ 16384; rw [List.length_drop, HL.out]; omega)
      have HC2 := Lib.hid (HC1.out.one hc2 (.inl (Nat.le_of_eq hg)))
      have HCU2 := Lib.hid hcu2
      have HPT : Hid (preT xs = cEnts (cNum ⟨xs.drop 1, false⟩).1 (cNum ⟨xs.drop 1, false⟩).2 []) := rfl
      clear hcu2 hc2 HCU1 HC1 hnl
      generalize (cNum ⟨xs.drop 1, false⟩).1 = kn at *
      generalize (cNum ⟨xs.drop 1, false⟩).2 = cn at *
      have HGW : g + 1 ≤ w2.heap.size := HCU2.out.lt
      go_wp2
      go_loopw [5, 6] (fun l i wr => ∃ (k : Nat) (c2 : Cu) (acc : List Ent) (Av : Option Addr) (cv : Nat), k < 16384 ∧ i = .int .i64 (k : Int) ∧ l = .slice Av acc.length cv ∧ acc.length + k ≤ 16384 ∧ c2.rest.length ≤ 16384 ∧ Hid (preT xs = cEnts k c2 acc) ∧ Hid (CU wr g b0 c2) ∧ Hid (wr.ownsRow (g + 1) 130 3 (.slice Av acc.length cv) acc.length (acc.flatMap encE)) ∧ Hid (∀ x ∈ acc, x.1.size ≤ 9223372036854775807) ∧ Hid (Chg No w wr)) (fun _ i _ => (intOf i).toNat)
      case atStart => exact ⟨kn, cn, [], none, 0, hn16, rfl, rfl, by simp; omega, hnl2, HPT.out, HCU2.out, World.ownsRow_nil _ _ _ _, (fun _ h => by cases h), HC2.out⟩
      case round =>
        obtain ⟨k0, c2, acc, Av, cv, hk, rfl, rfl, hal, hl2, HP0, HCU, HO, HAB, HC⟩ := hrel
        by_cases hk0 : k0 = 0
        · have HP : Hid (preT xs = (acc, c2)) := by rw [Hid, HP0.out, cEnts_stop _ _ _ (.inl hk0)]
          have hkb : ¬ (0 : Int) < (k0 : Int) := by omega
          clear hk0
          cases hwq : c2.wrong with
          | true =>
            have hwt := hwq
            clear hwq
            have HR : Hid (asTree xs = none) := by rw [Hid, HNT.out, HP.out, if_pos (.inl hwt)]
            obtain ⟨Ac, capc, hcc⟩ := HCU.out.cells
            have q0 := cellAt hcc 0 _ rfl
            have q1 := cellAt hcc 1 _ rfl
            rw [hwt] at q1
            clear hcc hwt
            go_wp2
            go_ret2
            exact ⟨none, 0, 0, by rw [HR.out]; rfl, (by rw [HR.out]; intro l h; cases h), HC.out⟩
          | false =>
            have hwf := hwq
            clear hwq
            obtain ⟨Ac, capc, hcc⟩ := HCU.out.cells
            have q0 := cellAt hcc 0 _ rfl
            have q1 := cellAt hcc 1 _ rfl
            rw [hwf] at q1
            clear hcc
            by_cases hr : c2.rest.length = 0
            · have hrb : ¬ (0 : Int) < (c2.rest.length : Int) := by omega
              have HRE : Hid (c2.rest = []) := List.eq_nil_of_length_eq_zero hr
              rw [hr] at q0
              have hck := refcheck_tree wr Av acc.length cv acc (esOwn2 HO.out) (fun x hx => HAB.out x hx) (by omega)
              generalize hz : treeF acc = F at *
              have HCK := Lib.hid hck
              by_cases hF : F = 0
              · subst hF
                have HR : Hid (asTree xs = some acc) := by rw [Hid, HNT.out, HP.out, if_neg (by rw [hwf, HRE.out, hz]; simp)]
                have HACC := Lib.hid (esOwn2 HO.out)
                clear hwf hz hck hr hrb
                generalize acc.length = al at *
                go_wp2_with fail
                refine HCK.out.mono ?_
                rintro e w9 ⟨rfl, hc9⟩
                have HA9 := Lib.hid (HACC.out.no hc9)
                have HC9 := Lib.hid (HC.out.no hc9)
                go_wp2
                go_ret2
                exact ⟨_, _, _, by rw [HR.out]; rfl, (by rw [HR.out]; intro l h; cases h; exact HA9.out), HC9.out⟩
              · have HR : Hid (asTree xs = none) := by rw [Hid, HNT.out, HP.out, if_pos (.inr (.inr (by rw [hz]; exact hF)))]
                have hFb : (F != 0) = true := by simpa using hF
                clear hwf hz hck hr hrb hF
                generalize acc.length = al at *
                go_wp2_with fail
                refine HCK.out.mono ?_
                rintro e w9 ⟨rfl, hc9⟩
                have HC9 := Lib.hid (HC.out.no hc9)
                go_wp2
                go_ret2
                exact ⟨none, 0, 0, by rw [HR.out]; rfl, (by rw [HR.out]; intro l h; cases h), HC9.out⟩
            · have hrb : (0 : Int) < (c2.rest.length : Int) := by omega
              have HR : Hid (asTree xs = none) := by rw [Hid, HNT.out, HP.out, if_pos (.inr (.inl (fun h => hr (by rw [h]; rfl))))]
              clear hwf hr
              generalize c2.rest.length = rl at *
              go_wp2
              go_ret2
              exact ⟨none, 0, 0, by rw [HR.out]; rfl, (by rw [HR.out]; intro l h; cases h), HC.out⟩
        · obtain ⟨k, rfl⟩ : ∃ k, k0 = k + 1 := ⟨k0 - 1, by omega⟩
          have hkb : (0 : Int) < ((k + 1 : Nat) : Int) := by omega
          clear hk0
          cases hwq : c2.wrong with
          | true =>
            have hwt := hwq
            clear hwq
            have HP : Hid (preT xs = (acc, c2)) := by rw [Hid, HP0.out, cEnts_stop _ _ _ (.inr hwt)]
            have HR : Hid (asTree xs = none) := by rw [Hid, HNT.out, HP.out, if_pos (.inl hwt)]
            obtain ⟨Ac, capc, hcc⟩ := HCU.out.cells
            have q0 := cellAt hcc 0 _ rfl
            have q1 := cellAt hcc 1 _ rfl
            rw [hwt] at q1
            clear hcc hwt
            go_wp2
            go_ret2
            exact ⟨none, 0, 0, by rw [HR.out]; rfl, (by rw [HR.out]; intro l h; cases h), HC.out⟩
          | false =>
            have HWF := Lib.hid hwq
            obtain ⟨Ac, capc, hcc⟩ := HCU.out.cells
            have q1 := cellAt hcc 1 _ rfl
            rw [hwq] at q1
            have HP := HP0
            clear hcc hwq HP0
            go_wp2_with fail
            refine (text_cu wr g b0 c2 HCU.out (by omega)).mono ?_
            rintro e w3 ⟨rfl, hcu3, hc3⟩
            have hl3 := cText_len c2
            have HCU3 := Lib.hid hcu3
            have HC3 := Lib.hid (HC.out.one hc3 (.inl (Nat.le_of_eq hg)))
            have HO3 := Lib.hid (ownsRow_chg HO.out hc3 (fun q hq h => by have h : q = g := h; have := (World.ownsRow.lt HO.out q hq).1; omega))
            have hg3 : g < w3.heap.size := HCU3.out.lt
            have HNS0 : Hid ((mkS (cText c2).1).size ≤ 9223372036854775807) := by
              rw [Hid, mkS_size]
              have h1 : (cText c2).1.length ≤ c2.rest.length := cText_get c2
              omega
            obtain ⟨nm, hnm⟩ : ∃ nm, mkS (cText c2).1 = nm := ⟨_, rfl⟩
            have HNM := Lib.hid hnm
            have HNS : Hid (nm.size ≤ 9223372036854775807) := by have := HNS0.out; rw [hnm] at this; exact this
            clear hcu3 hc3 q1 HCU HO HC HNS0
            rw [hnm]
            clear hnm
            have HE3 := Lib.hid (heap_alloc_new w3 (.cells #[.string nm, .bool false, .int .u64 0] 130))
            have HNE : Hid (∀ q, (Value.slice Av acc.length cv).ownBlock = some q → ¬ One w3.heap.size q) := fun q hq h => by
              have h : q = w3.heap.size := h
              have := (World.ownsRow.lt HO3.out q hq).2
              omega
            have HCU4' : Hid (CU (w3.alloc (.cells #[.string nm, .bool false, .int .u64 0] 130)) g b0 (cText c2).2) := HCU3.out.no ((Chg.refl No w3).alloc _)
            have HO4' := Lib.hid (World.ownsRow.alloc HO3.out (.cells #[.string nm, .bool false, .int .u64 0] 130))
            have HC4' : Hid (Chg No w (w3.alloc (.cells #[.string nm, .bool false, .int .u64 0] 130))) := HC3.out.alloc _
            generalize hge : w3.heap.size = ge at *
            have hge2 : g < ge := by omega
            have hwge : w.heap.size ≤ ge := by omega
            clear HCU3 HO3 HC3
            go_wp2_with fail
            refine (take_cu _ g b0 (cText c2).2 1 HCU4'.out (by omega) (by omega)).mono ?_
            rintro e w4 ⟨Af, mf, cf, rfl, hbf, hblf, hcu4, hc4, hblk4⟩
            have HE4a := Lib.hid (hc4.heap HE3.out (fun h => by have h : ge = g := h; omega))
            have HO4a := Lib.hid (ownsRow_chg HO4'.out hc4 (fun q hq h => by have h : q = g := h; have := (World.ownsRow.lt HO4'.out q hq).1; omega))
            have HC4a := Lib.hid (HC4'.out.one hc4 (.inl (Nat.le_of_eq hg)))
            have HCU4a := Lib.hid hcu4
            have k1 := hcu4.wrongCell.1
            have fr1 := hcu4.wrongCell.2
            clear HCU4' HO4' HC4' HE3
            cases hw1 : (cTake 1 (cText c2).2).2.wrong with
            | true =>
              rw [hw1] at k1
              have HF4 : Hid (cFold (cText c2).2 = (false, (cTake 1 (cText c2).2).2)) := by rw [Hid, cFold, if_pos hw1]
              have hl4 := cTake_len 1 (cText c2).2
              have HCU4 := HCU4a
              have HE4 := HE4a
              have HO4 := HO4a
              have HC4 := HC4a
              clear hbf hblf hcu4 hc4 HCU4a HE4a HO4a HC4a hw1 fr1 hblk4
              generalize (cTake 1 (cText c2).2).2 = c4 at *
              go_wp2_with fail
              refine (word_cu w4 g b0 c4 HCU4.out (by omega)).mono ?_
              rintro e w5 ⟨rfl, hcu5, hc5⟩
              have HST := Lib.hid (cEnts_step k c2 acc false c4 HWF.out HF4.out)
              have hl5 := cWord_len c4
              have HCU5 := Lib.hid hcu5
              have HE5 := Lib.hid (hc5.heap HE4.out (fun h => by have h : ge = g := h; omega))
              have HO5 := Lib.hid (ownsRow_chg HO4.out hc5 (fun q hq h => by have h : q = g := h; have := (World.ownsRow.lt HO4.out q hq).1; omega))
              have HC5 := Lib.hid (HC4.out.one hc5 (.inl (Nat.le_of_eq hg)))
              have HID : Hid ((cWord c4).1 < 18446744073709551616) := word_lt c4
              clear hcu5 hc5 HCU4 HE4 HO4 HC4
              generalize (cWord c4).1 = id at *
              generalize (cWord c4).2 = c5 at *
              have e0 := cellAt HE5.out 0 _ rfl
              have e1 := cellAt HE5.out 1 _ rfl
              have e2 := cellAt HE5.out 2 _ rfl
              have f2 := frzAt HE5.out 2
              have HE6 : Hid ((w5.setCell ⟨ge, 2, none⟩ (.int .u64 (id : Int))).heap[ge]? = some (.cells #[.string nm, .bool false, .int .u64 (id : Int)] 130)) := heap_set HE5.out 2 _
              have HC6 : Hid (Chg No w (w5.setCell ⟨ge, 2, none⟩ (.int .u64 (id : Int)))) := HC5.out.setCell (.inl (by show w.heap.size ≤ ge; omega)) _
              have HCU6 : Hid (CU (w5.setCell ⟨ge, 2, none⟩ (.int .u64 (id : Int))) g b0 c5) := HCU5.out.chg (Chg.put w5 ge 2 _) (fun h => by have h : g = ge := h; omega) (fun h => by have h : b0 = ge := h; omega)
              have HO6 : Hid ((w5.setCell ⟨ge, 2, none⟩ (.int .u64 (id : Int))).ownsRow (g + 1) 130 3 (.slice Av acc.length cv) acc.length (acc.flatMap encE)) := ownsRow_chg HO5.out (Chg.put w5 ge 2 _) (fun q hq h => HNE.out q hq h)
              have own8 : Hid (((w5.setCell ⟨ge, 2, none⟩ (.int .u64 (id : Int))).alloc (.cells #[.string nm, .bool false, .int .u64 (id : Int)] 130)).ownsRow (g + 1) 130 3 (.slice Av acc.length cv) acc.length (acc.flatMap encE)) := World.ownsRow.alloc HO6.out _
              have src8 : Hid (Src Try.prog 3 53 (.slice (some ⟨w5.heap.size, 0, none⟩) 1 1) 1 (encE (nm, false, id)) ((w5.setCell ⟨ge, 2, none⟩ (.int .u64 (id : Int))).alloc (.cells #[.string nm, .bool false, .int .u64 (id : Int)] 130))) := by
                have hq := heap_alloc_new (w5.setCell ⟨ge, 2, none⟩ (.int .u64 (id : Int))) (.cells #[.string nm, .bool false, .int .u64 (id : Int)] 130)
                rw [World.size_setCell] at hq
                exact Src.entry Try.underlying53 (nm, false, id) hq
              have hsz5 : g + 1 ≤ w5.heap.size := by have := HCU5.out.lt; omega
              generalize hall : acc.length = al at *
              go_wp2_with (at_builtin; (refine wpList_app2 rfl (.tmp 60) (.tmp 62) 53 53 rfl (g + 1) 130 (.agg #[.string ⟨#[]⟩, .bool false, .int .u64 0]) 3 32 infoEnt Try.underlying53 rfl (by decide) (.slice Av al cv) (.slice (some ⟨w5.heap.size, 0, none⟩) 1 1) al 1 (acc.flatMap encE) (encE (nm, false, id)) rfl rfl ?own ?src ?b1 ?b2 ?b3 ?_; (case own => exact own8.out); (case src => exact src8.out); (case b1 => omega); (case b2 => unfold maxLen; omega); (case b3 => (simp only [World.size_alloc, World.size_setCell]; omega)); intro v8 w8 hown8 hg8 hfrom8; refine Hid.out ?_))
              refine Lib.hid ?_
              obtain ⟨A8, c8, rfl⟩ := ownsRow_form hown8
              have HC8 : Hid (Chg No w w8) := (HC6.out.alloc _).grown hg8 (fun q hq => .inl (by have := (World.ownsRow.lt HO6.out q hq).1; omega))
              have HCU8 : Hid (CU w8 g b0 c5) := (HCU6.out.no ((Chg.refl No _).alloc _)).chg (Chg.ofGrown (S := fun k => (Value.slice Av al cv).ownBlock = some k) hg8 (fun k hk => hk)) (fun h => by have := (World.ownsRow.lt HO6.out _ h).1; omega) (fun h => by have := (World.ownsRow.lt HO6.out _ h).1; omega)
              have HLL : Hid ((acc ++ [(nm, false, id)]).length = al + 1) := by rw [Hid, List.length_append, hall]; rfl
              have HO8 : Hid (w8.ownsRow (g + 1) 130 3 (.slice A8 (acc ++ [(nm, false, id)]).length c8) (acc ++ [(nm, false, id)]).length ((acc ++ [(nm, false, id)]).flatMap encE)) := by
                rw [Hid, HLL.out, List.flatMap_append]
                simpa using hown8
              have HAB8 : Hid (∀ x ∈ acc ++ [(nm, false, id)], x.1.size ≤ 9223372036854775807) := by
                intro x hx
                rcases List.mem_append.1 hx with hx | hx
                · exact HAB.out x hx
                · simp only [List.mem_cons, List.not_mem_nil, or_false] at hx
                  subst hx
                  exact HNS.out
              have HP8 : Hid (preT xs = cEnts k c5 (acc ++ [(nm, false, id)])) := by rw [Hid, HP.out, HST.out, HNM.out]
              clear hown8 hg8 hfrom8 own8 src8
              go_wp2
              go_roundw
              case rel => exact ⟨k, c5, acc ++ [(nm, false, id)], A8, c8, by omega, by first | rfl | (congr 1; omega) | (simp; omega) | simp, by rw [HLL.out], by rw [HLL.out]; omega, by omega, HP8.out, HCU8.out, HO8.out, HAB8.out, HC8.out⟩
              case measure => first | (simp [intOf]; done) | (simp [intOf]; omega) | omega
            | false =>
              rw [hw1] at k1
              obtain ⟨uf, tf, hrf, hwff, htf⟩ := take_one_form _ hw1
              rw [htf] at hbf hblf
              obtain ⟨bf, of, rfl, hcellf⟩ := hbf.addr (by simp)
              have uf0 := hcellf 0 (by simp)
              simp only [Nat.add_zero, List.getElem_cons_zero] at uf0
              have hmf : mf = 1 := hblf.symm
              subst hmf
              have HCUt : Hid (CU w4 g b0 ⟨tf, false⟩) := by have := HCU4a.out; rw [htf] at this; exact this
              have HTF := Lib.hid htf
              have hltf : tf.length ≤ (cText c2).2.rest.length := by rw [hrf]; simp
              have huf := uf.toNat_lt
              have g1 := cellAt HE4a.out 1 _ rfl
              have gf1 := frzAt HE4a.out 1
              clear hbf hblf hcu4 hc4 HCU4a hw1 hcellf hrf hwff htf
              have gne : ge ≠ g := by omega
              have uf0' : ∀ y, (w4.setCell ⟨ge, 1, none⟩ y).cell? ⟨bf, of, none⟩ = some (.int .u8 (uf.toNat : Int)) := fun y => (Chg.put w4 ge 1 y).cell uf0 (fun h => by have h : bf = ge := h; have := hblk4 _ rfl; have h2 : bf = b0 := this; omega)
              have k1' : ∀ y, (w4.setCell ⟨ge, 1, none⟩ y).cell? ⟨g, 1, none⟩ = some (.bool false) := fun y => (Chg.put w4 ge 1 y).cell k1 (fun h => by have h : g = ge := h; omega)
              have fr1' : ∀ y, (w4.setCell ⟨ge, 1, none⟩ y).frozen? ⟨g, 1, none⟩ = false := fun y => ((HCUt.out.chg (Chg.put w4 ge 1 y) (fun h => by have h : g = ge := h; omega) (fun h => by have h : b0 = ge := h; omega)).wrongCell).2
              clear hblk4
              obtain ⟨fv, hfv⟩ : ∃ fv : Bool, ((uf.toNat : Int) == 1) = fv := ⟨_, rfl⟩
              have HFV : Hid ((uf.toNat == 1) = fv) := by rw [Hid, ← hfv]; rw [Bool.eq_iff_iff]; simp; omega
              by_cases hgt : 1 < uf.toNat
              · have hgb : (1 : Int) < (uf.toNat : Int) := by omega
                have HF4 : Hid (cFold (cText c2).2 = (fv, ⟨tf, true⟩)) := by
                  rw [Hid, cFold, HTF.out]
                  simp only [List.getD_cons_zero]
                  rw [if_neg (by simp), HFV.out]
                  simp [hgt]
                have HCU4 : Hid (CU ((w4.setCell ⟨ge, 1, none⟩ (.bool fv)).setCell ⟨g, 1, none⟩ (.bool true)) g b0 ⟨tf, true⟩) := (HCUt.out.chg (Chg.put w4 ge 1 (.bool fv)) (fun h => by have h : g = ge := h; omega) (fun h => by have h : b0 = ge := h; omega)).flag true
                have HE4 : Hid (((w4.setCell ⟨ge, 1, none⟩ (.bool fv)).setCell ⟨g, 1, none⟩ (.bool true)).heap[ge]? = some (.cells #[.string nm, .bool fv, .int .u64 0] 130)) := (Chg.put _ g 1 _).heap (heap_set HE4a.out 1 (.bool fv)) (fun h => by have h : ge = g := h; omega)
                have HO4 : Hid (((w4.setCell ⟨ge, 1, none⟩ (.bool fv)).setCell ⟨g, 1, none⟩ (.bool true)).ownsRow (g + 1) 130 3 (.slice Av acc.length cv) acc.length (acc.flatMap encE)) := ownsRow_chg (ownsRow_chg HO4a.out (Chg.put w4 ge 1 _) (fun q hq h => HNE.out q hq h)) (Chg.put _ g 1 _) (fun q hq h => by have h : q = g := h; have := (World.ownsRow.lt HO4a.out q hq).1; omega)
                have HC4 : Hid (Chg No w ((w4.setCell ⟨ge, 1, none⟩ (.bool fv)).setCell ⟨g, 1, none⟩ (.bool true))) := (HC4a.out.setCell (.inl hwge) _).setCell (.inl (Nat.le_of_eq hg)) _
                obtain ⟨c4, hc4e⟩ : ∃ c4 : Cu, c4 = ⟨tf, true⟩ := ⟨_, rfl⟩
                have hl4 : c4.rest.length ≤ (cText c2).2.rest.length := by rw [hc4e]; exact hltf
                rw [← hc4e] at HCU4 HF4
                clear HE4a HO4a HC4a HCUt hgt HFV HTF hltf huf
                go_upto_region 13 with fail
                generalize (w4.setCell ⟨ge, 1, none⟩ (.bool fv)).setCell ⟨g, 1, none⟩ (.bool true) = w6 at *
                clear hc4e
                clear uf0 uf0' k1 k1' fr1 fr1' g1 gf1 hfv hgb
                go_wp2_with fail
                refine (word_cu w6 g b0 c4 HCU4.out (by omega)).mono ?_
                rintro e w5 ⟨rfl, hcu5, hc5⟩
                have HST := Lib.hid (cEnts_step k c2 acc fv c4 HWF.out HF4.out)
                have hl5 := cWord_len c4
                have HCU5 := Lib.hid hcu5
                have HE5 := Lib.hid (hc5.heap HE4.out (fun h => by have h : ge = g := h; omega))
                have HO5 := Lib.hid (ownsRow_chg HO4.out hc5 (fun q hq h => by have h : q = g := h; have := (World.ownsRow.lt HO4.out q hq).1; omega))
                have HC5 := Lib.hid (HC4.out.one hc5 (.inl (Nat.le_of_eq hg)))
                have HID : Hid ((cWord c4).1 < 18446744073709551616) := word_lt c4
                clear hcu5 hc5 HCU4 HE4 HO4 HC4
                generalize (cWord c4).1 = id at *
                generalize (cWord c4).2 = c5 at *
                have e0 := cellAt HE5.out 0 _ rfl
                have e1 := cellAt HE5.out 1 _ rfl
                have e2 := cellAt HE5.out 2 _ rfl
                have f2 := frzAt HE5.out 2
                have HE6 : Hid ((w5.setCell ⟨ge, 2, none⟩ (.int .u64 (id : Int))).heap[ge]? = some (.cells #[.string nm, .bool fv, .int .u64 (id : Int)] 130)) := heap_set HE5.out 2 _
                have HC6 : Hid (Chg No w (w5.setCell ⟨ge, 2, none⟩ (.int .u64 (id : Int)))) := HC5.out.setCell (.inl (by show w.heap.size ≤ ge; omega)) _
                have HCU6 : Hid (CU (w5.setCell ⟨ge, 2, none⟩ (.int .u64 (id : Int))) g b0 c5) := HCU5.out.chg (Chg.put w5 ge 2 _) (fun h => by have h : g = ge := h; omega) (fun h => by have h : b0 = ge := h; omega)
                have HO6 : Hid ((w5.setCell ⟨ge, 2, none⟩ (.int .u64 (id : Int))).ownsRow (g + 1) 130 3 (.slice Av acc.length cv) acc.length (acc.flatMap encE)) := ownsRow_chg HO5.out (Chg.put w5 ge 2 _) (fun q hq h => HNE.out q hq h)
                have own8 : Hid (((w5.setCell ⟨ge, 2, none⟩ (.int .u64 (id : Int))).alloc (.cells #[.string nm, .bool fv, .int .u64 (id : Int)] 130)).ownsRow (g + 1) 130 3 (.slice Av acc.length cv) acc.length (acc.flatMap encE)) := World.ownsRow.alloc HO6.out _
                have src8 : Hid (Src Try.prog 3 53 (.slice (some ⟨w5.heap.size, 0, none⟩) 1 1) 1 (encE (nm, fv, id)) ((w5.setCell ⟨ge, 2, none⟩ (.int .u64 (id : Int))).alloc (.cells #[.string nm, .bool fv, .int .u64 (id : Int)] 130))) := by
                  have hq := heap_alloc_new (w5.setCell ⟨ge, 2, none⟩ (.int .u64 (id : Int))) (.cells #[.string nm, .bool fv, .int .u64 (id : Int)] 130)
                  rw [World.size_setCell] at hq
                  exact Src.entry Try.underlying53 (nm, fv, id) hq
                have hsz5 : g + 1 ≤ w5.heap.size := by have := HCU5.out.lt; omega
                generalize hall : acc.length = al at *
                go_wp2_with (at_builtin; (refine wpList_app2 rfl (.tmp 60) (.tmp 62) 53 53 rfl (g + 1) 130 (.agg #[.string ⟨#[]⟩, .bool false, .int .u64 0]) 3 32 infoEnt Try.underlying53 rfl (by decide) (.slice Av al cv) (.slice (some ⟨w5.heap.size, 0, none⟩) 1 1) al 1 (acc.flatMap encE) (encE (nm, fv, id)) rfl rfl ?own ?src ?b1 ?b2 ?b3 ?_; (case own => exact own8.out); (case src => exact src8.out); (case b1 => omega); (case b2 => unfold maxLen; omega); (case b3 => (simp only [World.size_alloc, World.size_setCell]; omega)); intro v8 w8 hown8 hg8 hfrom8; refine Hid.out ?_))
                refine Lib.hid ?_
                obtain ⟨A8, c8, rfl⟩ := ownsRow_form hown8
                have HC8 : Hid (Chg No w w8) := (HC6.out.alloc _).grown hg8 (fun q hq => .inl (by have := (World.ownsRow.lt HO6.out q hq).1; omega))
                have HCU8 : Hid (CU w8 g b0 c5) := (HCU6.out.no ((Chg.refl No _).alloc _)).chg (Chg.ofGrown (S := fun k => (Value.slice Av al cv).ownBlock = some k) hg8 (fun k hk => hk)) (fun h => by have := (World.ownsRow.lt HO6.out _ h).1; omega) (fun h => by have := (World.ownsRow.lt HO6.out _ h).1; omega)
                have HLL : Hid ((acc ++ [(nm, fv, id)]).length = al + 1) := by rw [Hid, List.length_append, hall]; rfl
                have HO8 : Hid (w8.ownsRow (g + 1) 130 3 (.slice A8 (acc ++ [(nm, fv, id)]).length c8) (acc ++ [(nm, fv, id)]).length ((acc ++ [(nm, fv, id)]).flatMap encE)) := by
                  rw [Hid, HLL.out, List.flatMap_append]
                  simpa using hown8
                have HAB8 : Hid (∀ x ∈ acc ++ [(nm, fv, id)], x.1.size ≤ 9223372036854775807) := by
                  intro x hx
                  rcases List.mem_append.1 hx with hx | hx
                  · exact HAB.out x hx
                  · simp only [List.mem_cons, List.not_mem_nil, or_false] at hx
                    subst hx
                    exact HNS.out
                have HP8 : Hid (preT xs = cEnts k c5 (acc ++ [(nm, fv, id)])) := by rw [Hid, HP.out, HST.out, HNM.out]
                clear hown8 hg8 hfrom8 own8 src8
                go_wp2
                go_roundw
                case rel => exact ⟨k, c5, acc ++ [(nm, fv, id)], A8, c8, by omega, by first | rfl | (congr 1; omega) | (simp; omega) | simp, by rw [HLL.out], by rw [HLL.out]; omega, by omega, HP8.out, HCU8.out, HO8.out, HAB8.out, HC8.out⟩
                case measure => first | (simp [intOf]; done) | (simp [intOf]; omega) | omega
              · have hgb : decide ((1 : Int) < (uf.toNat : Int)) = false := by rw [decide_eq_false_iff_not]; omega
                have HF4 : Hid (cFold (cText c2).2 = (fv, ⟨tf, false⟩)) := by
                  rw [Hid, cFold, HTF.out]
                  simp only [List.getD_cons_zero]
                  rw [if_neg (by simp), HFV.out]
                  simp [hgt]
                have HCU4 : Hid (CU ((w4.setCell ⟨ge, 1, none⟩ (.bool fv)).setCell ⟨g, 1, none⟩ (.bool false)) g b0 ⟨tf, false⟩) := (HCUt.out.chg (Chg.put w4 ge 1 (.bool fv)) (fun h => by have h : g = ge := h; omega) (fun h => by have h : b0 = ge := h; omega)).flag false
                have HE4 : Hid (((w4.setCell ⟨ge, 1, none⟩ (.bool fv)).setCell ⟨g, 1, none⟩ (.bool false)).heap[ge]? = some (.cells #[.string nm, .bool fv, .int .u64 0] 130)) := (Chg.put _ g 1 _).heap (heap_set HE4a.out 1 (.bool fv)) (fun h => by have h : ge = g := h; omega)
                have HO4 : Hid (((w4.setCell ⟨ge, 1, none⟩ (.bool fv)).setCell ⟨g, 1, none⟩ (.bool false)).ownsRow (g + 1) 130 3 (.slice Av acc.length cv) acc.length (acc.flatMap encE)) := ownsRow_chg (ownsRow_chg HO4a.out (Chg.put w4 ge 1 _) (fun q hq h => HNE.out q hq h)) (Chg.put _ g 1 _) (fun q hq h => by have h : q = g := h; have := (World.ownsRow.lt HO4a.out q hq).1; omega)
                have HC4 : Hid (Chg No w ((w4.setCell ⟨ge, 1, none⟩ (.bool fv)).setCell ⟨g, 1, none⟩ (.bool false))) := (HC4a.out.setCell (.inl hwge) _).setCell (.inl (Nat.le_of_eq hg)) _
                obtain ⟨c4, hc4e⟩ : ∃ c4 : Cu, c4 = ⟨tf, false⟩ := ⟨_, rfl⟩
                have hl4 : c4.rest.length ≤ (cText c2).2.rest.length := by rw [hc4e]; exact hltf
                rw [← hc4e] at HCU4 HF4
                clear HE4a HO4a HC4a HCUt hgt HFV HTF hltf huf
                go_upto_region 13 with fail
                generalize (w4.setCell ⟨ge, 1, none⟩ (.bool fv)).setCell ⟨g, 1, none⟩ (.bool false) = w6 at *
                clear hc4e
                clear uf0 uf0' k1 k1' fr1 fr1' g1 gf1 hfv hgb
                go_wp2_with fail
                refine (word_cu w6 g b0 c4 HCU4.out (by omega)).mono ?_
                rintro e w5 ⟨rfl, hcu5, hc5⟩
                have HST := Lib.hid (cEnts_step k c2 acc fv c4 HWF.out HF4.out)
                have hl5 := cWord_len c4
                have HCU5 := Lib.hid hcu5
                have HE5 := Lib.hid (hc5.heap HE4.out (fun h => by have h : ge = g := h; omega))
                have HO5 := Lib.hid (ownsRow_chg HO4.out hc5 (fun q hq h => by have h : q = g := h; have := (World.ownsRow.lt HO4.out q hq).1; omega))
                have HC5 := Lib.hid (HC4.out.one hc5 (.inl (Nat.le_of_eq hg)))
                have HID : Hid ((cWord c4).1 < 18446744073709551616) := word_lt c4
                clear hcu5 hc5 HCU4 HE4 HO4 HC4
                generalize (cWord c4).1 = id at *
                generalize (cWord c4).2 = c5 at *
                have e0 := cellAt HE5.out 0 _ rfl
                have e1 := cellAt HE5.out 1 _ rfl
                have e2 := cellAt HE5.out 2 _ rfl
                have f2 := frzAt HE5.out 2
                have HE6 : Hid ((w5.setCell ⟨ge, 2, none⟩ (.int .u64 (id : Int))).heap[ge]? = some (.cells #[.string nm, .bool fv, .int .u64 (id : Int)] 130)) := heap_set HE5.out 2 _
                have HC6 : Hid (Chg No w (w5.setCell ⟨ge, 2, none⟩ (.int .u64 (id : Int)))) := HC5.out.setCell (.inl (by show w.heap.size ≤ ge; omega)) _
                have HCU6 : Hid (CU (w5.setCell ⟨ge, 2, none⟩ (.int .u64 (id : Int))) g b0 c5) := HCU5.out.chg (Chg.put w5 ge 2 _) (fun h => by have h : g = ge := h; omega) (fun h => by have h : b0 = ge := h; omega)
                have HO6 : Hid ((w5.setCell ⟨ge, 2, none⟩ (.int .u64 (id : Int))).ownsRow (g + 1) 130 3 (.slice Av acc.length cv) acc.length (acc.flatMap encE)) := ownsRow_chg HO5.out (Chg.put w5 ge 2 _) (fun q hq h => HNE.out q hq h)
                have own8 : Hid (((w5.setCell ⟨ge, 2, none⟩ (.int .u64 (id : Int))).alloc (.cells #[.string nm, .bool fv, .int .u64 (id : Int)] 130)).ownsRow (g + 1) 130 3 (.slice Av acc.length cv) acc.length (acc.flatMap encE)) := World.ownsRow.alloc HO6.out _
                have src8 : Hid (Src Try.prog 3 53 (.slice (some ⟨w5.heap.size, 0, none⟩) 1 1) 1 (encE (nm, fv, id)) ((w5.setCell ⟨ge, 2, none⟩ (.int .u64 (id : Int))).alloc (.cells #[.string nm, .bool fv, .int .u64 (id : Int)] 130))) := by
                  have hq := heap_alloc_new (w5.setCell ⟨ge, 2, none⟩ (.int .u64 (id : Int))) (.cells #[.string nm, .bool fv, .int .u64 (id : Int)] 130)
                  rw [World.size_setCell] at hq
                  exact Src.entry Try.underlying53 (nm, fv, id) hq
                have hsz5 : g + 1 ≤ w5.heap.size := by have := HCU5.out.lt; omega
                generalize hall : acc.length = al at *
                go_wp2_with (at_builtin; (refine wpList_app2 rfl (.tmp 60) (.tmp 62) 53 53 rfl (g + 1) 130 (.agg #[.string ⟨#[]⟩, .bool false, .int .u64 0]) 3 32 infoEnt Try.underlying53 rfl (by decide) (.slice Av al cv) (.slice (some ⟨w5.heap.size, 0, none⟩) 1 1) al 1 (acc.flatMap encE) (encE (nm, fv, id)) rfl rfl ?own ?src ?b1 ?b2 ?b3 ?_; (case own => exact own8.out); (case src => exact src8.out); (case b1 => omega); (case b2 => unfold maxLen; omega); (case b3 => (simp only [World.size_alloc, World.size_setCell]; omega)); intro v8 w8 hown8 hg8 hfrom8; refine Hid.out ?_))
                refine Lib.hid ?_
                obtain ⟨A8, c8, rfl⟩ := ownsRow_form hown8
                have HC8 : Hid (Chg No w w8) := (HC6.out.alloc _).grown hg8 (fun q hq => .inl (by have := (World.ownsRow.lt HO6.out q hq).1; omega))
                have HCU8 : Hid (CU w8 g b0 c5) := (HCU6.out.no ((Chg.refl No _).alloc _)).chg (Chg.ofGrown (S := fun k => (Value.slice Av al cv).ownBlock = some k) hg8 (fun k hk => hk)) (fun h => by have := (World.ownsRow.lt HO6.out _ h).1; omega) (fun h => by have := (World.ownsRow.lt HO6.out _ h).1; omega)
                have HLL : Hid ((acc ++ [(nm, fv, id)]).length = al + 1) := by rw [Hid, List.length_append, hall]; rfl
                have HO8 : Hid (w8.ownsRow (g + 1) 130 3 (.slice A8 (acc ++ [(nm, fv, id)]).length c8) (acc ++ [(nm, fv, id)]).length ((acc ++ [(nm, fv, id)]).flatMap encE)) := by
                  rw [Hid, HLL.out, List.flatMap_append]
                  simpa using hown8
                have HAB8 : Hid (∀ x ∈ acc ++ [(nm, fv, id)], x.1.size ≤ 9223372036854775807) := by
                  intro x hx
                  rcases List.mem_append.1 hx with hx | hx
                  · exact HAB.out x hx
                  · simp only [List.mem_cons, List.not_mem_nil, or_false] at hx
                    subst hx
                    exact HNS.out
                have HP8 : Hid (preT xs = cEnts k c5 (acc ++ [(nm, fv, id)])) := by rw [Hid, HP.out, HST.out, HNM.out]
                clear hown8 hg8 hfrom8 own8 src8
                go_wp2
                go_roundw
                case rel => exact ⟨k, c5, acc ++ [(nm, fv, id)], A8, c8, by omega, by first | rfl | (congr 1; omega) | (simp; omega) | simp, by rw [HLL.out], by rw [HLL.out]; omega, by omega, HP8.out, HCU8.out, HO8.out, HAB8.out, HC8.out⟩
                case measure => first | (simp [intOf]; done) | (simp [intOf]; omega) | omega
    · rw [if_neg hc1] at hdr0
      have HCU1 : Hid (CU (w.alloc (.cells #[.slice (some ⟨b0, o0 + 1, none⟩) (n - 1) (c - 1), .bool false] 152)) g b0 ⟨xs.drop 1, false⟩) := by
        have := CU.start (d := b0) hdr0 hlen1 (by intro p hp; cases hp; rfl) (by omega)
        rw [hg] at this; exact this
      have HC1 : Hid (Chg No w (w.alloc (.cells #[.slice (some ⟨b0, o0 + 1, none⟩) (n - 1) (c - 1), .bool false] 152))) := (Chg.refl No w).alloc _
      clear hdr0 hlen1
      go_enter Try.func62, Try.ntmps62
      go_upto_region 4 with fail
      generalize hw1 : w.alloc (.cells #[.slice (some ⟨b0, o0 + 1, none⟩) (n - 1) (c - 1), .bool false] 152) = w1 at *
      clear hx0 hw1
      go_wp2_with fail
      refine (num_cu w1 g b0 ⟨xs.drop 1, false⟩ HCU1.out (by show (xs.drop 1).length ≤ 1000000; rw [List.length_drop, HL.out]; omega)).mono ?_
      rintro e w2 ⟨rfl, hcu2, hc2⟩
      obtain ⟨hnl, hn16⟩ := num_len ⟨xs.drop 1, false⟩
      have hnl2 : (cNum ⟨xs.drop 1, false⟩).2.rest.length ≤ 16384 := Nat.le_trans hnl (by show (xs.drop 1).length ≤ 16384; rw [List.length_drop, HL.out]; omega)
      have HC2 := Lib.hid (HC1.out.one hc2 (.inl (Nat.le_of_eq hg)))
      have HCU2 := Lib.hid hcu2
      have HPT : Hid (preT xs = cEnts (cNum ⟨xs.drop 1, false⟩).1 (cNum ⟨xs.drop 1, false⟩).2 []) := rfl
      clear hcu2 hc2 HCU1 HC1 hnl
      generalize (cNum ⟨xs.drop 1, false⟩).1 = kn at *
      generalize (cNum ⟨xs.drop 1, false⟩).2 = cn at *
      have HGW : g + 1 ≤ w2.heap.size := HCU2.out.lt
      go_wp2
      go_loopw [5, 6] (fun l i wr => ∃ (k : Nat) (c2 : Cu) (acc : List Ent) (Av : Option Addr) (cv : Nat), k < 16384 ∧ i = .int .i64 (k : Int) ∧ l = .slice Av acc.length cv ∧ acc.length + k ≤ 16384 ∧ c2.rest.length ≤ 16384 ∧ Hid (preT xs = cEnts k c2 acc) ∧ Hid (CU wr g b0 c2) ∧ Hid (wr.ownsRow (g + 1) 130 3 (.slice Av acc.length cv) acc.length (acc.flatMap encE)) ∧ Hid (∀ x ∈ acc, x.1.size ≤ 9223372036854775807) ∧ Hid (Chg No w wr)) (fun _ i _ => (intOf i).toNat)
      case atStart => exact ⟨kn, cn, [], none, 0, hn16, rfl, rfl, by simp; omega, hnl2, HPT.out, HCU2.out, World.ownsRow_nil _ _ _ _, (fun _ h => by cases h), HC2.out⟩
      case round =>
        obtain ⟨k0, c2, acc, Av, cv, hk, rfl, rfl, hal, hl2, HP0, HCU, HO, HAB, HC⟩ := hrel
        by_cases hk0 : k0 = 0
        · have HP : Hid (preT xs = (acc, c2)) := by rw [Hid, HP0.out, cEnts_stop _ _ _ (.inl hk0)]
          have hkb : ¬ (0 : Int) < (k0 : Int) := by omega
          clear hk0
          cases hwq : c2.wrong with
          | true =>
            have hwt := hwq
            clear hwq
            have HR : Hid (asTree xs = none) := by rw [Hid, HNT.out, HP.out, if_pos (.inl hwt)]
            obtain ⟨Ac, capc, hcc⟩ := HCU.out.cells
            have q0 := cellAt hcc 0 _ rfl
            have q1 := cellAt hcc 1 _ rfl
            rw [hwt] at q1
            clear hcc hwt
            go_wp2
            go_ret2
            exact ⟨none, 0, 0, by rw [HR.out]; rfl, (by rw [HR.out]; intro l h; cases h), HC.out⟩
          | false =>
            have hwf := hwq
            clear hwq
            obtain ⟨Ac, capc, hcc⟩ := HCU.out.cells
            have q0 := cellAt hcc 0 _ rfl
            have q1 := cellAt hcc 1 _ rfl
            rw [hwf] at q1
            clear hcc
            by_cases hr : c2.rest.length = 0
            · have hrb : ¬ (0 : Int) < (c2.rest.length : Int) := by omega
              have HRE : Hid (c2.rest = []) := List.eq_nil_of_length_eq_zero hr
              rw [hr] at q0
              have hck := refcheck_tree wr Av acc.length cv acc (esOwn2 HO.out) (fun x hx => HAB.out x hx) (by omega)
              generalize hz : treeF acc = F at *
              have HCK := Lib.hid hck
              by_cases hF : F = 0
              · subst hF
                have HR : Hid (asTree xs = some acc) := by rw [Hid, HNT.out, HP.out, if_neg (by rw [hwf, HRE.out, hz]; simp)]
                have HACC := Lib.hid (esOwn2 HO.out)
                clear hwf hz hck hr hrb
                generalize acc.length = al at *
                go_wp2_with fail
                refine HCK.out.mono ?_
                rintro e w9 ⟨rfl, hc9⟩
                have HA9 := Lib.hid (HACC.out.no hc9)
                have HC9 := Lib.hid (HC.out.no hc9)
                go_wp2
                go_ret2
                exact ⟨_, _, _, by rw [HR.out]; rfl, (by rw [HR.out]; intro l h; cases h; exact HA9.out), HC9.out⟩
              · have HR : Hid (asTree xs = none) := by rw [Hid, HNT.out, HP.out, if_pos (.inr (.inr (by rw [hz]; exact hF)))]
                have hFb : (F != 0) = true := by simpa using hF
                clear hwf hz hck hr hrb hF
                generalize acc.length = al at *
                go_wp2_with fail
                refine HCK.out.mono ?_
                rintro e w9 ⟨rfl, hc9⟩
                have HC9 := Lib.hid (HC.out.no hc9)
                go_wp2
                go_ret2
                exact ⟨none, 0, 0, by rw [HR.out]; rfl, (by rw [HR.out]; intro l h; cases h), HC9.out⟩
            · have hrb : (0 : Int) < (c2.rest.length : Int) := by omega
              have HR : Hid (asTree xs = none) := by rw [Hid, HNT.out, HP.out, if_pos (.inr (.inl (fun h => hr (by rw [h]; rfl))))]
              clear hwf hr
              generalize c2.rest.length = rl at *
              go_wp2
              go_ret2
              exact ⟨none, 0, 0, by rw [HR.out]; rfl, (by rw [HR.out]; intro l h; cases h), HC.out⟩
        · obtain ⟨k, rfl⟩ : ∃ k, k0 = k + 1 := ⟨k0 - 1, by omega⟩
          have hkb : (0 : Int) < ((k + 1 : Nat) : Int) := by omega
          clear hk0
          cases hwq : c2.wrong with
          | true =>
            have hwt := hwq
            clear hwq
            have HP : Hid (preT xs = (acc, c2)) := by rw [Hid, HP0.out, cEnts_stop _ _ _ (.inr hwt)]
            have HR : Hid (asTree xs = none) := by rw [Hid, HNT.out, HP.out, if_pos (.inl hwt)]
            obtain ⟨Ac, capc, hcc⟩ := HCU.out.cells
            have q0 := cellAt hcc 0 _ rfl
            have q1 := cellAt hcc 1 _ rfl
            rw [hwt] at q1
            clear hcc hwt
            go_wp2
            go_ret2
            exact ⟨none, 0, 0, by rw [HR.out]; rfl, (by rw [HR.out]; intro l h; cases h), HC.out⟩
          | false =>
            have HWF := Lib.hid hwq
            obtain ⟨Ac, capc, hcc⟩ := HCU.out.cells
            have q1 := cellAt hcc 1 _ rfl
            rw [hwq] at q1
            have HP := HP0
            clear hcc hwq HP0
            go_wp2_with fail
            refine (text_cu wr g b0 c2 HCU.out (by omega)).mono ?_
            rintro e w3 ⟨rfl, hcu3, hc3⟩
            have hl3 := cText_len c2
            have HCU3 := Lib.hid hcu3
            have HC3 := Lib.hid (HC.out.one hc3 (.inl (Nat.le_of_eq hg)))
            have HO3 := Lib.hid (ownsRow_chg HO.out hc3 (fun q hq h => by have h : q = g := h; have := (World.ownsRow.lt HO.out q hq).1; omega))
            have hg3 : g < w3.heap.size := HCU3.out.lt
            have HNS0 : Hid ((mkS (cText c2).1).size ≤ 9223372036854775807) := by
              rw [Hid, mkS_size]
              have h1 : (cText c2).1.length ≤ c2.rest.length := cText_get c2
              omega
            obtain ⟨nm, hnm⟩ : ∃ nm, mkS (cText c2).1 = nm := ⟨_, rfl⟩
            have HNM := Lib.hid hnm
            have HNS : Hid (nm.size ≤ 9223372036854775807) := by have := HNS0.out; rw [hnm] at this; exact this
            clear hcu3 hc3 q1 HCU HO HC HNS0
            rw [hnm]
            clear hnm
            have HE3 := Lib.hid (heap_alloc_new w3 (.cells #[.string nm, .bool false, .int .u64 0] 130))
            have HNE : Hid (∀ q, (Value.slice Av acc.length cv).ownBlock = some q → ¬ One w3.heap.size q) := fun q hq h => by
              have h : q = w3.heap.size := h
              have := (World.ownsRow.lt HO3.out q hq).2
              omega
            have HCU4' : Hid (CU (w3.alloc (.cells #[.string nm, .bool false, .int .u64 0] 130)) g b0 (cText c2).2) := HCU3.out.no ((Chg.refl No w3).alloc _)
            have HO4' := Lib.hid (World.ownsRow.alloc HO3.out (.cells #[.string nm, .bool false, .int .u64 0] 130))
            have HC4' : Hid (Chg No w (w3.alloc (.cells #[.string nm, .bool false, .int .u64 0] 130))) := HC3.out.alloc _
            generalize hge : w3.heap.size = ge at *
            have hge2 : g < ge := by omega
            have hwge : w.heap.size ≤ ge := by omega
            clear HCU3 HO3 HC3
            go_wp2_with fail
            refine (take_cu _ g b0 (cText c2).2 1 HCU4'.out (by omega) (by omega)).mono ?_
            rintro e w4 ⟨Af, mf, cf, rfl, hbf, hblf, hcu4, hc4, hblk4⟩
            have HE4a := Lib.hid (hc4.heap HE3.out (fun h => by have h : ge = g := h; omega))
            have HO4a := Lib.hid (ownsRow_chg HO4'.out hc4 (fun q hq h => by have h : q = g := h; have := (World.ownsRow.lt HO4'.out q hq).1; omega))
            have HC4a := Lib.hid (HC4'.out.one hc4 (.inl (Nat.le_of_eq hg)))
            have HCU4a := Lib.hid hcu4
            have k1 := hcu4.wrongCell.1
            have fr1 := hcu4.wrongCell.2
            clear HCU4' HO4' HC4' HE3
            cases hw1 : (cTake 1 (cText c2).2).2.wrong with
            | true =>
              rw [hw1] at k1
              have HF4 : Hid (cFold (cText c2).2 = (false, (cTake 1 (cText c2).2).2)) := by rw [Hid, cFold, if_pos hw1]
              have hl4 := cTake_len 1 (cText c2).2
              have HCU4 := HCU4a
              have HE4 := HE4a
              have HO4 := HO4a
              have HC4 := HC4a
              clear hbf hblf hcu4 hc4 HCU4a HE4a HO4a HC4a hw1 fr1 hblk4
              generalize (cTake 1 (cText c2).2).2 = c4 at *
              go_wp2_with fail
              refine (word_cu w4 g b0 c4 HCU4.out (by omega)).mono ?_
              rintro e w5 ⟨rfl, hcu5, hc5⟩
              have HST := Lib.hid (cEnts_step k c2 acc false c4 HWF.out HF4.out)
              have hl5 := cWord_len c4
              have HCU5 := Lib.hid hcu5
              have HE5 := Lib.hid (hc5.heap HE4.out (fun h => by have h : ge = g := h; omega))
              have HO5 := Lib.hid (ownsRow_chg HO4.out hc5 (fun q hq h => by have h : q = g := h; have := (World.ownsRow.lt HO4.out q hq).1; omega))
              have HC5 := Lib.hid (HC4.out.one hc5 (.inl (Nat.le_of_eq hg)))
              have HID : Hid ((cWord c4).1 < 18446744073709551616) := word_lt c4
              clear hcu5 hc5 HCU4 HE4 HO4 HC4
              generalize (cWord c4).1 = id at *
              generalize (cWord c4).2 = c5 at *
              have e0 := cellAt HE5.out 0 _ rfl
              have e1 := cellAt HE5.out 1 _ rfl
              have e2 := cellAt HE5.out 2 _ rfl
              have f2 := frzAt HE5.out 2
              have HE6 : Hid ((w5.setCell ⟨ge, 2, none⟩ (.int .u64 (id : Int))).heap[ge]? = some (.cells #[.string nm, .bool false, .int .u64 (id : Int)] 130)) := heap_set HE5.out 2 _
              have HC6 : Hid (Chg No w (w5.setCell ⟨ge, 2, none⟩ (.int .u64 (id : Int)))) := HC5.out.setCell (.inl (by show w.heap.size ≤ ge; omega)) _
              have HCU6 : Hid (CU (w5.setCell ⟨ge, 2, none⟩ (.int .u64 (id : Int))) g b0 c5) := HCU5.out.chg (Chg.put w5 ge 2 _) (fun h => by have h : g = ge := h; omega) (fun h => by have h : b0 = ge := h; omega)
              have HO6 : Hid ((w5.setCell ⟨ge, 2, none⟩ (.int .u64 (id : Int))).ownsRow (g + 1) 130 3 (.slice Av acc.length cv) acc.length (acc.flatMap encE)) := ownsRow_chg HO5.out (Chg.put w5 ge 2 _) (fun q hq h => HNE.out q hq h)
              have own8 : Hid (((w5.setCell ⟨ge, 2, none⟩ (.int .u64 (id : Int))).alloc (.cells #[.string nm, .bool false, .int .u64 (id : Int)] 130)).ownsRow (g + 1) 130 3 (.slice Av acc.length cv) acc.length (acc.flatMap encE)) := World.ownsRow.alloc HO6.out _
              have src8 : Hid (Src Try.prog 3 53 (.slice (some ⟨w5.heap.size, 0, none⟩) 1 1) 1 (encE (nm, false, id)) ((w5.setCell ⟨ge, 2, none⟩ (.int .u64 (id : Int))).alloc (.cells #[.string nm, .bool false, .int .u64 (id : Int)] 130))) := by
                have hq := heap_alloc_new (w5.setCell ⟨ge, 2, none⟩ (.int .u64 (id : Int))) (.cells #[.string nm, .bool false, .int .u64 (id : Int)] 130)
                rw [World.size_setCell] at hq
                exact Src.entry Try.underlying53 (nm, false, id) hq
              have hsz5 : g + 1 ≤ w5.heap.size := by have := HCU5.out.lt; omega
              generalize hall : acc.length = al at *
              go_wp2_with (at_builtin; (refine wpList_app2 rfl (.tmp 60) (.tmp 62) 53 53 rfl (g + 1) 130 (.agg #[.string ⟨#[]⟩, .bool false, .int .u64 0]) 3 32 infoEnt Try.underlying53 rfl (by decide) (.slice Av al cv) (.slice (some ⟨w5.heap.size, 0, none⟩) 1 1) al 1 (acc.flatMap encE) (encE (nm, false, id)) rfl rfl ?own ?src ?b1 ?b2 ?b3 ?_; (case own => exact own8.out); (case src => exact src8.out); (case b1 => omega); (case b2 => unfold maxLen; omega); (case b3 => (simp only [World.size_alloc, World.size_setCell]; omega)); intro v8 w8 hown8 hg8 hfrom8; refine Hid.out ?_))
              refine Lib.hid ?_
              obtain ⟨A8, c8, rfl⟩ := ownsRow_form hown8
              have HC8 : Hid (Chg No w w8) := (HC6.out.alloc _).grown hg8 (fun q hq => .inl (by have := (World.ownsRow.lt HO6.out q hq).1; omega))
              have HCU8 : Hid (CU w8 g b0 c5) := (HCU6.out.no ((Chg.refl No _).alloc _)).chg (Chg.ofGrown (S := fun k => (Value.slice Av al cv).ownBlock = some k) hg8 (fun k hk => hk)) (fun h => by have := (World.ownsRow.lt HO6.out _ h).1; omega) (fun h => by have := (World.ownsRow.lt HO6.out _ h).1; omega)
              have HLL : Hid ((acc ++ [(nm, false, id)]).length = al + 1) := by rw [Hid, List.length_append, hall]; rfl
              have HO8 : Hid (w8.ownsRow (g + 1) 130 3 (.slice A8 (acc ++ [(nm, false, id)]).length c8) (acc ++ [(nm, false, id)]).length ((acc ++ [(nm, false, id)]).flatMap encE)) := by
                rw [Hid, HLL.out, List.flatMap_append]
                simpa using hown8
              have HAB8 : Hid (∀ x ∈ acc ++ [(nm, false, id)], x.1.size ≤ 9223372036854775807) := by
                intro x hx
                rcases List.mem_append.1 hx with hx | hx
                · exact HAB.out x hx
                · simp only [List.mem_cons, List.not_mem_nil, or_false] at hx
                  subst hx
                  exact HNS.out
              have HP8 : Hid (preT xs = cEnts k c5 (acc ++ [(nm, false, id)])) := by rw [Hid, HP.out, HST.out, HNM.out]
              clear hown8 hg8 hfrom8 own8 src8
              go_wp2
              go_roundw
              case rel => exact ⟨k, c5, acc ++ [(nm, false, id)], A8, c8, by omega, by first | rfl | (congr 1; omega) | (simp; omega) | simp, by rw [HLL.out], by rw [HLL.out]; omega, by omega, HP8.out, HCU8.out, HO8.out, HAB8.out, HC8.out⟩
              case measure => first | (simp [intOf]; done) | (simp [intOf]; omega) | omega
            | false =>
              rw [hw1] at k1
              obtain ⟨uf, tf, hrf, hwff, htf⟩ := take_one_form _ hw1
              rw [htf] at hbf hblf
              obtain ⟨bf, of, rfl, hcellf⟩ := hbf.addr (by simp)
              have uf0 := hcellf 0 (by simp)
              simp only [Nat.add_zero, List.getElem_cons_zero] at uf0
              have hmf : mf = 1 := hblf.symm
              subst hmf
              have HCUt : Hid (CU w4 g b0 ⟨tf, false⟩) := by have := HCU4a.out; rw [htf] at this; exact this
              have HTF := Lib.hid htf
              have hltf : tf.length ≤ (cText c2).2.rest.length := by rw [hrf]; simp
              have huf := uf.toNat_lt
              have g1 := cellAt HE4a.out 1 _ rfl
              have gf1 := frzAt HE4a.out 1
              clear hbf hblf hcu4 hc4 HCU4a hw1 hcellf hrf hwff htf
              have gne : ge ≠ g := by omega
              have uf0' : ∀ y, (w4.setCell ⟨ge, 1, none⟩ y).cell? ⟨bf, of, none⟩ = some (.int .u8 (uf.toNat : Int)) := fun y => (Chg.put w4 ge 1 y).cell uf0 (fun h => by have h : bf = ge := h; have := hblk4 _ rfl; have h2 : bf = b0 := this; omega)
              have k1' : ∀ y, (w4.setCell ⟨ge, 1, none⟩ y).cell? ⟨g, 1, none⟩ = some (.bool false) := fun y => (Chg.put w4 ge 1 y).cell k1 (fun h => by have h : g = ge := h; omega)
              have fr1' : ∀ y, (w4.setCell ⟨ge, 1, none⟩ y).frozen? ⟨g, 1, none⟩ = false := fun y => ((HCUt.out.chg (Chg.put w4 ge 1 y) (fun h => by have h : g = ge := h; omega) (fun h => by have h : b0 = ge := h; omega)).wrongCell).2
              clear hblk4
              obtain ⟨fv, hfv⟩ : ∃ fv : Bool, ((uf.toNat : Int) == 1) = fv := ⟨_, rfl⟩
              have HFV : Hid ((uf.toNat == 1) = fv) := by rw [Hid, ← hfv]; rw [Bool.eq_iff_iff]; simp; omega
              by_cases hgt : 1 < uf.toNat
              · have hgb : (1 : Int) < (uf.toNat : Int) := by omega
                have HF4 : Hid (cFold (cText c2).2 = (fv, ⟨tf, true⟩)) := by
                  rw [Hid, cFold, HTF.out]
                  simp only [List.getD_cons_zero]
                  rw [if_neg (by simp), HFV.out]
                  simp [hgt]
                have HCU4 : Hid (CU ((w4.setCell ⟨ge, 1, none⟩ (.bool fv)).setCell ⟨g, 1, none⟩ (.bool true)) g b0 ⟨tf, true⟩) := (HCUt.out.chg (Chg.put w4 ge 1 (.bool fv)) (fun h => by have h : g = ge := h; omega) (fun h => by have h : b0 = ge := h; omega)).flag true
                have HE4 : Hid (((w4.setCell ⟨ge, 1, none⟩ (.bool fv)).setCell ⟨g, 1, none⟩ (.bool true)).heap[ge]? = some (.cells #[.string nm, .bool fv, .int .u64 0] 130)) := (Chg.put _ g 1 _).heap (heap_set HE4a.out 1 (.bool fv)) (fun h => by have h : ge = g := h; omega)
                have HO4 : Hid (((w4.setCell ⟨ge, 1, none⟩ (.bool fv)).setCell ⟨g, 1, none⟩ (.bool true)).ownsRow (g + 1) 130 3 (.slice Av acc.length cv) acc.length (acc.flatMap encE)) := ownsRow_chg (ownsRow_chg HO4a.out (Chg.put w4 ge 1 _) (fun q hq h => HNE.out q hq h)) (Chg.put _ g 1 _) (fun q hq h => by have h : q = g := h; have := (World.ownsRow.lt HO4a.out q hq).1; omega)
                have HC4 : Hid (Chg No w ((w4.setCell ⟨ge, 1, none⟩ (.bool fv)).setCell ⟨g, 1, none⟩ (.bool true))) := (HC4a.out.setCell (.inl hwge) _).setCell (.inl (Nat.le_of_eq hg)) _
                obtain ⟨c4, hc4e⟩ : ∃ c4 : Cu, c4 = ⟨tf, true⟩ := ⟨_, rfl⟩
                have hl4 : c4.rest.length ≤ (cText c2).2.rest.length := by rw [hc4e]; exact hltf
                rw [← hc4e] at HCU4 HF4
                clear HE4a HO4a HC4a HCUt hgt HFV HTF hltf huf
                go_upto_region 13 with fail
                generalize (w4.setCell ⟨ge, 1, none⟩ (.bool fv)).setCell ⟨g, 1, none⟩ (.bool true) = w6 at *
                clear hc4e
                clear uf0 uf0' k1 k1' fr1 fr1' g1 gf1 hfv hgb
                go_wp2_with fail
                refine (word_cu w6 g b0 c4 HCU4.out (by omega)).mono ?_
                rintro e w5 ⟨rfl, hcu5, hc5⟩
                have HST := Lib.hid (cEnts_step k c2 acc fv c4 HWF.out HF4.out)
                have hl5 := cWord_len c4
                have HCU5 := Lib.hid hcu5
                have HE5 := Lib.hid (hc5.heap HE4.out (fun h => by have h : ge = g := h; omega))
                have HO5 := Lib.hid (ownsRow_chg HO4.out hc5 (fun q hq h => by have h : q = g := h; have := (World.ownsRow.lt HO4.out q hq).1; omega))
                have HC5 := Lib.hid (HC4.out.one hc5 (.inl (Nat.le_of_eq hg)))
                have HID : Hid ((cWord c4).1 < 18446744073709551616) := word_lt c4
                clear hcu5 hc5 HCU4 HE4 HO4 HC4
                generalize (cWord c4).1 = id at *
                generalize (cWord c4).2 = c5 at *
                have e0 := cellAt HE5.out 0 _ rfl
                have e1 := cellAt HE5.out 1 _ rfl
                have e2 := cellAt HE5.out 2 _ rfl
                have f2 := frzAt HE5.out 2
                have HE6 : Hid ((w5.setCell ⟨ge, 2, none⟩ (.int .u64 (id : Int))).heap[ge]? = some (.cells #[.string nm, .bool fv, .int .u64 (id : Int)] 130)) := heap_set HE5.out 2 _
                have HC6 : Hid (Chg No w (w5.setCell ⟨ge, 2, none⟩ (.int .u64 (id : Int)))) := HC5.out.setCell (.inl (by show w.heap.size ≤ ge; omega)) _
                have HCU6 : Hid (CU (w5.setCell ⟨ge, 2, none⟩ (.int .u64 (id : Int))) g b0 c5) := HCU5.out.chg (Chg.put w5 ge 2 _) (fun h => by have h : g = ge := h; omega) (fun h => by have h : b0 = ge := h; omega)
                have HO6 : Hid ((w5.setCell ⟨ge, 2, none⟩ (.int .u64 (id : Int))).ownsRow (g + 1) 130 3 (.slice Av acc.length cv) acc.length (acc.flatMap encE)) := ownsRow_chg HO5.out (Chg.put w5 ge 2 _) (fun q hq h => HNE.out q hq h)
                have own8 : Hid (((w5.setCell ⟨ge, 2, none⟩ (.int .u64 (id : Int))).alloc (.cells #[.string nm, .bool fv, .int .u64 (id : Int)] 130)).ownsRow (g + 1) 130 3 (.slice Av acc.length cv) acc.length (acc.flatMap encE)) := World.ownsRow.alloc HO6.out _
                have src8 : Hid (Src Try.prog 3 53 (.slice (some ⟨w5.heap.size, 0, none⟩) 1 1) 1 (encE (nm, fv, id)) ((w5.setCell ⟨ge, 2, none⟩ (.int .u64 (id : Int))).alloc (.cells #[.string nm, .bool fv, .int .u64 (id : Int)] 130))) := by
                  have hq := heap_alloc_new (w5.setCell ⟨ge, 2, none⟩ (.int .u64 (id : Int))) (.cells #[.string nm, .bool fv, .int .u64 (id : Int)] 130)
                  rw [World.size_setCell] at hq
                  exact Src.entry Try.underlying53 (nm, fv, id) hq
                have hsz5 : g + 1 ≤ w5.heap.size := by have := HCU5.out.lt; omega
                generalize hall : acc.length = al at *
                go_wp2_with (at_builtin; (refine wpList_app2 rfl (.tmp 60) (.tmp 62) 53 53 rfl (g + 1) 130 (.agg #[.string ⟨#[]⟩, .bool false, .int .u64 0]) 3 32 infoEnt Try.underlying53 rfl (by decide) (.slice Av al cv) (.slice (some ⟨w5.heap.size, 0, none⟩) 1 1) al 1 (acc.flatMap encE) (encE (nm, fv, id)) rfl rfl ?own ?src ?b1 ?b2 ?b3 ?_; (case own => exact own8.out); (case src => exact src8.out); (case b1 => omega); (case b2 => unfold maxLen; omega); (case b3 => (simp only [World.size_alloc, World.size_setCell]; omega)); intro v8 w8 hown8 hg8 hfrom8; refine Hid.out ?_))
                refine Lib.hid ?_
                obtain ⟨A8, c8, rfl⟩ := ownsRow_form hown8
                have HC8 : Hid (Chg No w w8) := (HC6.out.alloc _).grown hg8 (fun q hq => .inl (by have := (World.ownsRow.lt HO6.out q hq).1; omega))
                have HCU8 : Hid (CU w8 g b0 c5) := (HCU6.out.no ((Chg.refl No _).alloc _)).chg (Chg.ofGrown (S := fun k => (Value.slice Av al cv).ownBlock = some k) hg8 (fun k hk => hk)) (fun h => by have := (World.ownsRow.lt HO6.out _ h).1; omega) (fun h => by have := (World.ownsRow.lt HO6.out _ h).1; omega)
                have HLL : Hid ((acc ++ [(nm, fv, id)]).length = al + 1) := by rw [Hid, List.length_append, hall]; rfl
                have HO8 : Hid (w8.ownsRow (g + 1) 130 3 (.slice A8 (acc ++ [(nm, fv, id)]).length c8) (acc ++ [(nm, fv, id)]).length ((acc ++ [(nm, fv, id)]).flatMap encE)) := by
                  rw [Hid, HLL.out, List.flatMap_append]
                  simpa using hown8
                have HAB8 : Hid (∀ x ∈ acc ++ [(nm, fv, id)], x.1.size ≤ 9223372036854775807) := by
                  intro x hx
                  rcases List.mem_append.1 hx with hx | hx
                  · exact HAB.out x hx
                  · simp only [List.mem_cons, List.not_mem_nil, or_false] at hx
                    subst hx
                    exact HNS.out
                have HP8 : Hid (preT xs = cEnts k c5 (acc ++ [(nm, fv, id)])) := by rw [Hid, HP.out, HST.out, HNM.out]
                clear hown8 hg8 hfrom8 own8 src8
                go_wp2
                go_roundw
                case rel => exact ⟨k, c5, acc ++ [(nm, fv, id)], A8, c8, by omega, by first | rfl | (congr 1; omega) | (simp; omega) | simp, by rw [HLL.out], by rw [HLL.out]; omega, by omega, HP8.out, HCU8.out, HO8.out, HAB8.out, HC8.out⟩
                case measure => first | (simp [intOf]; done) | (simp [intOf]; omega) | omega
              · have hgb : decide ((1 : Int) < (uf.toNat : Int)) = false := by rw [decide_eq_false_iff_not]; omega
                have HF4 : Hid (cFold (cText c2).2 = (fv, ⟨tf, false⟩)) := by
                  rw [Hid, cFold, HTF.out]
                  simp only [List.getD_cons_zero]
                  rw [if_neg (by simp), HFV.out]
                  simp [hgt]
                have HCU4 : Hid (CU ((w4.setCell ⟨ge, 1, none⟩ (.bool fv)).setCell ⟨g, 1, none⟩ (.bool false)) g b0 ⟨tf, false⟩) := (HCUt.out.chg (Chg.put w4 ge 1 (.bool fv)) (fun h => by have h : g = ge := h; omega) (fun h => by have h : b0 = ge := h; omega)).flag false
                have HE4 : Hid (((w4.setCell ⟨ge, 1, none⟩ (.bool fv)).setCell ⟨g, 1, none⟩ (.bool false)).heap[ge]? = some (.cells #[.string nm, .bool fv, .int .u64 0] 130)) := (Chg.put _ g 1 _).heap (heap_set HE4a.out 1 (.bool fv)) (fun h => by have h : ge = g := h; omega)
                have HO4 : Hid (((w4.setCell ⟨ge, 1, none⟩ (.bool fv)).setCell ⟨g, 1, none⟩ (.bool false)).ownsRow (g + 1) 130 3 (.slice Av acc.length cv) acc.length (acc.flatMap encE)) := ownsRow_chg (ownsRow_chg HO4a.out (Chg.put w4 ge 1 _) (fun q hq h => HNE.out q hq h)) (Chg.put _ g 1 _) (fun q hq h => by have h : q = g := h; have := (World.ownsRow.lt HO4a.out q hq).1; omega)
                have HC4 : Hid (Chg No w ((w4.setCell ⟨ge, 1, none⟩ (.bool fv)).setCell ⟨g, 1, none⟩ (.bool false))) := (HC4a.out.setCell (.inl hwge) _).setCell (.inl (Nat.le_of_eq hg)) _
                obtain ⟨c4, hc4e⟩ : ∃ c4 : Cu, c4 = ⟨tf, false⟩ := ⟨_, rfl⟩
                have hl4 : c4.rest.length ≤ (cText c2).2.rest.length := by rw [hc4e]; exact hltf
                rw [← hc4e] at HCU4 HF4
                clear HE4a HO4a HC4a HCUt hgt HFV HTF hltf huf
                go_upto_region 13 with fail
                generalize (w4.setCell ⟨ge, 1, none⟩ (.bool fv)).setCell ⟨g, 1, none⟩ (.bool false) = w6 at *
                clear hc4e
                clear uf0 uf0' k1 k1' fr1 fr1' g1 gf1 hfv hgb
                go_wp2_with fail
                refine (word_cu w6 g b0 c4 HCU4.out (by omega)).mono ?_
                rintro e w5 ⟨rfl, hcu5, hc5⟩
                have HST := Lib.hid (cEnts_step k c2 acc fv c4 HWF.out HF4.out)
                have hl5 := cWord_len c4
                have HCU5 := Lib.hid hcu5
                have HE5 := Lib.hid (hc5.heap HE4.out (fun h => by have h : ge = g := h; omega))
                have HO5 := Lib.hid (ownsRow_chg HO4.out hc5 (fun q hq h => by have h : q = g := h; have := (World.ownsRow.lt HO4.out q hq).1; omega))
                have HC5 := Lib.hid (HC4.out.one hc5 (.inl (Nat.le_of_eq hg)))
                have HID : Hid ((cWord c4).1 < 18446744073709551616) := word_lt c4
                clear hcu5 hc5 HCU4 HE4 HO4 HC4
                generalize (cWord c4).1 = id at *
                generalize (cWord c4).2 = c5 at *
                have e0 := cellAt HE5.out 0 _ rfl
                have e1 := cellAt HE5.out 1 _ rfl
                have e2 := cellAt HE5.out 2 _ rfl
                have f2 := frzAt HE5.out 2
                have HE6 : Hid ((w5.setCell ⟨ge, 2, none⟩ (.int .u64 (id : Int))).heap[ge]? = some (.cells #[.string nm, .bool fv, .int .u64 (id : Int)] 130)) := heap_set HE5.out 2 _
                have HC6 : Hid (Chg No w (w5.setCell ⟨ge, 2, none⟩ (.int .u64 (id : Int)))) := HC5.out.setCell (.inl (by show w.heap.size ≤ ge; omega)) _
                have HCU6 : Hid (CU (w5.setCell ⟨ge, 2, none⟩ (.int .u64 (id : Int))) g b0 c5) := HCU5.out.chg (Chg.put w5 ge 2 _) (fun h => by have h : g = ge := h; omega) (fun h => by have h : b0 = ge := h; omega)
                have HO6 : Hid ((w5.setCell ⟨ge, 2, none⟩ (.int .u64 (id : Int))).ownsRow (g + 1) 130 3 (.slice Av acc.length cv) acc.length (acc.flatMap encE)) := ownsRow_chg HO5.out (Chg.put w5 ge 2 _) (fun q hq h => HNE.out q hq h)
                have own8 : Hid (((w5.setCell ⟨ge, 2, none⟩ (.int .u64 (id : Int))).alloc (.cells #[.string nm, .bool fv, .int .u64 (id : Int)] 130)).ownsRow (g + 1) 130 3 (.slice Av acc.length cv) acc.length (acc.flatMap encE)) := World.ownsRow.alloc HO6.out _
                have src8 : Hid (Src Try.prog 3 53 (.slice (some ⟨w5.heap.size, 0, none⟩) 1 1) 1 (encE (nm, fv, id)) ((w5.setCell ⟨ge, 2, none⟩ (.int .u64 (id : Int))).alloc (.cells #[.string nm, .bool fv, .int .u64 (id : Int)] 130))) := by
                  have hq := heap_alloc_new (w5.setCell ⟨ge, 2, none⟩ (.int .u64 (id : Int))) (.cells #[.string nm, .bool fv, .int .u64 (id : Int)] 130)
                  rw [World.size_setCell] at hq
                  exact Src.entry Try.underlying53 (nm, fv, id) hq
                have hsz5 : g + 1 ≤ w5.heap.size := by have := HCU5.out.lt; omega
                generalize hall : acc.length = al at *
                go_wp2_with (at_builtin; (refine wpList_app2 rfl (.tmp 60) (.tmp 62) 53 53 rfl (g + 1) 130 (.agg #[.string ⟨#[]⟩, .bool false, .int .u64 0]) 3 32 infoEnt Try.underlying53 rfl (by decide) (.slice Av al cv) (.slice (some ⟨w5.heap.size, 0, none⟩) 1 1) al 1 (acc.flatMap encE) (encE (nm, fv, id)) rfl rfl ?own ?src ?b1 ?b2 ?b3 ?_; (case own => exact own8.out); (case src => exact src8.out); (case b1 => omega); (case b2 => unfold maxLen; omega); (case b3 => (simp only [World.size_alloc, World.size_setCell]; omega)); intro v8 w8 hown8 hg8 hfrom8; refine Hid.out ?_))
                refine Lib.hid ?_
                obtain ⟨A8, c8, rfl⟩ := ownsRow_form hown8
                have HC8 : Hid (Chg No w w8) := (HC6.out.alloc _).grown hg8 (fun q hq => .inl (by have := (World.ownsRow.lt HO6.out q hq).1; omega))
                have HCU8 : Hid (CU w8 g b0 c5) := (HCU6.out.no ((Chg.refl No _).alloc _)).chg (Chg.ofGrown (S := fun k => (Value.slice Av al cv).ownBlock = some k) hg8 (fun k hk => hk)) (fun h => by have := (World.ownsRow.lt HO6.out _ h).1; omega) (fun h => by have := (World.ownsRow.lt HO6.out _ h).1; omega)
                have HLL : Hid ((acc ++ [(nm, fv, id)]).length = al + 1) := by rw [Hid, List.length_append, hall]; rfl
                have HO8 : Hid (w8.ownsRow (g + 1) 130 3 (.slice A8 (acc ++ [(nm, fv, id)]).length c8) (acc ++ [(nm, fv, id)]).length ((acc ++ [(nm, fv, id)]).flatMap encE)) := by
                  rw [Hid, HLL.out, List.flatMap_append]
                  simpa using hown8
                have HAB8 : Hid (∀ x ∈ acc ++ [(nm, fv, id)], x.1.size ≤ 9223372036854775807) := by
                  intro x hx
                  rcases List.mem_append.1 hx with hx | hx
                  · exact HAB.out x hx
                  · simp only [List.mem_cons, List.not_mem_nil, or_false] at hx
                    subst hx
                    exact HNS.out
                have HP8 : Hid (preT xs = cEnts k c5 (acc ++ [(nm, fv, id)])) := by rw [Hid, HP.out, HST.out, HNM.out]
                clear hown8 hg8 hfrom8 own8 src8
                go_wp2
                go_roundw
                case rel => exact ⟨k, c5, acc ++ [(nm, fv, id)], A8, c8, by omega, by first | rfl | (congr 1; omega) | (simp; omega) | simp, by rw [HLL.out], by rw [HLL.out]; omega, by omega, HP8.out, HCU8.out, HO8.out, HAB8.out, HC8.out⟩
                case measure => first | (simp [intOf]; done) | (simp [intOf]; omega) | omega
  · have hub : ((u.toNat : Int) != 116) = true := by simp; omega
    have HR : Hid (asTree xs = none) := by
      rw [Hid, asTree, if_pos]
      rw [HG0.out]; intro h; rw [h] at hu; exact hu (by decide)
    go_enter Try.func62, Try.ntmps62
    go_wp2
    go_ret2
    exact ⟨none, 0, 0, by rw [HR.out]; rfl, (by rw [HR.out]; intro l h; cases h), Chg.refl _ _⟩
end Go.Proofs.Ytccphnkdnifpfaa

