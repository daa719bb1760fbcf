/-
  The walk of OctetHash.
-/
import Derived.Test.YtikfplfhndhjbaaOctetHashP
namespace Go.Proofs.Ytikfplfhndhjbaa
open Go.RowKit
set_option linter.unusedVariables false
set_option linter.unusedSimpArgs false

theorem OwnB.zero (w : World) (base : Nat) (h : base ≤ w.heap.size) : OwnB (w.alloc (.cells #[] 5)) base (.slice (some ⟨w.heap.size, 0, none⟩) 0 0) [] := World.ownsRow_made w #[] 0 h (Nat.zero_le _) rfl

theorem OwnB.openN {w : World} {base n : Nat} {v : Value} {xs : List UInt8} (h : OwnB w base v xs) (hl : xs.length = n) (hp : 0 < n) :
    ∃ g cap, v = .slice (some ⟨g, 0, none⟩) n cap ∧ Hid (base ≤ g) ∧ Hid (OwnB w base (.slice (some ⟨g, 0, none⟩) n cap) xs) ∧ Hid (∀ i (hi : i < xs.length), w.cell? ⟨g, i, none⟩ = some (.int .u8 ((xs[i]).toNat : Int))) ∧ ∀ i, w.frozen? ⟨g, i, none⟩ = false := by
  subst hl
  obtain ⟨g, cap, rfl, h1, h2, h3, h4, h5, h6⟩ := h.open hp
  exact ⟨g, cap, rfl, h1, h, h5, h6⟩
theorem OwnB.form {w : World} {base : Nat} {v : Value} {xs : List UInt8} (h : OwnB w base v xs) : ∃ A n c, v = .slice A n c ∧ Hid (xs.length = n) ∧ Hid (OwnB w base (.slice A n c) xs) := by
  obtain ⟨A, c, rfl, -, -⟩ := h.bytes.form
  exact ⟨A, _, c, rfl, rfl, h⟩

set_option maxRecDepth 100000 in
set_option maxHeartbeats 800000 in
theorem octetHash_core (w : World) (A0 : Option Addr) (n0 c0 : Nat) (xs : List UInt8) (at_ : Int) (hat : at_ ≤ 9223372036854775807) (o : UInt8) (ov : Int) (hov : ov = (o.toNat : Int)) (hb : Bytes w (.slice A0 n0 c0) xs) (hl : xs.length = n0) (hn : n0 ≤ 140737488351232) :
    Calls Try.prog 6 #[.slice A0 n0 c0, .int .i64 at_, .int .u8 ov] w fun e w' => e = .returned (.bool true) ∧ Chg No w w' := by
  have HB := Lib.hid hb
  have HL := Lib.hid hl
  have HN := Lib.hid hn
  have HOV := Lib.hid hov
  have ho : 0 ≤ ov ∧ ov ≤ 255 := by have : o.toNat < 256 := o.toNat_lt; omega
  obtain ⟨ho1, ho2⟩ := ho
  clear hb hl hov
  go_enter Try.func6, Try.ntmps6
  go_wp2_with fail
  refine (wakes_calls _).mono ?_
  rintro e w1 ⟨rfl, hc1⟩
  have HC1 := Lib.hid hc1
  have hs1 := hc1.size
  clear hc1
  go_wp2_with fail
  refine (hash_calls _ _ _ _ xs (HB.out.no HC1.out) HL.out (by omega)).mono ?_
  rintro e w' ⟨rfl, rfl⟩
  generalize hh : hashF xs = h
  have HH := Lib.hid hh
  have HHL : Hid (h < 18446744073709551616) := by rw [Hid, ← hh]; exact hashF_lt xs
  clear hh
  go_wp2_with (first | (at_builtin; (refine wpList_app _ rfl (.tmp 15) (.tmp 16) 22 22 rfl w.heap.size 5 (.int .u8 0) 1 1 infoU8 Try.underlying22 rfl (by decide) (.slice (some ⟨w1.heap.size, 0, none⟩) 0 0) (.slice A0 n0 c0) 0 n0 (u8s ([] : List UInt8)) (u8s xs) rfl rfl ?own ?src ?b1 ?b2 ?b3 ?_; (case own => exact OwnB.zero w1 w.heap.size hs1); (case src => exact Src.ofBytes Try.underlying22 ((HB.out.no HC1.out).no ((Chg.refl _ _).alloc _)) HL.out); (case b1 => skip; omega); (case b2 => unfold maxLen; skip; omega); (case b3 => simp; omega); intro v2 w2 hown2 hg2; have HO2 : Hid (OwnB w2 w.heap.size v2 xs) := OwnB.of hown2 (by simp [u8s]); have hs2 : w.heap.size ≤ w2.heap.size := by (have := hg2.size; simp at this; omega))) | (at_builtin; (refine wpList_app _ rfl (.tmp 17) (.tmp 19) 22 22 rfl w.heap.size 5 (.int .u8 0) 1 1 infoU8 Try.underlying22 rfl (by decide) v2 (.slice (some ⟨w2.heap.size, 0, none⟩) 1 1) xs.length 1 (u8s xs) ([.int .u8 ov]) rfl rfl ?own ?src ?b1 ?b2 ?b3 ?_; (case own => exact HO2.out.alloc _); (case src => exact Src.one Try.underlying22 _ rfl); (case b1 => have := HL.out; omega); (case b2 => unfold maxLen; have := HL.out; omega); (case b3 => simp; omega); intro v3 w3 hown3 hg3)))
  have HO3 : Hid (OwnB w3 w.heap.size v3 (xs ++ [o])) := by
    refine OwnB.of hown3 ?_
    exact u8s_snoc _ _ _ HOV.out.symm
  have HC3 : Hid (Chg No w w3) := (((HC1.out.alloc _).grown hg2 (fun k hk => .inl (by simp [Value.ownBlock] at hk; omega))).alloc _).grown hg3 (fun k hk => .inl (HO2.out.block k hk).1)
  clear hg2 hown2 hown3 hg3
  obtain ⟨A3, n3, c3, rfl, HL3, HO3⟩ := HO3.out.form
  refine (hex_calls _ h _ rfl HHL.out).mono ?_
  rintro e w4 ⟨rfl, hc4⟩
  have HC4 := Lib.hid hc4
  clear hc4
  go_wp2_with fail
  refine (unhex_calls _ _ (by rw [mkS_size]; simp [hexF])).mono ?_
  rintro e w' ⟨rfl, rfl⟩
  rw [unhexR_some (x := h) (by rw [mkS_list]; exact unhex_hex h HHL.out)]
  go_wp2_with fail
  refine (wakes_calls _).mono ?_
  rintro e w5 ⟨rfl, hc5⟩
  have HC5 := Lib.hid hc5
  clear hc5
  have hst : IntKind.u64.wrap (bits .xor .u64 (h : Int) ov * 1099511628211) = ((hstep h o : Nat) : Int) := by rw [HOV.out]; exact hstep_wrap h o HHL.out
  go_wp2_with fail
  refine (hash_calls _ A3 n3 c3 (xs ++ [o]) ((HO3.out.bytes.no HC4.out).no HC5.out) HL3.out (by have := HL.out; have := HL3.out; simp at this; omega)).mono ?_
  rintro e w' ⟨rfl, rfl⟩
  rw [hashF_snoc, HH.out]
  have HC : Hid (Chg No w w5) := (HC3.out.no HC4.out).no HC5.out
  clear HC3 HC4 HC5 HO2 hs2
  have hs5 : w.heap.size ≤ w5.heap.size := HC.out.size
  by_cases hz : n0 = 0
  · subst hz
    go_wp2
    go_ret
    exact ⟨rfl, HC.out⟩
  · have hne : ((n0 : Int) == 0) = false := by simp; omega
    have hn0 : 0 < n0 := by omega
    clear hz
    obtain ⟨i, hi, hidx⟩ : ∃ i : Nat, i < n0 ∧ (at_ < 0 ∧ i = 0 ∨ 0 ≤ at_ ∧ at_ % (n0 : Int) = (i : Int)) := by
      by_cases h : at_ < 0
      · exact ⟨0, hn0, .inl ⟨h, rfl⟩⟩
      · have h1 := Int.emod_nonneg at_ (show (n0 : Int) ≠ 0 by omega)
        have h2 := Int.emod_lt_of_pos at_ (show (0 : Int) < (n0 : Int) by omega)
        exact ⟨(at_ % (n0 : Int)).toNat, by omega, .inr ⟨by omega, by omega⟩⟩
    rcases hidx with ⟨hneg, rfl⟩ | ⟨hpos, hidx⟩
    · go_wp2_with ((at_builtin; (refine wpList_app _ rfl (.tmp 51) (.tmp 52) 22 22 rfl w.heap.size 5 (.int .u8 0) 1 1 infoU8 Try.underlying22 rfl (by decide) (.slice (some ⟨w5.heap.size, 0, none⟩) 0 0) (.slice A0 n0 c0) 0 n0 (u8s ([] : List UInt8)) (u8s xs) rfl rfl ?own ?src ?b1 ?b2 ?b3 ?_; (case own => exact OwnB.zero w5 w.heap.size hs5); (case src => exact Src.ofBytes Try.underlying22 ((HB.out.no HC.out).no ((Chg.refl _ _).alloc _)) HL.out); (case b1 => skip; omega); (case b2 => unfold maxLen; skip; omega); (case b3 => simp; omega); intro v6 w6 hown6 hg6; have HO6 : Hid (OwnB w6 w.heap.size v6 xs) := OwnB.of hown6 (by simp [u8s]); have HC6 : Hid (Chg No w w6) := (HC.out.alloc _).grown hg6 (fun k hk => .inl (by simp [Value.ownBlock] at hk; omega)); clear hown6 hg6; obtain ⟨g6, cap6, rfl, hg6, HO6, hcell6, hfr6⟩ := HO6.out.openN HL.out hn0; have hci := hcell6.out 0 (by rw [HL.out]; omega))))
      generalize hu : xs[0]'(by rw [HL.out]; omega) = u at hci
      have HU := Lib.hid hu
      have hxor : bits .xor .u8 (u.toNat : Int) ov = ((u ^^^ o).toNat : Int) := by rw [HOV.out]; exact xor_u8 u o
      clear hu
      rw [hxor]
      have HS : Bytes (w6.setCell ⟨g6, 0, none⟩ (.int .u8 ((u ^^^ o).toNat : Int))) (.slice (some ⟨g6, 0, none⟩) n0 cap6) (xs.set 0 (u ^^^ o)) := by
        have h6 := HO6.out
        have hs := OwnB.set (xs := xs) (g := g6) (cap := cap6) (base := w.heap.size) (w := w6) (by rw [HL.out]; exact h6) 0 (by rw [HL.out]; omega) (u ^^^ o) _ rfl
        rw [HL.out] at hs
        exact hs.bytes
      refine (hash_calls _ _ _ _ _ HS (by rw [List.length_set]; exact HL.out) (by omega)).mono ?_
      rintro e w' ⟨rfl, rfl⟩
      have hch := hash_changed xs 0 (by rw [HL.out]; omega) o
      rw [HU.out, HH.out] at hch
      have HC7 : Hid (Chg No w (w6.setCell ⟨g6, 0, none⟩ (.int .u8 ((u ^^^ o).toNat : Int)))) := HC6.out.setCell (.inl hg6.out) _
      generalize w6.setCell ⟨g6, 0, none⟩ (.int .u8 ((u ^^^ o).toNat : Int)) = w7 at *
      generalize hashF (xs.set 0 (u ^^^ o)) = h7 at *
      by_cases hz : o = 0
      · have hov0 : (ov == 0) = true := by have := HOV.out; subst hz; simp at this; simp [this]
        have hh7 : ((h7 : Int) == (h : Int)) = true := by simp [hch.2 hz]
        clear hch hz HS
        go_wp2
        go_ret
        exact ⟨rfl, HC7.out⟩
      · have hov0 : (ov == 0) = false := by
          have h1 := HOV.out
          simp only [beq_eq_false_iff_ne, ne_eq]
          intro h2
          exact hz (UInt8.toNat_inj.1 (by rw [UInt8.toNat_zero]; omega))
        have hh7 : ((h7 : Int) == (h : Int)) = false := by
          simp only [beq_eq_false_iff_ne, ne_eq]
          intro h2
          exact hz (hch.1 (by omega))
        clear hch hz HS
        go_wp2
        go_ret
        exact ⟨rfl, HC7.out⟩
    · go_wp2_with ((at_builtin; (refine wpList_app _ rfl (.tmp 51) (.tmp 52) 22 22 rfl w.heap.size 5 (.int .u8 0) 1 1 infoU8 Try.underlying22 rfl (by decide) (.slice (some ⟨w5.heap.size, 0, none⟩) 0 0) (.slice A0 n0 c0) 0 n0 (u8s ([] : List UInt8)) (u8s xs) rfl rfl ?own ?src ?b1 ?b2 ?b3 ?_; (case own => exact OwnB.zero w5 w.heap.size hs5); (case src => exact Src.ofBytes Try.underlying22 ((HB.out.no HC.out).no ((Chg.refl _ _).alloc _)) HL.out); (case b1 => skip; omega); (case b2 => unfold maxLen; skip; omega); (case b3 => simp; omega); intro v6 w6 hown6 hg6; have HO6 : Hid (OwnB w6 w.heap.size v6 xs) := OwnB.of hown6 (by simp [u8s]); have HC6 : Hid (Chg No w w6) := (HC.out.alloc _).grown hg6 (fun k hk => .inl (by simp [Value.ownBlock] at hk; omega)); clear hown6 hg6; obtain ⟨g6, cap6, rfl, hg6, HO6, hcell6, hfr6⟩ := HO6.out.openN HL.out hn0; have hci := hcell6.out i (by rw [HL.out]; omega))))
      generalize hu : xs[i]'(by rw [HL.out]; omega) = u at hci
      have HU := Lib.hid hu
      have hxor : bits .xor .u8 (u.toNat : Int) ov = ((u ^^^ o).toNat : Int) := by rw [HOV.out]; exact xor_u8 u o
      clear hu
      rw [hxor]
      have HS : Bytes (w6.setCell ⟨g6, i, none⟩ (.int .u8 ((u ^^^ o).toNat : Int))) (.slice (some ⟨g6, 0, none⟩) n0 cap6) (xs.set i (u ^^^ o)) := by
        have h6 := HO6.out
        have hs := OwnB.set (xs := xs) (g := g6) (cap := cap6) (base := w.heap.size) (w := w6) (by rw [HL.out]; exact h6) i (by rw [HL.out]; omega) (u ^^^ o) _ rfl
        rw [HL.out] at hs
        exact hs.bytes
      refine (hash_calls _ _ _ _ _ HS (by rw [List.length_set]; exact HL.out) (by omega)).mono ?_
      rintro e w' ⟨rfl, rfl⟩
      have hch := hash_changed xs i (by rw [HL.out]; omega) o
      rw [HU.out, HH.out] at hch
      have HC7 : Hid (Chg No w (w6.setCell ⟨g6, i, none⟩ (.int .u8 ((u ^^^ o).toNat : Int)))) := HC6.out.setCell (.inl hg6.out) _
      generalize w6.setCell ⟨g6, i, none⟩ (.int .u8 ((u ^^^ o).toNat : Int)) = w7 at *
      generalize hashF (xs.set i (u ^^^ o)) = h7 at *
      by_cases hz : o = 0
      · have hov0 : (ov == 0) = true := by have := HOV.out; subst hz; simp at this; simp [this]
        have hh7 : ((h7 : Int) == (h : Int)) = true := by simp [hch.2 hz]
        clear hch hz HS
        go_wp2
        go_ret
        exact ⟨rfl, HC7.out⟩
      · have hov0 : (ov == 0) = false := by
          have h1 := HOV.out
          simp only [beq_eq_false_iff_ne, ne_eq]
          intro h2
          exact hz (UInt8.toNat_inj.1 (by rw [UInt8.toNat_zero]; omega))
        have hh7 : ((h7 : Int) == (h : Int)) = false := by
          simp only [beq_eq_false_iff_ne, ne_eq]
          intro h2
          exact hz (hch.1 (by omega))
        clear hch hz HS
        go_wp2
        go_ret
        exact ⟨rfl, HC7.out⟩

theorem u8_of_wf {a : Int} (h : (Lit.int .u8 a).wf = true) : ∃ x : UInt8, a = (x.toNat : Int) := by
  have hb : 0 ≤ a ∧ a ≤ 255 := by simpa [Lit.wf, IntKind.min, IntKind.max, IntKind.signed, IntKind.bits] using h
  exact ⟨UInt8.ofNat a.toNat, by rw [UInt8.toNat_ofNat']; omega⟩
theorem i64_of_wf {a : Int} (h : (Lit.int .i64 a).wf = true) : -9223372036854775808 ≤ a ∧ a ≤ 9223372036854775807 := by
  simpa [Lit.wf, IntKind.min, IntKind.max, IntKind.signed, IntKind.bits] using h
theorem octetHash_walk (w : World) (A0 : Option Addr) (n0 c0 : Nat) (xs : List UInt8) (hb : Bytes w (.slice A0 n0 c0) xs) (hl : xs.length = n0) (hn : n0 ≤ 140737488351232)
    (a1 : Int) (w1 : (Lit.int .i64 a1).wf = true) (a2 : Int) (w2 : (Lit.int .u8 a2).wf = true) :
    Calls Try.prog 6 #[.slice A0 n0 c0, .int .i64 a1, .int .u8 a2] w fun e w' => e = .returned (.bool true) ∧ Below w.heap.size w w' := by
  obtain ⟨o, ho⟩ := u8_of_wf w2
  exact (octetHash_core w A0 n0 c0 xs a1 (i64_of_wf w1).2 o a2 ho hb hl hn).mono fun e w' h => ⟨h.1, h.2.below⟩
end Go.Proofs.Ytikfplfhndhjbaa
