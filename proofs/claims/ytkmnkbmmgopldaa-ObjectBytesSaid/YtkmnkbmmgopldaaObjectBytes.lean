/-
  The walk of ObjectBytes.
-/
import Derived.Test.YtkmnkbmmgopldaaD6
namespace Go.Proofs.Ytkmnkbmmgopldaa
open Go.RowKit
set_option linter.unusedVariables false
set_option linter.unusedSimpArgs false
set_option maxRecDepth 100000

theorem Bytes.takeN {w : World} {A : Option Addr} {n c k m : Nat} {xs : List UInt8} (h : Bytes w (.slice A n c) xs) (hl : xs.length = n) (hk : k ≤ n) (hkm : k ≤ m) (hmc : m ≤ c) : Bytes w (.slice A k m) (xs.take k) := by
  subst hl; exact h.take hk hkm hmc
/-- What Decode answers, as two values. -/
theorem DecR.pair {base : Nat} {w' : World} {e : Ending} {o : Option Ob} (h : DecR base w' e o) : ∃ (l : Value) (g : Int), e = .returned (.tuple #[l, .int .i64 g]) ∧ ((o = none ∧ l = .nilIface ∧ g = 8) ∨ ∃ b, o = some b ∧ g = 0 ∧ IsOb w' base l b) := by
  cases o with
  | none => exact ⟨_, _, h, .inl ⟨rfl, rfl, rfl⟩⟩
  | some b =>
    obtain ⟨v, rfl, h⟩ := h
    exact ⟨_, _, rfl, .inr ⟨b, rfl, rfl, h⟩⟩

set_option maxHeartbeats 6400000 in
theorem objectBytes_core (w : World) (A : Option Addr) (n c : Nat) (xs : List UInt8) (hb : Bytes w (.slice A n c) xs) (hl : xs.length = n) (m : UInt8) :
    Calls Try.prog 5 #[.slice A n c, .int .u8 (m.toNat : Int)] w fun e w' => e = .returned (.bool true) ∧ Chg No w w' := by
  have hnc : n ≤ c := by
    obtain ⟨A', c', he, h2, -⟩ := hb.form
    simp only [Value.slice.injEq] at he
    omega
  have HB0 := Lib.hid hb
  have HL0 := Lib.hid hl
  clear hb hl
  go_enter Try.func5, Try.ntmps5
  go_wp2_with fail
  refine (wakes_calls w).mono ?_
  rintro e w1 ⟨rfl, hc1⟩
  have HC1 := Lib.hid hc1
  clear hc1
  go_wp2_with fail
  have hN1 : (min (n : Int) 8192).toNat ≤ n := by omega
  have hN : (min (n : Int) 8192).toNat ≤ 8192 := by omega
  generalize (min (n : Int) 8192).toNat = N at *
  have HB : Hid (Bytes w1 (.slice A N c) (xs.take N)) := Bytes.takeN (HB0.out.no HC1.out) HL0.out hN1 (by omega) (Nat.le_refl _)
  have HLN : Hid ((xs.take N).length = N) := by rw [Hid, List.length_take, HL0.out]; omega
  have HCAP : N - 1 ≤ c := by omega
  have hc8 : N ≤ c := by omega
  generalize xs.take N = bs at *
  have hN6 : N ≤ 1000000 := by omega
  have HDEC : Hid (Calls Try.prog 20 #[.slice A N c] w1 fun e w' => DecR w1.heap.size w' e (decF bs) ∧ Chg No w1 w') := decode_calls w1 A N c bs HB.out HLN.out hN6
  refine HDEC.out.mono ?_
  rintro e w2 ⟨hD, hc2⟩
  have HC2 := Lib.hid (HC1.out.no hc2)
  have HB2 := Lib.hid (HB.out.no hc2)
  cases hq : decF bs with
  | none =>
    rw [hq] at hD
    obtain rfl := hD
    clear hc2
    go_wp2_with fail
    refine (wakes_calls _).mono ?_
    rintro e w3 ⟨rfl, hc3⟩
    go_wp2
    go_ret
    exact ⟨rfl, HC2.out.no hc3⟩
  | some ob =>
    rw [hq] at hD
    obtain ⟨v, rfl, hI⟩ := hD
    obtain ⟨ds1, ds2, ds3⟩ := dec_sound hq
    obtain ⟨Ab, nb, cb, hta⟩ := ta_ob w2 _ v ob hI
    have HI := Lib.hid hI
    have HE := Lib.hid (encodes_ob w2 _ v ob hI ds2 ds3)
    have HKD : Hid (∀ w1, Calls Try.prog 23 #[v] w1 fun e w' => e = .returned (.int .i64 (obKind ob : Nat)) ∧ w1 = w') := fun w1 => (kind_ob w2 _ v ob w1 hI).mono fun _ _ h => ⟨h.1, h.2.symm⟩
    have hkp : ((obKind ob : Int) == 0) = false := by have := obKind_pos ob; simp; omega
    have HDS := Lib.hid ds1
    have HQ := Lib.hid hq
    have hpos : 0 < N := by
      rcases Nat.eq_zero_or_pos N with h0 | h0
      · have := HLN.out; rw [h0] at this; rw [List.eq_nil_of_length_eq_zero this] at hq; cases hq
      · exact h0
    clear hI hc2 ds1 ds2 ds3 hq
    generalize obKind ob = kd at *
    go_wp2_with fail
    refine (HE.out w2 (Chg.refl _ _)).mono ?_
    rintro e w3 ⟨v3, rfl, ho3, hc3⟩
    obtain ⟨A3, n3, c3, rfl, HL3, HO3⟩ := ho3.form
    have HC3 := Lib.hid (HC2.out.no hc3)
    have HB3 := Lib.hid (HB2.out.no hc3)
    have HC23 := Lib.hid hc3
    have HEQ : Hid (Calls Try.prog 22 #[.slice A3 n3 c3, .slice A N c] w3 fun e w' => e = .returned (.bool true) ∧ w3 = w') := by
      have := equal_calls w3 A3 n3 c3 (obB ob) A N c bs HO3.out.bytes HB3.out
      rw [decide_eq_true HDS.out] at this
      exact this.mono fun _ _ h => ⟨h.1, h.2.symm⟩
    clear ho3 hc3
    have own0 : Hid (OwnB (w3.alloc (.cells #[] 5)) w3.heap.size (.slice (some ⟨w3.heap.size, 0, none⟩) 0 0) []) := OwnB.lit w3 [] (by unfold maxLen; decide)
    go_wp2_with (first | (go_at_call 22; refine HEQ.out.mono ?_; rintro e w' ⟨rfl, rfl⟩) | (go_at_call 23; refine (HKD.out _).mono ?_; rintro e w' ⟨rfl, rfl⟩) | (at_builtin; (refine wpList_app2 rfl (.tmp 53) (.tmp 54) 38 38 rfl w3.heap.size 5 (.int .u8 0) 1 1 infoU8 Try.underlying38 rfl (by decide) (.slice (some ⟨w3.heap.size, 0, none⟩) 0 0) (.slice A N c) 0 N (u8s []) (u8s bs) rfl rfl ?own ?src ?b1 ?b2 ?b3 ?_; (case own => exact OwnB.n own0.out rfl); (case src => exact Src.ofBytes Try.underlying38 (HB3.out.no ((Chg.refl No w3).alloc _)) HLN.out); (case b1 => omega); (case b2 => unfold maxLen; omega); (case b3 => simp); intro v4 w4 hown4 hg4 hfrom4; refine Hid.out ?_)))
    refine Lib.hid ?_
    have hO4 : OwnB w4 w3.heap.size v4 bs := OwnB.of hown4 (by simp [u8s])
    have HC4 : Hid (Chg No w3 w4) := ((Chg.refl No w3).alloc _).grown hg4 (fun q hq => .inl (own0.out.block q hq).1)
    obtain ⟨A4, n4, c4, rfl, HL4, HO4⟩ := hO4.form
    have hs4 := HC4.out.size
    have hn4 : n4 ≤ 8192 := by have := HL4.out; have := HLN.out; omega
    clear hO4 hown4 hg4 hfrom4 own0
    have src1 : Hid (Src Try.prog 1 38 (.slice (some ⟨w4.heap.size, 0, none⟩) 1 1) 1 (u8s [m]) (w4.alloc (.cells #[.int .u8 (m.toNat : Int)] 5))) := Src.one Try.underlying38 _ rfl
    go_wp2_with (at_builtin; (refine wpList_app2 rfl (.tmp 55) (.tmp 57) 38 38 rfl w3.heap.size 5 (.int .u8 0) 1 1 infoU8 Try.underlying38 rfl (by decide) (.slice A4 n4 c4) (.slice (some ⟨w4.heap.size, 0, none⟩) 1 1) n4 1 (u8s bs) (u8s [m]) rfl rfl ?own ?src ?b1 ?b2 ?b3 ?_; (case own => exact OwnB.n (OwnB.alloc HO4.out _) HL4.out); (case src => exact src1.out); (case b1 => omega); (case b2 => unfold maxLen; omega); (case b3 => simp; omega); intro v5 w5 hown5 hg5 hfrom5; refine Hid.out ?_))
    refine Lib.hid ?_
    have hO5 : OwnB w5 w3.heap.size v5 (bs ++ [m]) := OwnB.of hown5 (by rw [u8s_append])
    have HC5 : Hid (Chg No w3 w5) := (HC4.out.alloc _).grown hg5 (fun q hq => .inl (HO4.out.block q hq).1)
    obtain ⟨A5, n5, c5, rfl, HL5, HO5⟩ := hO5.form
    have hn5 : n5 ≤ 8193 := by have h1 := HL5.out; rw [List.length_append, HL4.out] at h1; simp at h1; omega
    clear hO5 hown5 hg5 hfrom5 src1 hs4
    go_wp2_with fail
    refine (decode_calls w5 A5 n5 c5 (bs ++ [m]) HO5.out.bytes HL5.out (by omega)).mono ?_
    rintro e w6 ⟨hD2, hc6⟩
    have HC6 := Lib.hid (HC5.out.no hc6)
    clear hc6
    have HR2 := Lib.hid (DecR.pair hD2)
    obtain ⟨l2, g2, rfl, hR2⟩ := HR2.out
    clear HR2 hD2
    have hB6 := Bytes.takeN (k := N - 1) (m := c) (HB3.out.no HC6.out) HLN.out (by omega) HCAP (Nat.le_refl _)
    have HB6 := Lib.hid hB6
    clear hB6
    have hcap : 0 ≤ (0 : Int) := by omega
    go_wp2_with fail
    refine (decode_calls w6 A (N - 1) c (bs.take (N - 1)) HB6.out (by rw [List.length_take, HLN.out]; omega) (by omega)).mono ?_
    rintro e w7 ⟨hD3, hc7⟩
    have HC7 := Lib.hid (HC6.out.no hc7)
    have HC67 := Lib.hid hc7
    clear hc7
    have HR3 := Lib.hid (DecR.pair hD3)
    obtain ⟨l3, g3, rfl, hR3⟩ := HR3.out
    clear HR3 hD3
    have hlast : ∃ z, bs = bs.take (N - 1) ++ [z] := by
      have hne : bs ≠ [] := by intro h0; have := HLN.out; rw [h0] at this; simp at this; omega
      refine ⟨bs.getLast hne, ?_⟩
      have := List.dropLast_concat_getLast hne
      rw [List.dropLast_eq_take, HLN.out] at this
      exact this.symm
    obtain ⟨z, hz⟩ := hlast
    have HZ := Lib.hid hz
    clear hz
    have HS2 : Hid (∀ b, decF (bs ++ [m]) = some b → g2 = 0 → IsOb w6 w5.heap.size l2 b → ∀ W, Chg No w6 W → Calls Try.prog 24 #[v, l2] W fun e w' => e = .returned (.bool false) ∧ Chg No W w') := by
      intro b hb _ hi W hW
      obtain ⟨q1, q2, q3⟩ := dec_sound hb
      have := same_calls W v l2 0 0 (obB ob) (obB b) ((HE.out.no HC23.out |>.no HC6.out).no hW) ((encodes_ob w6 _ l2 b hi q2 q3).no hW)
      rw [HDS.out, q1, decide_eq_false (by intro h; have := congrArg List.length h; simp at this)] at this
      exact this
    have HS3 : Hid (∀ b, decF (bs.take (N - 1)) = some b → g3 = 0 → IsOb w7 w6.heap.size l3 b → ∀ W, Chg No w7 W → Calls Try.prog 24 #[v, l3] W fun e w' => e = .returned (.bool false) ∧ Chg No W w') := by
      intro b hb _ hi W hW
      obtain ⟨q1, q2, q3⟩ := dec_sound hb
      have := same_calls W v l3 0 0 (obB ob) (obB b) ((HE.out.no HC23.out |>.no HC7.out).no hW) ((encodes_ob w7 _ l3 b hi q2 q3).no hW)
      rw [HDS.out, q1, decide_eq_false (by intro h; have := congrArg List.length h; rw [List.length_take, HLN.out] at this; omega)] at this
      exact this
    have HC37 : Hid (Chg No w w7) := HC3.out.no HC7.out
    cases hib : isBlob ob with
    | true =>
      rw [hib] at hta
      rcases hR2 with ⟨hn2, rfl, rfl⟩ | ⟨b2, hn2, rfl, hi2⟩
      · skip
        rcases hR3 with ⟨hn3, rfl, rfl⟩ | ⟨b3, hn3, rfl, hi3⟩
        · skip
          clear HS2 HS3 hn2 hn3
          go_wp2_with fail
          refine (wakes_calls _).mono ?_
          rintro e w10 ⟨rfl, hc10⟩
          go_wp2
          go_ret
          exact ⟨rfl, (Lib.hid (HC37.out.alloc _)).out.no hc10⟩
        · skip
          have HS3' := Lib.hid (HS3.out b3 hn3 rfl hi3)
          clear hi3
          clear HS2 HS3 hn2 hn3
          go_wp2_with fail
          refine (HS3'.out _ ((Chg.refl No w7).alloc _)).mono ?_
          rintro e w9 ⟨rfl, hc9⟩
          have HC9 := Lib.hid ((Lib.hid (HC37.out.alloc _)).out.no hc9)
          clear hc9
          go_wp2_with fail
          refine (wakes_calls _).mono ?_
          rintro e w10 ⟨rfl, hc10⟩
          go_wp2
          go_ret
          exact ⟨rfl, HC9.out.no hc10⟩
      · skip
        have HS2' := Lib.hid (HS2.out b2 hn2 rfl hi2)
        clear hi2
        rcases hR3 with ⟨hn3, rfl, rfl⟩ | ⟨b3, hn3, rfl, hi3⟩
        · skip
          clear HS2 HS3 hn2 hn3
          go_wp2_with fail
          refine (HS2'.out _ (HC67.out.alloc _)).mono ?_
          rintro e w8 ⟨rfl, hc8⟩
          have HC8 := Lib.hid ((HC37.out.alloc _).no hc8)
          have HC78 := Lib.hid (((Chg.refl No w7).alloc _).no hc8)
          clear hc8
          go_wp2_with fail
          refine (wakes_calls _).mono ?_
          rintro e w10 ⟨rfl, hc10⟩
          go_wp2
          go_ret
          exact ⟨rfl, HC8.out.no hc10⟩
        · skip
          have HS3' := Lib.hid (HS3.out b3 hn3 rfl hi3)
          clear hi3
          clear HS2 HS3 hn2 hn3
          go_wp2_with fail
          refine (HS2'.out _ (HC67.out.alloc _)).mono ?_
          rintro e w8 ⟨rfl, hc8⟩
          have HC8 := Lib.hid ((HC37.out.alloc _).no hc8)
          have HC78 := Lib.hid (((Chg.refl No w7).alloc _).no hc8)
          clear hc8
          go_wp2_with fail
          refine (HS3'.out _ HC78.out).mono ?_
          rintro e w9 ⟨rfl, hc9⟩
          have HC9 := Lib.hid (HC8.out.no hc9)
          clear hc9
          go_wp2_with fail
          refine (wakes_calls _).mono ?_
          rintro e w10 ⟨rfl, hc10⟩
          go_wp2
          go_ret
          exact ⟨rfl, HC9.out.no hc10⟩
    | false =>
      rw [hib] at hta
      have hm2 := dec_more HQ.out (isBlob_no hib) m
      have hm3 : decF (bs.take (N - 1)) = none := dec_less (m := z) (by rw [← HZ.out]; exact HQ.out) (isBlob_no hib)
      rcases hR2 with ⟨-, rfl, rfl⟩ | ⟨b2, hn2, -, -⟩
      · rcases hR3 with ⟨-, rfl, rfl⟩ | ⟨b3, hn3, -, -⟩
        · clear HS2 HS3 hm2 hm3
          go_wp2_with fail
          refine (wakes_calls _).mono ?_
          rintro e w10 ⟨rfl, hc10⟩
          go_wp2
          go_ret
          exact ⟨rfl, (HC37.out.alloc _).no hc10⟩
        · rw [hm3] at hn3; cases hn3
      · rw [hm2] at hn2; cases hn2

theorem objectBytes_walk (w : World) (A : Option Addr) (n c : Nat) (xs : List UInt8) (hb : Bytes w (.slice A n c) xs) (hl : xs.length = n) (hn : n ≤ 140737488351232) (a1 : Int) (w1 : (Lit.int .u8 a1).wf = true) :
    Calls Try.prog 5 #[.slice A n c, .int .u8 a1] w fun e w' => e = .returned (.bool true) ∧ Below w.heap.size w w' := by
  have hw : 0 ≤ a1 ∧ a1 ≤ 255 := by simpa [Lit.wf, IntKind.min, IntKind.max, IntKind.signed, IntKind.bits] using w1
  have e : a1 = ((UInt8.ofNat a1.toNat).toNat : Int) := by
    rw [UInt8.toNat_ofNat']
    omega
  rw [e]
  exact (objectBytes_core w A n c xs hb hl _).mono fun _ _ h => ⟨h.1, h.2.below⟩
end Go.Proofs.Ytkmnkbmmgopldaa
