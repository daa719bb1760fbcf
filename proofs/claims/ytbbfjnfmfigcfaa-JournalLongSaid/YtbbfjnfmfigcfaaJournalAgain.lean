/-
  The walk of JournalAgain: what was written is told again.
-/
import Derived.Test.YtbbfjnfmfigcfaaJ16
import Derived.Test.YtbbfjnfmfigcfaaJournalWrites
namespace Go.Proofs.Ytbbfjnfmfigcfaa
open Go.RowKit Go.Shelf
set_option linter.unusedVariables false
set_option linter.unusedSimpArgs false
set_option maxRecDepth 100000

theorem encF_le : ∀ (K : List (List UInt8)) (m : Nat), (∀ p ∈ K, p.length ≤ m) → m < 1000000 → (encF K).length ≤ (m + 18) * K.length
  | [], m, _, _ => by simp [encF]
  | p :: K, m, h, hm => by
    have h1 := encF_le K m (fun q hq => h q (by simp [hq])) hm
    have h2 := (recF_len p (by have := h p (by simp); omega)).1
    have h3 := h p (by simp)
    have e : encF (p :: K) = recF p ++ encF K := by simp [encF]
    rw [e, List.length_append, List.length_cons, Nat.mul_add]
    omega
/-- A journal opened again. -/
theorem again_open (w : World) (S : Nat → Prop) (base j d m nw : Nat) (k : ByteArray) (th : Bool) (K : List (List UInt8)) (h : JD w S base j d m nw k th K) (hK : ∀ p ∈ K, p.length ≤ 262144) (hn : (encF K).length ≤ 4194304) (hw : nw < 9223372036850000000) :
    Calls Try.prog 11 #[.pointer (some ⟨d, 0, none⟩), .string k] w fun e w' => ∃ j2 S2, e = .returned (.tuple #[.pointer (some ⟨j2, 0, none⟩), .int .i64 0]) ∧ JD w' S2 base j2 d m nw k th K ∧ Chg No w w' := by
  obtain ⟨A, n, c, AP, np, cp, AF, nf, cf, h1, h2, h3, h4, h5, h6, h7, h8, h9, h10, h11, h12, h13, h14, h15, h16, h17, h18⟩ := h
  refine (open_calls w base d m nw k th AF nf cf (encF K) K false (Rds.ofEnc K hK) h2 h5 h8 (fun ht => ⟨(h9 ht).1, (h9 ht).2.1, (h9 ht).2.2.1⟩) (by omega) hw ⟨(h17 _ h15).1, (h17 _ h16).1⟩ h18).mono ?_
  rintro e w' ⟨-, ho⟩
  obtain ⟨j2, he, nw', -, hnw, hJ, -, -⟩ := ho rfl
  obtain ⟨rfl, hc⟩ := hnw rfl
  exact ⟨j2, _, he, hJ, hc⟩
theorem jwrites_calls (w : World) (S : Nat → Prop) (base j d m nw : Nat) (k : ByteArray) (th : Bool) (K : List (List UInt8)) (h : JD w S base j d m nw k th K) :
    Calls Try.prog 21 #[.pointer (some ⟨d, 0, none⟩)] w fun e w' => e = .returned (.int .i64 (nw : Int)) ∧ Chg No w w' := by
  obtain ⟨A, n, c, AP, np, cp, AF, nf, cf, h1, h2, h3, h4, h5, h6, h7, h8, h9, h10, h11, h12, h13, h14, h15, h16, h17, h18⟩ := h
  exact writes_calls w d m nw _ h2

set_option maxHeartbeats 12800000 in
theorem journalAgain_core (w : World) (L : Option Addr) (n c : Nat) (ls : List (List UInt8)) (hL : Sl2 w (.slice L n c) ls) (hl : ls.length = n) (hn24 : n * 24 ≤ 140737488351232) (hsz : ∀ l ∈ ls, l.length ≤ 140737488351232) :
    Calls Try.prog 7 #[.slice L n c] w fun e w' => e = .returned (.bool true) ∧ Chg No w w' := by
  have HL := Lib.hid hl
  have HSL := Lib.hid hL
  have HSZ := Lib.hid hsz
  have hmay := Lib.hid (fun w => may_one w 102 (by decide))
  clear hL hl hsz
  go_enter Try.func7, Try.ntmps7
  go_wp2_with fail
  refine (wakes_calls w).mono ?_
  rintro e w1 ⟨rfl, hc1⟩
  have HC1 := Lib.hid hc1
  clear hc1
  go_wp2_with fail
  refine (new_calls w1).mono ?_
  rintro e w2 ⟨rfl, hD, hc⟩
  have HD := Lib.hid hD
  have HC2 := Lib.hid (HC1.out.no hc)
  have hs1 := HC1.out.size
  have hs2 := hc.size
  have hdw : w1.heap.size ≤ w1.heap.size + 1 := by omega
  clear hD hc
  generalize w1.heap.size + 1 = d at *
  generalize w1.heap.size = m at *
  go_wp2_with fail
  refine (fresh_open w2 w.heap.size d m 0 ⟨#[102]⟩ HD.out (by omega) (by omega) (by omega) (by omega)).mono ?_
  rintro e w3 ⟨j, S, rfl, hJ, hc3, hj⟩
  have HC3 := Lib.hid (HC2.out.newer hc3 (fun i hi => by rcases hi with rfl | rfl <;> omega))
  have HJ := Lib.hid hJ
  clear hJ hc3
  go_wp2_with fail
  refine (wakes_calls w3).mono ?_
  rintro e w4 ⟨rfl, hc4⟩
  have HC4 := Lib.hid (HC3.out.no hc4)
  have HJ4 := Lib.hid (HJ.out.no hc4)
  clear hc4
  go_wp2
  go_loopw [6, 36] (fun v7 i wr => ∃ (k : Nat) (K : List (List UInt8)) (S : Nat → Prop) (nw : Nat) (th : Bool) (A7 : Option Addr) (n7 c7 : Nat), k ≤ n ∧ i = .int .i64 (k : Int) ∧ v7 = .slice A7 n7 c7 ∧ nw ≤ 1018 * n7 ∧ n7 ≤ 100 ∧ Hid (K.length = n7) ∧ Hid (∀ p ∈ K, p.length ≤ 1000) ∧ Hid (JD wr S w.heap.size j d m nw ⟨#[102]⟩ th K) ∧ Hid (Own2 w w.heap.size wr (.slice A7 n7 c7) n7 K) ∧ Hid (∀ b, (Value.slice A7 n7 c7).ownBlock = some b → ¬ S b) ∧ Hid (Chg No w wr))
    (fun _ i _ => n - (intOf i).toNat)
  case atStart => exact ⟨0, [], S, 0, false, none, 0, 0, Nat.zero_le _, rfl, rfl, by omega, by omega, rfl, (fun p hp => by cases hp), HJ4.out, Own2.nil _ _ _, (fun b hb => by cases hb), HC4.out⟩
  case round =>
    obtain ⟨k, K, S', nw, th, A7, n7, c7, hk, rfl, rfl, hnw, hn7, HK7, HKP, HJr, HO7, HNS, HC⟩ := hrel
    have hwr := HC.out.size
    have hen : (encF K).length ≤ 101800 := by
      have := encF_le K 1000 HKP.out (by omega)
      have := HK7.out
      omega
    rcases Nat.lt_or_ge k n with hlt | hge
    · have i1 : (k : Int) < (n : Int) := by omega
      have hkl : k < ls.length := by have := HL.out; omega
      obtain ⟨lb, lo, rfl, hget⟩ := HSL.out.get (by omega)
      obtain ⟨A2, q2, c2, hcell, hby, HQ2⟩ := hget k hkl
      have hcell := HC.out.cell hcell (fun x => x)
      have HBY := Lib.hid hby
      have hq2 : q2 ≤ 140737488351232 := by have := HSZ.out _ (List.getElem_mem hkl); have := HQ2.out; omega
      obtain ⟨p, hp⟩ : ∃ p, ls[k] = p := ⟨_, rfl⟩
      rw [hp] at HBY HQ2
      clear hp hby hget
      by_cases hA : 1000 < q2
      · have t1 : (1000 : Int) < (q2 : Int) := by omega
        go_wp2
        go_roundw
        case rel => exact ⟨k + 1, K, S', nw, th, A7, n7, c7, by omega, by go_num, rfl, hnw, hn7, HK7.out, HKP.out, HJr.out, HO7.out, HNS.out, HC.out⟩
        case measure => simp only [intOf]; omega
      have t1 : ¬ (1000 : Int) < (q2 : Int) := by omega
      by_cases hB : n7 = 100
      · have t2 : ((n7 : Int) == 100) = true := by rw [beq_iff_eq]; omega
        go_wp2
        go_roundw
        case rel => exact ⟨k + 1, K, S', nw, th, A7, n7, c7, by omega, by go_num, rfl, hnw, hn7, HK7.out, HKP.out, HJr.out, HO7.out, HNS.out, HC.out⟩
        case measure => simp only [intOf]; omega
      have t2 : ((n7 : Int) == 100) = false := by rw [beq_eq_false_iff_ne]; omega
      have hrl := recF_len p (by have := HQ2.out; omega)
      obtain ⟨n5, hn5⟩ : ∃ n5, (recF p).length = n5 := ⟨_, rfl⟩
      have hn5b : n5 ≤ 1018 := by have := HQ2.out; omega
      have HL5 := Lib.hid hn5
      clear hrl hn5
      go_wp2_with (at_builtin; (refine wpList_app2 rfl (.tmp 49) (.tmp 50) 22 22 rfl wr.heap.size 5 (.int .u8 0) 1 1 infoU8 Try.underlying22 rfl (by decide) (.slice (some ⟨wr.heap.size, 0, none⟩) 0 0) (.slice A2 q2 c2) 0 q2 (u8s []) (u8s p) rfl rfl ?own ?src ?b1 ?b2 ?b3 ?_; (case own => exact OwnB.n (OwnB.lit wr [] (by decide)) rfl); (case src => exact Src.ofBytes Try.underlying22 (HBY.out.no (HC.out.alloc _)) HQ2.out); (case b1 => omega); (case b2 => unfold maxLen; omega); (case b3 => simp); intro vb w6 hown hg hfrom; refine Hid.out ?_))
      refine Lib.hid ?_
      obtain ⟨hob, hc6⟩ := copy_own hown hg
      obtain ⟨AB, nb, cb, rfl, HLB, HOB⟩ := hob.form
      have hnb : nb = q2 := by have := HLB.out; have := HQ2.out; omega
      subst hnb
      have HC36 := Lib.hid hc6
      have hs6 := hc6.size
      clear hob hown hg hfrom hc6
      have HJ6 := Lib.hid (HJr.out.no HC36.out)
      have hfresh : ∀ b, (Value.slice AB nb cb).ownBlock = some b → ¬ S' b := fun b hb => HJr.out.boundary (HOB.out.block b hb).1
      go_wp2_with fail
      refine (jappend_calls w6 S' w.heap.size j d m nw ⟨#[102]⟩ hmay.out th K AB nb cb p HJ6.out HOB.out.bytes HLB.out hfresh (by omega) (by rw [HL5.out]; omega) (by omega)).mono ?_
      rintro e w7 ⟨rfl, hJ7, hc7⟩
      have HJ7 := Lib.hid hJ7
      have HC7 := Lib.hid hc7
      have hs7 := hc7.size
      clear hJ7 hc7
      have HO77 := Lib.hid ((HO7.out.chg HC36.out (fun _ _ x => x)).chg HC7.out HNS.out)
      have HCw7 := Lib.hid ((HC.out.no HC36.out).newer HC7.out (fun i hi => (HJr.out.lt i hi).1))
      have hb6 : w.heap.size ≤ w7.heap.size := HCw7.out.size
      obtain ⟨vs, g1, g2, g3⟩ := HO77.out
      have HG2 := Lib.hid g2
      have HG3 := Lib.hid g3
      have hvl : vs.length = n7 := by have := g2.1; simpa using this
      have HVL := Lib.hid hvl
      have hS2 : ∀ i, Grow S' w6 w7 i → i < w7.heap.size ∧ ((Value.slice A7 n7 c7).ownBlock = some i → False) := by
        rintro i (hi | hi)
        · exact ⟨by have := (HJr.out.lt i hi).2; omega, fun e => HNS.out i e hi⟩
        · refine ⟨hi.2, fun e => ?_⟩
          have := (HO7.out.block i e).2; omega
      clear g1 g2 g3 hvl
      go_wp2_with (at_builtin; (refine wpList_app2 rfl (.tmp 54) (.tmp 56) 26 26 rfl w.heap.size 22 (.slice none 0 0) 1 24 infoSl Try.underlying26 rfl (by decide) (.slice A7 n7 c7) (.slice (some ⟨w7.heap.size, 0, none⟩) 1 1) n7 1 vs [.slice A2 nb c2] rfl rfl ?own ?src ?b1 ?b2 ?b3 ?_; (case own => exact World.ownsRow.alloc HG2.out _); (case src => exact Src.one Try.underlying26 _ rfl); (case b1 => omega); (case b2 => unfold maxLen; omega); (case b3 => simp; omega); intro v9 w9 hown9 hg9 hfrom9; refine Hid.out ?_))
      refine Lib.hid ?_
      have hc9 : Chg (fun i => some i = (Value.slice A7 n7 c7).ownBlock) w7 w9 := ((Chg.refl _ w7).alloc _).grown hg9 (fun k hk => .inr hk.symm)
      have hO9 : Own2 w w.heap.size w9 v9 (n7 + 1) (K ++ [p]) := Own2.app HK7.out hown9 HVL.out HG3.out HBY.out
      have HJ9 := Lib.hid (HJ7.out.chg hc9 (fun i hi e => (hS2 i hi).2 e.symm))
      have HCw9 := Lib.hid (HCw7.out.trans hc9 (fun i hi e => by have := (HO7.out.block i e.symm).1; omega))
      obtain ⟨A9, c9, rfl⟩ := ownsRow_form hown9
      have HNS9 : Hid (∀ b, (Value.slice A9 (n7 + 1) c9).ownBlock = some b → ¬ Grow S' w6 w7 b) := by
        intro b hb hS
        rcases hfrom9 with e | e
        · exact (hS2 b hS).2 (e ▸ hb)
        · rw [hb, World.size_alloc] at e
          have e := Option.some.inj e
          have := (hS2 _ hS).1
          omega
      have HO9 := Lib.hid hO9
      clear hO9 hown9 hg9 hfrom9 hc9
      go_wp2
      go_roundw
      case rel =>
        refine ⟨k + 1, K ++ [p], Grow S' w6 w7, nw + (n5 + 31) / 32, true, A9, n7 + 1, c9, by omega, by go_num, rfl, by omega, by omega, ?_, ?_, ?_, HO9.out, HNS9.out, HCw9.out⟩
        · show (K ++ [p]).length = n7 + 1
          rw [List.length_append, HK7.out]; rfl
        · intro q hq
          rcases List.mem_append.1 hq with h | h
          · exact HKP.out q h
          · rw [List.mem_singleton] at h
            subst h
            have := HQ2.out
            omega
        · have h := HJ9.out
          rw [HL5.out] at h
          exact h
      case measure => simp only [intOf]; omega
    · have i1 : ¬ (k : Int) < (n : Int) := by omega
      have hn7b : nw ≤ 101800 := by omega
      have HK2 : Hid (∀ p ∈ K, p.length ≤ 262144) := fun p hp => Nat.le_trans (HKP.out p hp) (by omega)
      go_wp2_with fail
      refine (jwrites_calls wr _ _ j _ _ nw _ _ K HJr.out).mono ?_
      rintro e w5 ⟨rfl, hc5⟩
      have HJ5 := Lib.hid (HJr.out.no hc5)
      have HO5 := Lib.hid (HO7.out.chg hc5 (fun _ _ x => x))
      have HC5 := Lib.hid (HC.out.no hc5)
      clear hc5 HJr HO7 HC
      go_wp2
      go_loopw [61] (fun i V => ∃ q : Nat, q ≤ 2 ∧ i = .int .i64 (q : Int) ∧ Hid (Chg No w5 V)) (fun i _ => 2 - (intOf i).toNat)
      case atStart => exact ⟨0, by omega, rfl, Chg.refl _ _⟩
      case round =>
        obtain ⟨q, hq, rfl, HV⟩ := hrel
        rename_i wq
        rcases Nat.lt_or_ge q 2 with hq2 | hq2
        · have i2 : (q : Int) < 2 := by omega
          go_wp2_with fail
          refine (again_open _ S' w.heap.size j d m nw ⟨#[102]⟩ th K (HJ5.out.no HV.out) HK2.out (by omega) (by omega)).mono ?_
          rintro e w6 ⟨j2, S2, rfl, hJ6, hc6⟩
          have HJ6 := Lib.hid hJ6
          have HV6 := Lib.hid (HV.out.no hc6)
          clear hJ6 hc6
          go_wp2_with fail
          refine (holds_calls w6 _ _ j2 _ _ _ _ _ K HJ6.out (by omega) A7 n7 c7 (Sl2.ofOwn2 (HO5.out.chg HV6.out (fun _ _ x => x)) (HC5.out.no HV6.out)) HK7.out).mono ?_
          rintro e w7 ⟨rfl, hc7⟩
          have HJ7 := Lib.hid (HJ6.out.no hc7)
          have HV7 := Lib.hid (HV6.out.no hc7)
          clear hc7
          go_wp2_with fail
          refine (jsize_calls w7 _ _ j2 _ _ _ _ _ _ HJ7.out).mono ?_
          rintro e w8 ⟨rfl, rfl⟩
          go_wp2_with fail
          refine (jsize_calls w8 _ _ j _ _ _ _ _ _ (HJ5.out.no HV7.out)).mono ?_
          rintro e w9 ⟨rfl, rfl⟩
          go_wp2
          go_roundw
          case rel => exact ⟨q + 1, by omega, by go_num, HV7.out⟩
          case measure => simp only [intOf]; omega
        · have i2 : ¬ (q : Int) < 2 := by omega
          go_wp2_with fail
          refine (jwrites_calls _ _ _ j _ _ nw _ _ K (HJ5.out.no HV.out)).mono ?_
          rintro e w6 ⟨rfl, hc6⟩
          go_wp2
          go_ret
          exact ⟨rfl, (HC5.out.no HV.out).no hc6⟩

theorem journalAgain_walk (w : World) (L : Option Addr) (n c : Nat) (ls : List (List UInt8)) (hL : Sl2 w (.slice L n c) ls) (hl : ls.length = n) (hn24 : n * 24 ≤ 140737488351232 ∧ ∀ l ∈ ls, l.length ≤ 140737488351232) :
    Calls Try.prog 7 #[.slice L n c] w fun e w' => e = .returned (.bool true) ∧ Below w.heap.size w w' :=
  (journalAgain_core w L n c ls hL hl hn24.1 hn24.2).mono fun _ _ h => ⟨h.1, h.2.below⟩
end Go.Proofs.Ytbbfjnfmfigcfaa
