/-
  The walk of JournalWrites: any payloads, one behind the other.
-/
import Derived.Test.YtbbfjnfmfigcfaaJ15
import Derived.Test.YtbbfjnfmfigcfaaJournalOpens
import Derived.Test.YtbbfjnfmfigcfaaOp2
namespace Go.Proofs.Ytbbfjnfmfigcfaa
open Go.RowKit Go.Shelf
set_option linter.unusedVariables false
set_option linter.unusedSimpArgs false
set_option maxRecDepth 100000

/-- A copy of bytes that is made by append onto an empty row. -/
theorem copy_own {w w1 : World} {vb : Value} {p : List UInt8} {q : Nat} (hown : w1.ownsRow w.heap.size 5 1 vb (0 + q) (u8s [] ++ u8s p)) (hg : (w.alloc (.cells #[] 5)).grownBy w1 (Value.slice (some ⟨w.heap.size, 0, none⟩) 0 0).ownBlock) : OwnB w1 w.heap.size vb p ∧ Chg No w w1 := by
  refine ⟨.of hown (by simp [u8s]), (((Chg.refl No w).alloc _).mono (fun _ _ x => x)).grown hg (fun k hk => ?_)⟩
  simp [Value.ownBlock] at hk
  left; omega

set_option maxHeartbeats 12800000 in
theorem journalWrites_core (w : World) (L : Option Addr) (n c : Nat) (ls : List (List UInt8)) (hL : Sl2 w (.slice L n c) ls) (hl : ls.length = n) (hn24 : n * 24 ≤ 140737488351232) (hsz : ∀ l ∈ ls, l.length ≤ 140737488351232) :
    Calls Try.prog 4 #[.slice L n c] w fun e w' => e = .returned (.bool true) ∧ Chg No w w' := by
  have HL := Lib.hid hl
  have HSL := Lib.hid hL
  have HSZ := Lib.hid hsz
  have hmay := Lib.hid (fun w => may_one w 102 (by decide))
  clear hL hl hsz
  go_enter Try.func4, Try.ntmps4
  go_wp2_with fail
  refine (wakes_calls w).mono ?_
  rintro e w1 ⟨rfl, hc1⟩
  have HC1 := Lib.hid hc1
  clear hc1
  go_wp2_with fail
  refine (new_calls w1).mono ?_
  rintro e w2 ⟨rfl, hD, hc⟩
  have HD := Lib.hid hD
  have HC2 := Lib.hid (HC1.out.no hc)
  have hs1 := HC1.out.size
  have hs2 := hc.size
  have hdw : w1.heap.size ≤ w1.heap.size + 1 := by omega
  clear hD hc
  generalize w1.heap.size + 1 = d at *
  generalize w1.heap.size = m at *
  go_wp2_with fail
  refine (fresh_open w2 w.heap.size d m 0 ⟨#[102]⟩ HD.out (by omega) (by omega) (by omega) (by omega)).mono ?_
  rintro e w3 ⟨j, S, rfl, hJ, hc3, hj⟩
  have HC3 := Lib.hid (HC2.out.newer hc3 (fun i hi => by rcases hi with rfl | rfl <;> omega))
  have HJ := Lib.hid hJ
  clear hJ hc3
  go_wp2_with fail
  refine (wakes_calls w3).mono ?_
  rintro e w4 ⟨rfl, hc4⟩
  have HC4 := Lib.hid (HC3.out.no hc4)
  have HJ4 := Lib.hid (HJ.out.no hc4)
  clear hc4
  go_wp2
  go_loopw [6, 7, 37] (fun v6 v7 i wr => ∃ (k : Nat) (K : List (List UInt8)) (S : Nat → Prop) (nw : Nat) (th : Bool) (A6 : Option Addr) (n6 c6 : Nat) (A7 : Option Addr) (n7 c7 : Nat), k ≤ n ∧ i = .int .i64 (k : Int) ∧ v6 = .slice A6 n6 c6 ∧ v7 = .slice A7 n7 c7 ∧ n6 ≤ 4194304 ∧ nw ≤ n6 ∧ n7 * 9 ≤ n6 ∧ Hid (K.length = n7) ∧ Hid ((encF K).length = n6) ∧ Hid ((th = false → K = []) ∧ (K = [] → th = false)) ∧ Hid (JD wr S w.heap.size j d m nw ⟨#[102]⟩ th K) ∧ Hid (OwnB wr w.heap.size (.slice A6 n6 c6) (encF K)) ∧ Hid (Own2 w w.heap.size wr (.slice A7 n7 c7) n7 K) ∧ Hid ((∀ b, (Value.slice A6 n6 c6).ownBlock = some b → ¬ S b) ∧ (∀ b, (Value.slice A7 n7 c7).ownBlock = some b → ¬ S b)) ∧ Hid (Chg No w wr))
    (fun _ _ i _ => n - (intOf i).toNat)
  case atStart => exact ⟨0, [], S, 0, false, none, 0, 0, none, 0, 0, Nat.zero_le _, rfl, rfl, rfl, by omega, by omega, by omega, rfl, rfl, ⟨fun _ => rfl, fun _ => rfl⟩, HJ4.out, World.ownsRow_nil _ _ _ _, Own2.nil _ _ _, ⟨(fun b hb => by cases hb), (fun b hb => by cases hb)⟩, HC4.out⟩
  case round =>
    obtain ⟨k, K, S', nw, th, A6, n6, c6, A7, n7, c7, hk, rfl, rfl, rfl, hn6, hnw, hn7, HK7, HK6, HTH, HJr, HO6, HO7, HNS, HC⟩ := hrel
    have hwr := HC.out.size
    rcases Nat.lt_or_ge k n with hlt | hge
    · have i1 : (k : Int) < (n : Int) := by omega
      have hkl : k < ls.length := by have := HL.out; omega
      obtain ⟨lb, lo, rfl, hget⟩ := HSL.out.get (by omega)
      obtain ⟨A2, q2, c2, hcell, hby, HQ2⟩ := hget k hkl
      have hcell := HC.out.cell hcell (fun x => x)
      have HBY := Lib.hid hby
      have hq2 : q2 ≤ 140737488351232 := by have := HSZ.out _ (List.getElem_mem hkl); have := HQ2.out; omega
      obtain ⟨p, hp⟩ : ∃ p, ls[k] = p := ⟨_, rfl⟩
      rw [hp] at HBY HQ2
      clear hp hby hget
      have hrl := recF_len p (by have := HQ2.out; omega)
      go_wp2_with fail
      refine (refrecord_calls wr A2 q2 c2 p (HBY.out.no HC.out) HQ2.out (by omega)).mono ?_
      rintro e w5 ⟨v5, rfl, ho5, hc5⟩
      obtain ⟨A5, n5, c5, rfl, HL5, HO5⟩ := ho5.form
      have HC5 := Lib.hid hc5
      have hs5 := hc5.size
      have hn5 : n5 ≤ q2 + 18 ∧ q2 + 9 ≤ n5 := by have := HL5.out; have := HQ2.out; omega
      clear ho5 hc5 hrl hcell
      go_wp2_with (at_builtin; (refine wpList_app2 rfl (.tmp 44) (.tmp 45) 22 22 rfl w5.heap.size 5 (.int .u8 0) 1 1 infoU8 Try.underlying22 rfl (by decide) (.slice (some ⟨w5.heap.size, 0, none⟩) 0 0) (.slice A2 q2 c2) 0 q2 (u8s []) (u8s p) rfl rfl ?own ?src ?b1 ?b2 ?b3 ?_; (case own => exact OwnB.n (OwnB.lit w5 [] (by decide)) rfl); (case src => exact Src.ofBytes Try.underlying22 (HBY.out.no ((HC.out.no HC5.out).alloc _)) HQ2.out); (case b1 => omega); (case b2 => unfold maxLen; omega); (case b3 => simp); intro vb w6 hown hg hfrom; refine Hid.out ?_))
      refine Lib.hid ?_
      obtain ⟨hob, hc6⟩ := copy_own hown hg
      obtain ⟨AB, nb, cb, rfl, HLB, HOB⟩ := hob.form
      have hnb : nb = q2 := by have := HLB.out; have := HQ2.out; omega
      subst hnb
      have HC6 := Lib.hid hc6
      have hs6 := hc6.size
      clear hob hown hg hfrom hc6
      have HC36 : Hid (Chg No wr w6) := HC5.out.no HC6.out
      have HJ6 := Lib.hid (HJr.out.no HC36.out)
      have hfresh : ∀ b, (Value.slice AB nb cb).ownBlock = some b → ¬ S' b := fun b hb => HJr.out.boundary (Nat.le_trans hs5 (HOB.out.block b hb).1)
      by_cases hA : 262144 < nb
      · have t1 : (262144 : Int) < (nb : Int) := by omega
        go_wp2_with fail
        refine (jappend_over w6 S' w.heap.size j d m nw ⟨#[102]⟩ th K AB nb cb HJ6.out hA).mono ?_
        rintro e w7 ⟨rfl, rfl⟩
        go_wp2
        go_roundw
        case rel => exact ⟨k + 1, K, S', nw, th, A6, n6, c6, A7, n7, c7, by omega, by go_num, rfl, rfl, hn6, hnw, hn7, HK7.out, HK6.out, HTH.out, HJ6.out, HO6.out.chg HC36.out (fun _ _ x => x), HO7.out.chg HC36.out (fun _ _ x => x), HNS.out, HC.out.no HC36.out⟩
        case measure => simp only [intOf]; omega
      · have t1 : ¬ (262144 : Int) < (nb : Int) := by omega
        by_cases hB : 4194304 < n6 + n5
        · have t2 : (4194304 : Int) < (n6 : Int) + (n5 : Int) := by omega
          have hth : th = true := by
            cases th
            · have h0 := HTH.out.1 rfl
              have h1 := HK6.out
              rw [h0] at h1
              simp [encF] at h1
              omega
            · rfl
          subst hth
          go_wp2_with fail
          refine (jappend_full w6 S' w.heap.size j d m nw ⟨#[102]⟩ hmay.out K AB nb cb p HJ6.out HOB.out.bytes HLB.out (by omega) (by rw [HK6.out]; exact hn6) (by rw [HK6.out, HL5.out]; exact hB)).mono ?_
          rintro e w7 ⟨rfl, hJ7, hc7⟩
          have HJ7 := Lib.hid hJ7
          have HC7 := Lib.hid hc7
          clear hJ7 hc7
          go_wp2
          go_roundw
          case rel => exact ⟨k + 1, K, S', nw, true, A6, n6, c6, A7, n7, c7, by omega, by go_num, rfl, rfl, hn6, hnw, hn7, HK7.out, HK6.out, HTH.out, HJ7.out, (HO6.out.chg HC36.out (fun _ _ x => x)).chg HC7.out HNS.out.1, (HO7.out.chg HC36.out (fun _ _ x => x)).chg HC7.out HNS.out.2, HNS.out, (HC.out.no HC36.out).newer HC7.out (fun i hi => (HJr.out.lt i hi).1)⟩
          case measure => simp only [intOf]; omega
        · have t2 : ¬ (4194304 : Int) < (n6 : Int) + (n5 : Int) := by omega
          go_wp2_with fail
          refine (jappend_calls w6 S' w.heap.size j d m nw ⟨#[102]⟩ hmay.out th K AB nb cb p HJ6.out HOB.out.bytes HLB.out hfresh (by omega) (by rw [HK6.out, HL5.out]; omega) (by omega)).mono ?_
          rintro e w7 ⟨rfl, hJ7, hc7⟩
          have HJ7 := Lib.hid hJ7
          have HC7 := Lib.hid hc7
          have hs7 := hc7.size
          clear hJ7 hc7
          have HO67 := Lib.hid ((HO6.out.chg HC36.out (fun _ _ x => x)).chg HC7.out HNS.out.1)
          have HO77 := Lib.hid ((HO7.out.chg HC36.out (fun _ _ x => x)).chg HC7.out HNS.out.2)
          have HO57 := Lib.hid ((HO5.out.chg HC6.out (fun _ _ x => x)).chg HC7.out (fun b hb => HJr.out.boundary (HO5.out.block b hb).1))
          have HCw7 := Lib.hid ((HC.out.no HC36.out).newer HC7.out (fun i hi => (HJr.out.lt i hi).1))
          have hb6 : w.heap.size ≤ w7.heap.size := HCw7.out.size
          go_wp2_with (at_builtin; (refine wpList_app2 rfl (.tmp 63) (.tmp 64) 22 22 rfl w.heap.size 5 (.int .u8 0) 1 1 infoU8 Try.underlying22 rfl (by decide) (.slice A6 n6 c6) (.slice A5 n5 c5) n6 n5 (u8s (encF K)) (u8s (recF p)) rfl rfl ?own ?src ?b1 ?b2 ?b3 ?_; (case own => exact OwnB.n HO67.out HK6.out); (case src => exact Src.ofBytes Try.underlying22 HO57.out.bytes HL5.out); (case b1 => omega); (case b2 => unfold maxLen; omega); (case b3 => exact hb6); intro v8 w8 hown8 hg8 hfrom8; refine Hid.out ?_))
          refine Lib.hid ?_
          have hO8 : OwnB w8 w.heap.size v8 (encF (K ++ [p])) := .of hown8 (by rw [encF_snoc, u8s_append])
          obtain ⟨A8, n8, c8, rfl, HL8, HO8⟩ := hO8.form
          have hn8 : n8 = n6 + n5 := by have := HL8.out; rw [encF_snoc, List.length_append, HK6.out, HL5.out] at this; exact this.symm
          subst hn8
          have hc8 : Chg (fun i => some i = (Value.slice A6 n6 c6).ownBlock) w7 w8 := Chg.ofGrown hg8 (fun k hk => hk.symm)
          obtain ⟨vs, g1, g2, g3⟩ := HO77.out
          have hap : ∀ b, (Value.slice A7 n7 c7).ownBlock = some b → ¬ some b = (Value.slice A6 n6 c6).ownBlock := fun b hb e => rows_apart g2 HO67.out (by decide) b hb e.symm
          have HG2 := Lib.hid (ownsRow_chg g2 hc8 hap)
          have HG3 := Lib.hid g3
          have hvl : vs.length = n7 := by have := g2.1; simpa using this
          have HVL := Lib.hid hvl
          clear hvl
          have hS2 : ∀ i, Grow S' w6 w7 i → i < w7.heap.size ∧ ((Value.slice A6 n6 c6).ownBlock = some i → False) ∧ ((Value.slice A7 n7 c7).ownBlock = some i → False) := by
            rintro i (hi | hi)
            · exact ⟨by have := (HJr.out.lt i hi).2; omega, fun e => HNS.out.1 i e hi, fun e => HNS.out.2 i e hi⟩
            · refine ⟨hi.2, fun e => ?_, fun e => ?_⟩
              · have := (HO6.out.block i e).2; omega
              · have := (HO7.out.block i e).2; omega
          have HJ8 := Lib.hid (HJ7.out.chg hc8 (fun i hi e => (hS2 i hi).2.1 e.symm))
          have HCw8 := Lib.hid (HCw7.out.trans hc8 (fun i hi e => by have := (HO6.out.block i e.symm).1; omega))
          have hs8 := hc8.size
          clear hO8 hown8 hg8 g1 g2 g3
          go_wp2_with (at_builtin; (refine wpList_app2 rfl (.tmp 66) (.tmp 68) 26 26 rfl w.heap.size 22 (.slice none 0 0) 1 24 infoSl Try.underlying26 rfl (by decide) (.slice A7 n7 c7) (.slice (some ⟨w8.heap.size, 0, none⟩) 1 1) n7 1 vs [.slice A2 nb c2] rfl rfl ?own ?src ?b1 ?b2 ?b3 ?_; (case own => exact World.ownsRow.alloc HG2.out _); (case src => exact Src.one Try.underlying26 _ rfl); (case b1 => omega); (case b2 => unfold maxLen; omega); (case b3 => simp; omega); intro v9 w9 hown9 hg9 hfrom9; refine Hid.out ?_))
          refine Lib.hid ?_
          have hc9 : Chg (fun i => some i = (Value.slice A7 n7 c7).ownBlock) w8 w9 := ((Chg.refl _ w8).alloc _).grown hg9 (fun k hk => .inr hk.symm)
          have hO9 : Own2 w w.heap.size w9 v9 (n7 + 1) (K ++ [p]) := Own2.app HK7.out hown9 HVL.out HG3.out HBY.out
          have HO89 := Lib.hid (HO8.out.chg hc9 (fun b hb e => rows_apart HO8.out HG2.out (by decide) b hb e.symm))
          have HJ9 := Lib.hid (HJ8.out.chg hc9 (fun i hi e => (hS2 i hi).2.2 e.symm))
          have HCw9 := Lib.hid (HCw8.out.trans hc9 (fun i hi e => by have := (HO7.out.block i e.symm).1; omega))
          obtain ⟨A9, c9, rfl⟩ := ownsRow_form hown9
          have HNS9 : Hid ((∀ b, (Value.slice A8 (n6 + n5) c8).ownBlock = some b → ¬ Grow S' w6 w7 b) ∧ (∀ b, (Value.slice A9 (n7 + 1) c9).ownBlock = some b → ¬ Grow S' w6 w7 b)) := by
            constructor
            · intro b hb hS
              rcases hfrom8 with e | e
              · exact (hS2 b hS).2.1 (e ▸ hb)
              · rw [hb] at e
                cases e
                have := (hS2 _ hS).1
                omega
            · intro b hb hS
              rcases hfrom9 with e | e
              · exact (hS2 b hS).2.2 (e ▸ hb)
              · rw [hb, World.size_alloc] at e
                have e := Option.some.inj e
                have := (hS2 _ hS).1
                omega
          have HO9 := Lib.hid hO9
          clear hO9 hown9 hg9 hfrom9 hfrom8 hc9 hc8
          go_wp2
          go_roundw
          case rel =>
            refine ⟨k + 1, K ++ [p], Grow S' w6 w7, nw + (n5 + 31) / 32, true, A8, n6 + n5, c8, A9, n7 + 1, c9, by omega, by go_num, rfl, rfl, by omega, by omega, by omega, ?_, ?_, ?_, ?_, HO89.out, HO9.out, HNS9.out, HCw9.out⟩
            · show (K ++ [p]).length = n7 + 1
              rw [List.length_append, HK7.out]; rfl
            · show (encF (K ++ [p])).length = n6 + n5
              rw [encF_snoc, List.length_append, HK6.out, HL5.out]
            · exact ⟨(fun h => by cases h), (fun h => by simp at h)⟩
            · have h := HJ9.out
              rw [HL5.out] at h
              exact h
          case measure => simp only [intOf]; omega
    · have i1 : ¬ (k : Int) < (n : Int) := by omega
      have hen : (encF K).length ≤ 4194304 := by rw [HK6.out]; exact hn6
      rcases Nat.eq_zero_or_pos n7 with h70 | h7p
      · subst h70
        have hK0 : K = [] := List.eq_nil_of_length_eq_zero HK7.out
        have hth := HTH.out.2 hK0
        subst hth
        have HRD : Hid (Calls Try.prog 12 #[.pointer (some ⟨d, 0, none⟩), .string ⟨#[102]⟩] wr fun e w' => e = .returned (.tuple #[.slice none 0 0, .int .i64 4]) ∧ Chg No wr w') := by
          obtain ⟨A, n, c, AP, np, cp, AF, nf, cf, g1, g2, _⟩ := HJr.out
          exact dread_none wr d m nw _ g2
        go_wp2_with fail
        refine HRD.out.mono ?_
        rintro e w5 ⟨rfl, hc5⟩
        have HC5 := Lib.hid hc5
        have HHO := Lib.hid (holds_calls w5 _ _ j _ _ _ _ _ K (HJr.out.no hc5) hen A7 0 c7 (Sl2.ofOwn2 (HO7.out.chg hc5 (fun _ _ x => x)) (HC.out.no hc5)) HK7.out)
        clear hc5 HRD
        go_wp2_with fail
        refine HHO.out.mono ?_
        rintro e w6 ⟨rfl, hc6⟩
        have HC6 := Lib.hid hc6
        clear hc6
        go_wp2
        go_ret
        exact ⟨rfl, (HC.out.no HC5.out).no HC6.out⟩
      · have hth : th = true := by
          cases th
          · have h0 := HTH.out.1 rfl
            have h1 := HK7.out
            rw [h0] at h1
            simp at h1
            omega
          · rfl
        subst hth
        have h70 : ((n7 : Int) == 0) = false := by rw [beq_eq_false_iff_ne]; omega
        go_wp2_with fail
        refine (jread_calls wr S' w.heap.size j d m nw ⟨#[102]⟩ K HJr.out hen).mono ?_
        rintro e w5 ⟨v5, rfl, ho5, hc5⟩
        obtain ⟨A5, n5, c5, rfl, HL5, HO5⟩ := ho5.form
        have HC5 := Lib.hid hc5
        have HJ5 := Lib.hid (HJr.out.no hc5)
        have ht1 := HO5.out.bytes.text (P := Try.prog) (src := 22) (dst := 9) Try.underlying22 Try.underlying5 Try.underlying9
        have ht2 := (HO6.out.bytes.no hc5).text (P := Try.prog) (src := 22) (dst := 9) Try.underlying22 Try.underlying5 Try.underlying9
        have hbe : ((mkS (encF K)).toList == (mkS (encF K)).toList) = true := beq_self_eq_true _
        have HSIZ : Hid (Calls Try.prog 13 #[.pointer (some ⟨j, 0, none⟩)] w5 fun e w' => e = .returned (.int .i64 (n6 : Int)) ∧ w' = w5) := by
          have h := jsize_calls w5 _ _ j _ _ _ _ _ _ HJ5.out
          rw [HK6.out] at h
          exact h
        have HHO := Lib.hid (holds_calls w5 _ _ j _ _ _ _ _ K HJ5.out hen A7 n7 c7 (Sl2.ofOwn2 (HO7.out.chg hc5 (fun _ _ x => x)) (HC.out.no hc5)) HK7.out)
        clear ho5 hc5
        go_wp2_with (first | (go_at_call 13; refine HSIZ.out.mono ?_; rintro e w6 ⟨rfl, rfl⟩) | (go_at_call 14; refine HHO.out.mono ?_; rintro e w7 ⟨rfl, hc7⟩))
        go_ret
        exact ⟨rfl, (HC.out.no HC5.out).no hc7⟩

theorem journalWrites_walk (w : World) (L : Option Addr) (n c : Nat) (ls : List (List UInt8)) (hL : Sl2 w (.slice L n c) ls) (hl : ls.length = n) (hn24 : n * 24 ≤ 140737488351232 ∧ ∀ l ∈ ls, l.length ≤ 140737488351232) :
    Calls Try.prog 4 #[.slice L n c] w fun e w' => e = .returned (.bool true) ∧ Below w.heap.size w w' :=
  (journalWrites_core w L n c ls hL hl hn24.1 hn24.2).mono fun _ _ h => ⟨h.1, h.2.below⟩
end Go.Proofs.Ytbbfjnfmfigcfaa
