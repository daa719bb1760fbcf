/-
  StoreOpens, StoreOpensClose: in one text.
-/
import Derived.Test.YtccphnkdnifpfaaBa10
import Derived.Test.YtccphnkdnifpfaaBa14
import Derived.Test.YtccphnkdnifpfaaRows
import Derived.Test.YtccphnkdnifpfaaBa1
import Derived.JoinedCond
namespace Go.Proofs.Ytccphnkdnifpfaa
set_option linter.unnecessarySimpa false
open Go.RowKit Go.Shelf
set_option linter.unusedVariables false
set_option linter.unusedSimpArgs false
set_option maxRecDepth 100000

/-- What the reference's store is, behind a step. -/
theorem putI_len (ids : List Nat) (rows : List (List UInt8)) (b : List UInt8) (h : ids.length = rows.length) : (putI ids rows b).1.length = (putI ids rows b).2.1.length ∧ (putI ids rows b).1.length ≤ ids.length + 1 := by
  unfold putI
  split
  · exact ⟨h, by show ids.length ≤ _; omega⟩
  · exact ⟨by simp [h], by simp⟩
theorem putI_rows (ids : List Nat) (rows : List (List UInt8)) (b : List UInt8) (m : Nat) (h : ∀ r ∈ rows, r.length ≤ m) (hb : b.length ≤ m) : ∀ r ∈ (putI ids rows b).2.1, r.length ≤ m := by
  unfold putI
  split
  · exact h
  · intro r hr
    rcases List.mem_append.1 hr with h' | h'
    · exact h r h'
    · rw [List.mem_singleton.1 h']; exact hb
theorem putI_same (ids : List Nat) (rows : List (List UInt8)) (b : List UInt8) : ((((putI ids rows b).1.length : Nat) : Int) == (ids.length : Int)) = (findI (idF b) ids).isSome := by
  unfold putI
  split
  · rename_i q hq; simp [hq]
  · rename_i hq; simp [hq]; omega
theorem MVn.form2 {N : Nat → Prop} {w : World} {x y : Value} {ids : List Nat} {rows : List (List UInt8)} (h : MVn N w (.agg #[x, y]) ids rows) : ∃ AI nI cI AR nR cR, x = .slice AI nI cI ∧ y = .slice AR nR cR ∧ ids.length = nI := by
  obtain ⟨AI, nI, cI, AR, nR, cR, he, h1, -⟩ := h
  simp only [Value.agg.injEq, Array.mk.injEq, List.cons.injEq, and_true] at he
  obtain ⟨rfl, rfl⟩ := he
  exact ⟨AI, nI, cI, AR, nR, cR, rfl, rfl, h1.len⟩
set_option maxHeartbeats 12800000 in
theorem storeOpens_core (w : World) (L : Option Addr) (n c : Nat) (ls : List (List UInt8)) (hL : Sl2 w (.slice L n c) ls) (hl : ls.length = n) :
    Calls Try.prog 7 #[.slice L n c] w fun e w' => e = .returned (.bool true) ∧ Chg No w w' := by
  have HL := Lib.hid hl
  have HSL := Lib.hid hL
  have hmay := Lib.hid (fun w => may_obj w)
  clear hL hl
  go_enter Try.func7, Try.ntmps7
  go_wp2_with fail
  refine (swakes_calls w).mono ?_
  rintro e w1 ⟨rfl, hc1⟩
  have HC1 := Lib.hid hc1
  have hs1 := hc1.size
  clear hc1
  go_wp2_with fail
  refine (new_calls w1).mono ?_
  rintro e w2 ⟨rfl, hD, hc⟩
  have HD := Lib.hid hD
  have HC2 := Lib.hid (HC1.out.no hc)
  have hs2 := hc.size
  have hdw : w1.heap.size ≤ w1.heap.size + 1 := by omega
  clear hD hc
  generalize w1.heap.size + 1 = d at *
  generalize w1.heap.size = m at *
  have HFO := Lib.hid (fresh_open w2 w.heap.size d m 0 objK HD.out (by omega) (by omega) (by omega) (by omega))
  go_wp2_with fail
  refine HFO.out.mono ?_
  rintro e w3 ⟨j, S, rfl, hJ, hc3, hj⟩
  have HC3 := Lib.hid (HC2.out.newer hc3 (fun i hi => by rcases hi with rfl | rfl <;> omega))
  have HJ := Lib.hid hJ
  clear hJ hc3 HFO
  go_wp2_with fail
  refine (swakes_calls w3).mono ?_
  rintro e w4 ⟨rfl, hc4⟩
  have HC4 := Lib.hid (HC3.out.no hc4)
  have HJ4 := Lib.hid (HJ.out.no hc4)
  clear hc4 HJ
  have X5 := (Chg.refl No w4).alloc (.cells #[.slice none 0 0, .slice none 0 0] 70)
  have HG5 := Lib.hid (heap_alloc_new w4 (.cells #[.slice none 0 0, .slice none 0 0] 70))
  have HJ5 := Lib.hid (HJ4.out.no X5)
  have HC5 := Lib.hid (HC4.out.no X5)
  have HNS5 : Hid (∀ i, S i → i < w4.heap.size) := fun i hi => (HJ4.out.lt i hi).2
  have hz5 : (w4.alloc (.cells #[.slice none 0 0, .slice none 0 0] 70)).heap.size = w4.heap.size + 1 := World.size_alloc _ _
  have hs4 := HC4.out.size
  clear X5 HJ4
  go_wp2
  generalize w4.alloc (.cells #[.slice none 0 0, .slice none 0 0] 70) = w5 at *
  generalize w4.heap.size = g6 at *
  go_loopw [7, 8, 36] (fun vb vz i wr => ∃ (k : Nat) (B : Bool) (z : Int) (ids : List Nat) (rows : List (List UInt8)) (S N : Nat → Prop) (nw : Nat) (th : Bool) (x6 y6 : Value), k ≤ n ∧ k ≤ 40 ∧ vb = .bool B ∧ vz = .int .i64 z ∧ i = .int .i64 (k : Int) ∧ 0 ≤ z ∧ z ≤ 5100 * k ∧ nw ≤ 200 * k ∧
      Hid (B = !okF [] (ls.take k)) ∧ Hid (B = false → ids = (ls.take k).map idF ∧ rows = ls.take k) ∧ Hid (ids.length = rows.length) ∧ Hid (ids.length ≤ k) ∧ Hid (∀ r ∈ rows, r.length ≤ 5000) ∧ Hid (∀ r ∈ ls.take k, r.length ≤ 5000) ∧
      Hid (JD wr S w.heap.size j d m nw objK th (ls.take k)) ∧ Hid (wr.heap[g6]? = some (.cells #[x6, y6] 70 (0, 0))) ∧ Hid (MVn N wr (.agg #[x6, y6]) ids rows) ∧ Hid (¬ S g6) ∧ Hid (∀ i, N i → ¬ S i ∧ i ≠ g6 ∧ i < wr.heap.size) ∧ Hid (∀ i, i < w.heap.size → N i) ∧ g6 < wr.heap.size ∧ Hid (Chg No w wr))
    (fun _ _ i _ => n - (intOf i).toNat)
  case atStart =>
    refine ⟨0, false, 0, [], [], S, fun i => i < w.heap.size, 0, false, _, _, by omega, by omega, rfl, rfl, rfl, by omega, by omega, by omega, rfl, fun _ => ⟨rfl, rfl⟩, rfl, Nat.le_refl _, (fun r h => by cases h), (fun r h => by simp at h), HJ5.out, HG5.out, MVn.nil _ _, (fun h => by have := HNS5.out _ h; omega), (fun i hi => ⟨fun h => ?_, by omega, by omega⟩), (fun i hi => hi), by omega, HC5.out⟩
    have := (HJ5.out.lt i h).1; omega
  case round =>
    obtain ⟨k, B, z, ids, rows, S', N, nw, th, x6, y6, hk, hk40, rfl, rfl, rfl, hz0, hz1, hnw, HB, HIR, HLR, HIK, HRW, HTK, HJr, HG6, HM, HNS, HN, HNW, hg6, HC⟩ := hrel
    have hwr := HC.out.size
    have hkl2 : (ls.take k).length ≤ k := by rw [List.length_take]; omega
    have hen : (encF (ls.take k)).length ≤ 200720 := by
      have := encF_le (ls.take k) 5000 HTK.out (by omega)
      have h2 : (5000 + 18) * (ls.take k).length ≤ (5000 + 18) * k := Nat.mul_le_mul_left _ hkl2
      omega
    have hen2 : (encF (ls.take k)).length ≤ 4194304 := by omega
    have HEN := Lib.hid hen
    have HEN2 := Lib.hid hen2
    clear hen hen2
    rcases Nat.lt_or_ge k n with hlt | hge
    · have i1 : (k : Int) < (n : Int) := by omega
      have hkl : k < ls.length := by have := HL.out; omega
      obtain ⟨lb, lo, rfl, hget⟩ := HSL.out.get (by omega)
      obtain ⟨A2, q2, c2, hcell, hby, HQ2⟩ := hget k hkl
      have hcell := HC.out.cell hcell (fun x => x)
      have HBN : Hid (BytesN N wr (.slice A2 q2 c2) ls[k]) := (BytesN.old hby HNW.out).no HC.out
      have HT1 : Hid (ls.take (k + 1) = ls.take k ++ [ls[k]]) := by rw [Hid, List.take_succ_eq_append_getElem]
      obtain ⟨p, hp⟩ : ∃ p, ls[k] = p := ⟨_, rfl⟩
      rw [hp] at HBN HQ2 HT1
      clear hp hby hget
      by_cases h40 : k = 40
      · have i2 : ((k : Int) == 40) = true := by rw [beq_iff_eq]; omega
        clear h40
        have HSO := Lib.hid (sopen_any wr S' w.heap.size j d m nw th (ls.take k) HJr.out (fun p hp => Nat.le_trans (HTK.out p hp) (by omega)) HEN2.out (by omega) (by omega))
        go_wp2_with fail
        refine HSO.out.mono ?_
        rintro e w5' ⟨hR, hc5'⟩
        cases B with
        | true =>
          have hok : okF [] (ls.take k) = false := by have := HB.out; revert this; cases okF [] (ls.take k) <;> simp
          obtain rfl := hR.2 hok
          have HCF := Lib.hid (HC.out.no hc5')
          clear hok hR hc5' HSO
          go_wp2
          go_ret
          exact ⟨rfl, HCF.out⟩
        | false =>
          have hok : okF [] (ls.take k) = true := by have := HB.out; revert this; cases okF [] (ls.take k) <;> simp
          obtain ⟨s, mp, j2, S2, rfl, hS, hS2⟩ := hR.1 hok
          have HHO := Lib.hid (holds7_calls w5' S2 w.heap.size s mp j2 d m nw th (ls.take k) hS hok HEN2.out (by omega) (fun p hp => Nat.le_trans (HTK.out p hp) (by omega)) (.agg #[x6, y6]) (by have := (HM.out.no hc5').mv; rw [(HIR.out rfl).1, (HIR.out rfl).2] at this; exact this))
          have HCF := Lib.hid (HC.out.no hc5')
          obtain ⟨e0, e1⟩ := cells2 (hc5'.heap HG6.out (fun x => x))
          clear hok hR hc5' HSO hS hS2
          go_wp2_with fail
          refine HHO.out.mono ?_
          rintro e w6 ⟨rfl, hc6⟩
          go_wp2
          go_ret
          exact ⟨rfl, HCF.out.no hc6⟩
      · have i2 : ((k : Int) == 40) = false := by rw [beq_eq_false_iff_ne]; omega
        by_cases hbig : 5000 < q2
        · have i3 : (5000 : Int) < (q2 : Int) := by omega
          have HSO := Lib.hid (sopen_any wr S' w.heap.size j d m nw th (ls.take k) HJr.out (fun p hp => Nat.le_trans (HTK.out p hp) (by omega)) HEN2.out (by omega) (by omega))
          go_wp2_with fail
          refine HSO.out.mono ?_
          rintro e w5' ⟨hR, hc5'⟩
          cases B with
          | true =>
            have hok : okF [] (ls.take k) = false := by have := HB.out; revert this; cases okF [] (ls.take k) <;> simp
            obtain rfl := hR.2 hok
            have HCF := Lib.hid (HC.out.no hc5')
            clear hok hR hc5' HSO
            go_wp2
            go_ret
            exact ⟨rfl, HCF.out⟩
          | false =>
            have hok : okF [] (ls.take k) = true := by have := HB.out; revert this; cases okF [] (ls.take k) <;> simp
            obtain ⟨s, mp, j2, S2, rfl, hS, hS2⟩ := hR.1 hok
            have HHO := Lib.hid (holds7_calls w5' S2 w.heap.size s mp j2 d m nw th (ls.take k) hS hok HEN2.out (by omega) (fun p hp => Nat.le_trans (HTK.out p hp) (by omega)) (.agg #[x6, y6]) (by have := (HM.out.no hc5').mv; rw [(HIR.out rfl).1, (HIR.out rfl).2] at this; exact this))
            have HCF := Lib.hid (HC.out.no hc5')
            obtain ⟨e0, e1⟩ := cells2 (hc5'.heap HG6.out (fun x => x))
            clear hok hR hc5' HSO hS hS2
            go_wp2_with fail
            refine HHO.out.mono ?_
            rintro e w6 ⟨rfl, hc6⟩
            go_wp2
            go_ret
            exact ⟨rfl, HCF.out.no hc6⟩
        · have i3 : ¬ (5000 : Int) < (q2 : Int) := by omega
          have hpl : p.length ≤ 5000 := by have := HQ2.out; omega
          have HRL := Lib.hid (recF_len p (by omega))
          go_wp2_with fail
          refine (refrecord_calls wr A2 q2 c2 p HBN.out.1 HQ2.out (by omega)).mono ?_
          rintro e w6 ⟨v6, rfl, ho6, hc6⟩
          obtain ⟨A6, n6, c6, rfl, HL6, HO6⟩ := ho6.form
          have hn6 : n6 ≤ 5018 := by have := HL6.out; have := HRL.out; omega
          have HC6 := Lib.hid hc6
          have hs6 := hc6.size
          clear ho6 hc6
          go_wp2_with (at_builtin; (refine wpList_app2 rfl (.tmp 54) (.tmp 55) 30 30 rfl w6.heap.size 5 (.int .u8 0) 1 1 infoU8 Try.underlying30 rfl (by decide) (.slice (some ⟨w6.heap.size, 0, none⟩) 0 0) (.slice A2 q2 c2) 0 q2 (u8s []) (u8s p) rfl rfl ?own ?src ?b1 ?b2 ?b3 ?_; (case own => exact OwnB.n (OwnB.lit w6 [] (by decide)) rfl); (case src => exact Src.ofBytes Try.underlying30 (HBN.out.1.no (HC6.out.alloc _)) HQ2.out); (case b1 => omega); (case b2 => unfold maxLen; omega); (case b3 => simp); intro vb w7 hown hg hfrom; refine Hid.out ?_))
          refine Lib.hid ?_
          obtain ⟨hob, hc7⟩ := scopy_own hown hg
          obtain ⟨AB, nb, cb, rfl, HLB, HOB⟩ := hob.form
          have hnb : nb = q2 := by have := HLB.out; have := HQ2.out; omega
          subst hnb
          have HC67 := Lib.hid (HC6.out.no hc7)
          have hs7 := hc7.size
          clear hob hown hg hfrom hc7
          have HJ7 := Lib.hid (HJr.out.no HC67.out)
          have hfresh : ∀ b, (Value.slice AB nb cb).ownBlock = some b → ¬ S' b := fun b hb => HJr.out.boundary (by have := (HOB.out.block b hb).1; omega)
          have HJA := Lib.hid (jappend_calls w7 S' w.heap.size j d m nw objK hmay.out th (ls.take k) AB nb cb p HJ7.out HOB.out.bytes HLB.out hfresh (by omega) (by have := HEN.out; have := HRL.out; omega) (by omega))
          clear hfresh
          go_wp2_with fail
          refine HJA.out.mono ?_
          rintro e w8 ⟨rfl, hJ8, hc8⟩
          have HJ8 := Lib.hid hJ8
          have HC8 := Lib.hid hc8
          have hs8 := hc8.size
          clear hJ8 hc8 HJA
          have HG8 := Lib.hid (HC8.out.heap (HC67.out.heap HG6.out (fun x => x)) HNS.out)
          have HM8 := Lib.hid ((HM.out.no HC67.out).chg HC8.out (fun b hb => (HN.out b hb).1))
          have HB8 := Lib.hid ((HBN.out.no HC67.out).chg HC8.out (fun b hb => (HN.out b hb).1))
          have HCw8 := Lib.hid ((HC.out.no HC67.out).newer HC8.out (fun i hi => (HJr.out.lt i hi).1))
          have hnw8 : nw + ((recF p).length + 31) / 32 ≤ 200 * (k + 1) := by have := HRL.out; omega
          generalize nw + ((recF p).length + 31) / 32 = nw8 at *
          have hg8 : g6 < w8.heap.size := by omega
          have HNS8 : Hid (¬ Grow S' w7 w8 g6) := by
            rintro (h | h)
            · exact HNS.out h
            · omega
          have HN8 : Hid (∀ i, N i → ¬ Grow S' w7 w8 i ∧ i ≠ g6 ∧ i < w8.heap.size) := fun i hi => by
            obtain ⟨a, b, c⟩ := HN.out i hi
            refine ⟨?_, b, by omega⟩
            rintro (h | h)
            · exact a h
            · omega
          have HGL8 : Hid (∀ i, Grow S' w7 w8 i → i < w8.heap.size) := fun i hi => (HJ8.out.lt i hi).2
          generalize Grow S' w7 w8 = S8 at *
          clear HC8 HJ7 HJr HM HG6 HNS HN HOB HO6 HL6 HLB
          obtain ⟨AI, nI, cI, AY, nY, cY, rfl, rfl, hnI⟩ := HM8.out.form2
          have HNI := Lib.hid hnI
          clear hnI
          have HRP := Lib.hid (refputN_calls N w8 (.agg #[.slice AI nI cI, .slice AY nY cY]) ids rows HM8.out HLR.out (by have := HIK.out; omega) (fun r hr => Nat.le_trans (HRW.out r hr) (by omega)) A2 nb c2 p HB8.out HQ2.out (by omega))
          have HPL := Lib.hid (putI_len ids rows p HLR.out)
          have HPR := Lib.hid (putI_rows ids rows p 5000 HRW.out hpl)
          have HPS := Lib.hid (putI_same ids rows p)
          have HPN : Hid (findI (idF p) ids = none → putI ids rows p = (ids ++ [idF p], rows ++ [p], true)) := fun h => by unfold putI; rw [h]
          generalize putI ids rows p = PP at *
          obtain ⟨ids', rows', bb⟩ := PP
          obtain ⟨e0, e1⟩ := cells2 HG8.out
          go_wp2_with fail
          refine HRP.out.mono ?_
          rintro e w9 ⟨v9, rfl, hM9, hc9⟩
          obtain ⟨x9, y9, rfl⟩ := hM9.form
          obtain ⟨AJ, nJ, cJ, AZ, nZ, cZ, rfl, rfl, hnJ⟩ := hM9.form2
          have HNJ := Lib.hid hnJ
          have HM9 := Lib.hid hM9
          have HC9 := Lib.hid hc9
          have hs9 := hc9.size
          clear hM9 hc9 HRP e0 e1 hnJ
          have X10 := (Chg.refl No w9).alloc (.cells #[.slice AJ nJ cJ, .slice AZ nZ cZ] 70)
          have HC10 := Lib.hid (HC9.out.no X10)
          have HG10 := Lib.hid (HC10.out.heap HG8.out (fun x => x))
          have HG11 := Lib.hid (heap_alloc_new w9 (.cells #[.slice AJ nJ cJ, .slice AZ nZ cZ] 70))
          have HM10 := Lib.hid (HM9.out.no X10)
          have hz10 : (w9.alloc (.cells #[.slice AJ nJ cJ, .slice AZ nZ cZ] 70)).heap.size = w9.heap.size + 1 := World.size_alloc _ _
          have HB10 := Lib.hid (HB8.out.no HC10.out)
          have HJ10 := Lib.hid (HJ8.out.no HC10.out)
          have HCw10 := Lib.hid (HCw8.out.no HC10.out)
          clear X10
          obtain ⟨e0, e1⟩ := cells2 HG10.out
          obtain ⟨r0, r1⟩ := cells2 HG11.out
          have HRT := Lib.hid (refright_calls _ A2 nb c2 p HB10.out.1 HQ2.out (by omega))
          have hlen : ((nJ : Int) == (nI : Int)) = (findI (idF p) ids).isSome := by rw [← HPS.out, HNJ.out, HNI.out]
          have HOS : Hid (okF [] (ls.take (k + 1)) = (okF [] (ls.take k) && ((decF p).isSome && (findI (idF p) ((ls.take k).map idF)).isNone))) := by rw [Hid, HT1.out, okF_snoc]
          have HFI : Hid (B = false → findI (idF p) ids = findI (idF p) ((ls.take k).map idF)) := fun h => by rw [(HIR.out h).1]
          have f0 := frzAt HG10.out 0
          have f1 := frzAt HG10.out 1
          have HTK1 : Hid (∀ r ∈ ls.take (k + 1), r.length ≤ 5000) := fun r hr => by
            rw [HT1.out] at hr
            rcases List.mem_append.1 hr with h | h
            · exact HTK.out r h
            · rw [List.mem_singleton.1 h]; exact hpl
          rw [← HT1.out] at HJ10
          have hgg : ¬ g6 = w9.heap.size := by omega
          have hgg2 : ¬ w9.heap.size = g6 := by omega
          generalize hw10 : w9.alloc (.cells #[.slice AJ nJ cJ, .slice AZ nZ cZ] 70) = w10 at *
          generalize hg11 : w9.heap.size = g11 at *
          clear HJ8 HG8 HM8 HB8 HCw8 HM9 HC9
          have HFIN : Hid (∀ V, Chg No w10 V → ∀ U, U = (V.setCell ⟨g6, 0, none⟩ (.slice AJ nJ cJ)).setCell ⟨g6, 1, none⟩ (.slice AZ nZ cZ) → JD U S8 w.heap.size j d m nw8 objK true (ls.take (k + 1)) ∧ U.heap[g6]? = some (.cells #[.slice AJ nJ cJ, .slice AZ nZ cZ] 70 (0, 0)) ∧ MVn (Plus N w8 w9) U (.agg #[.slice AJ nJ cJ, .slice AZ nZ cZ]) ids' rows' ∧ (∀ i, Plus N w8 w9 i → ¬ S8 i ∧ i ≠ g6 ∧ i < U.heap.size) ∧ (∀ i, i < w.heap.size → Plus N w8 w9 i) ∧ g6 < U.heap.size ∧ Chg No w U) := by
            intro V hV U hU
            have hcc : Chg (One g6) V U := by rw [hU]; exact ((Chg.refl (One g6) V).setCell (p := ⟨g6, 0, none⟩) (.inr rfl) _).setCell (p := ⟨g6, 1, none⟩) (.inr rfl) _
            have hzU := hcc.size
            have hzV := hV.size
            refine ⟨(HJ10.out.no hV).chg hcc (fun i hi e => HNS8.out (by have e : i = g6 := e; rw [← e]; exact hi)), ?_, (HM10.out.no hV).chg hcc (fun b hb e => ?_), fun i hi => ?_, fun i hi => .inl (HNW.out i hi), by omega, (HCw10.out.no hV).trans hcc (fun i hi e => by have e : i = g6 := e; omega)⟩
            · rw [hU]
              exact heap_set (heap_set (hV.heap HG10.out (fun x => x)) 0 _) 1 _
            · have e : b = g6 := e
              rcases hb with h | h
              · exact (HN8.out b h).2.1 e
              · omega
            · rcases hi with h | h
              · obtain ⟨a, b, c⟩ := HN8.out i h
                exact ⟨a, b, by omega⟩
              · exact ⟨fun hs => by have := HGL8.out i hs; omega, by omega, by omega⟩
          cases hB : B with
          | true =>
            subst hB
            have HOK1 : Hid (true = !okF [] (ls.take (k + 1))) := by
              have := HB.out
              rw [Hid, HOS.out]
              revert this
              cases okF [] (ls.take k) <;> simp
            clear hlen HFI HIR HB
            go_wp2
            go_roundw
            case rel => 
              obtain ⟨t1, t2, t3, t4, t5, t6, t7⟩ := HFIN.out w10 (Chg.refl No w10) _ rfl
              exact ⟨k + 1, true, z + n6, ids', rows', S8, Plus N w8 w9, nw8, true, _, _, by omega, by omega, rfl, by go_num, by go_num, by omega, by omega, hnw8, HOK1.out, (fun h => by cases h), HPL.out.1, (by have h1 : ids'.length ≤ ids.length + 1 := HPL.out.2; have h2 := HIK.out; show ids'.length ≤ k + 1; omega), HPR.out, HTK1.out, t1, t2, t3, HNS8.out, t4, t5, t6, t7⟩
            case measure => simp only [intOf]; omega
          | false =>
            subst hB
            have HOK0 : Hid (okF [] (ls.take k) = true) := by have := HB.out; rw [Hid]; revert this; cases okF [] (ls.take k) <;> simp
            cases hf : findI (idF p) ids with
            | some q =>
              have HOK1 : Hid (true = !okF [] (ls.take (k + 1))) := by
                rw [Hid, HOS.out, ← HFI.out rfl, hf]; simp
              rw [hf] at hlen
              simp only [Option.isSome_some] at hlen
              clear hf HFI HIR HB
              go_wp2
              go_roundw
              case rel => 
                obtain ⟨t1, t2, t3, t4, t5, t6, t7⟩ := HFIN.out w10 (Chg.refl No w10) _ rfl
                exact ⟨k + 1, true, z + n6, ids', rows', S8, Plus N w8 w9, nw8, true, _, _, by omega, by omega, rfl, by go_num, by go_num, by omega, by omega, hnw8, HOK1.out, (fun h => by cases h), HPL.out.1, (by have h1 : ids'.length ≤ ids.length + 1 := HPL.out.2; have h2 := HIK.out; show ids'.length ≤ k + 1; omega), HPR.out, HTK1.out, t1, t2, t3, HNS8.out, t4, t5, t6, t7⟩
              case measure => simp only [intOf]; omega
            | none =>
              have HPP := Lib.hid (HPN.out hf)
              rw [hf] at hlen
              simp only [Option.isSome_none] at hlen
              have HOK1 : Hid ((!(decF p).isSome) = !okF [] (ls.take (k + 1))) := by
                rw [Hid, HOS.out, ← HFI.out rfl, hf, HOK0.out]; simp
              have HIR1 : Hid (ids' = (ls.take (k + 1)).map idF ∧ rows' = ls.take (k + 1)) := by
                have h := HPP.out
                simp only [Prod.mk.injEq] at h
                obtain ⟨h1, h2, -⟩ := h
                obtain ⟨h3, h4⟩ := HIR.out rfl
                refine ⟨?_, ?_⟩
                · rw [h1, h3, HT1.out, List.map_append]; rfl
                · rw [h2, h4, HT1.out]
              clear hf HFI HIR HB HPP HPN
              generalize (decF p).isSome = D at *
              go_wp2_with fail
              refine HRT.out.mono ?_
              rintro e w11 ⟨rfl, hc11⟩
              have HC11 := Lib.hid hc11
              have d0 := (cells2 (hc11.heap HG10.out (fun x => x))).1
              have d1 := (cells2 (hc11.heap HG10.out (fun x => x))).2
              have k0 := (cells2 (hc11.heap HG11.out (fun x => x))).1
              have k1 := (cells2 (hc11.heap HG11.out (fun x => x))).2
              have f2 := frzAt (hc11.heap HG10.out (fun x => x)) 0
              have f3 := frzAt (hc11.heap HG10.out (fun x => x)) 1
              clear hc11 e0 e1 r0 r1 f0 f1
              go_wp2
              go_roundw
              case rel => 
                obtain ⟨t1, t2, t3, t4, t5, t6, t7⟩ := HFIN.out w11 HC11.out _ rfl
                exact ⟨k + 1, !D, z + n6, ids', rows', S8, Plus N w8 w9, nw8, true, _, _, by omega, by omega, rfl, by go_num, by go_num, by omega, by omega, hnw8, HOK1.out, (fun _ => HIR1.out), HPL.out.1, (by have h1 : ids'.length ≤ ids.length + 1 := HPL.out.2; have h2 := HIK.out; show ids'.length ≤ k + 1; omega), HPR.out, HTK1.out, t1, t2, t3, HNS8.out, t4, t5, t6, t7⟩
              case measure => simp only [intOf]; omega
    · have i1 : ¬ (k : Int) < (n : Int) := by omega
      have HSO := Lib.hid (sopen_any wr S' w.heap.size j d m nw th (ls.take k) HJr.out (fun p hp => Nat.le_trans (HTK.out p hp) (by omega)) HEN2.out (by omega) (by omega))
      go_wp2_with fail
      refine HSO.out.mono ?_
      rintro e w5' ⟨hR, hc5'⟩
      cases B with
      | true =>
        have hok : okF [] (ls.take k) = false := by have := HB.out; revert this; cases okF [] (ls.take k) <;> simp
        obtain rfl := hR.2 hok
        have HCF := Lib.hid (HC.out.no hc5')
        clear hok hR hc5' HSO
        go_wp2
        go_ret
        exact ⟨rfl, HCF.out⟩
      | false =>
        have hok : okF [] (ls.take k) = true := by have := HB.out; revert this; cases okF [] (ls.take k) <;> simp
        obtain ⟨s, mp, j2, S2, rfl, hS, hS2⟩ := hR.1 hok
        have HHO := Lib.hid (holds7_calls w5' S2 w.heap.size s mp j2 d m nw th (ls.take k) hS hok HEN2.out (by omega) (fun p hp => Nat.le_trans (HTK.out p hp) (by omega)) (.agg #[x6, y6]) (by have := (HM.out.no hc5').mv; rw [(HIR.out rfl).1, (HIR.out rfl).2] at this; exact this))
        have HCF := Lib.hid (HC.out.no hc5')
        obtain ⟨e0, e1⟩ := cells2 (hc5'.heap HG6.out (fun x => x))
        clear hok hR hc5' HSO hS hS2
        go_wp2_with fail
        refine HHO.out.mono ?_
        rintro e w6 ⟨rfl, hc6⟩
        go_wp2
        go_ret
        exact ⟨rfl, HCF.out.no hc6⟩
theorem storeOpens_walk (w : World) (L : Option Addr) (n c : Nat) (ls : List (List UInt8)) (hL : Sl2 w (.slice L n c) ls) (hl : ls.length = n) :
    Calls Try.prog 7 #[.slice L n c] w fun e w' => e = .returned (.bool true) ∧ Below w.heap.size w w' :=
  (storeOpens_core w L n c ls hL hl).mono fun _ _ h => ⟨h.1, h.2.below⟩
end Go.Proofs.Ytccphnkdnifpfaa

namespace Go.Proofs.Ytccphnkdnifpfaa.storeOpens
set_option linter.unnecessarySimpa false
open Go.Proofs.Ytccphnkdnifpfaa
open Go.ChangeShapes Go.WideShapes Go.ChangeAt Go.RowKit
open Go.ChangeMaps (open_string shut_string)
set_option linter.unusedVariables false
set_option linter.unusedSimpArgs false

set_option maxRecDepth 100000 in
theorem lifted (os : Os) (started : os.Started) (H : Type) (enc : TypeId × Value → H) (F : Stop.Interp) :
    ReturnsInHanded {} Try.checked os 7 .any ((Rows.OpenSpec.upto Rows.storeOpensSpec).pre6 enc Try.prog Try.f7 Rows.storeOpensUptoRow.domain false) (((Rows.OpenSpec.upto Rows.storeOpensSpec).at F).post enc Try.prog Try.f7 false true false false) := by
  refine returnsInHanded_of_cond (C := Try.checked) (s := (Rows.OpenSpec.upto Rows.storeOpensSpec)) (k := Rows.uptoSmall) rfl own started (by kernel_rfl) Try.func7
    (OpenSpec.witness (enc := enc) (C := Try.checked) (s := (Rows.OpenSpec.upto Rows.storeOpensSpec)) (k := Rows.uptoSmall) rfl false ⟨#[], #[.slice none 0 0], []⟩ 8 (by kernel_rfl) (by kernel_rfl) (by kernel_rfl)
      (x := ([.nil], [], [])) (by kernel_rfl) rfl (by kernel_rfl)) ?_
  intro W base args ds gs before hval0 hW _ hk0 _
  have hval : ∀ (j : Nat) t v, Try.f7.params[j]? = some t → args[j]? = some v → Value.okWide Try.prog W .any base t v := hval0
  have hW' := hW
  obtain ⟨p, q, hA0, hV, rfl, hfz, hnd⟩ := hW
  have hA : DataW.TrodAll enc Try.prog W 0 (fun _ => true) true Try.f7.params.toList args.toList ds p := hA0
  rw [Try.params7] at hA hval
  obtain ⟨v0, vs0, d0, ds0, p0, q0, hargs, rfl, rfl, h0, r0⟩ := trodAll_cons hA
  obtain ⟨rfl, rfl, rfl⟩ := trodAll_nil r0
  obtain rfl : args = #[v0] := by cases args; simp_all
  obtain ⟨rfl, rfl⟩ := trodVars_none hV
  have hk := bulks.bound hk0
  simp only [List.append_nil, Rows.uptoBulkAll] at hk
  have k0 := h0
  have lt0 : ∀ x ∈ p0, x.block < W.heap.size := by obtain ⟨m, hm⟩ := k0; exact DataW.trod_lt m _ _ _ hm
  obtain ⟨A0, n0, c0, xs0, rfl, w0, l0, e0, f0⟩ := open_rows Try.underlying22 Try.underlying30 Try.underlying5 (by kernel_rfl) (by kernel_rfl) (hval 0 22 v0 rfl rfl) h0
  clear hA0 hval0
  refine (storeOpens_walk W A0 n0 c0 xs0 w0 l0).mono fun e W' ⟨he, bel⟩ => ?_
  subst he
  exact ⟨_, rfl, _, _, _, [], _, [], hW', trodAll_mk1 (shut_bool Try.underlying4 _), (trodAll_cons_mk (Below.trod laidOut (by kernel_rfl) (of_decide_eq_true (by kernel_rfl)) k0 bel lt0) trodAll_mk0), rfl, bel.frame _, fun h => by cases h⟩

theorem over : Rows.storeOpensUptoRow.holds Try.pinned (Rows.OpenSpec.upto Rows.storeOpensSpec) :=
  OpenClaim.holds_of_cond 7 Try.f7 rfl rfl rfl rfl rfl rfl rfl ⟨rfl, rfl, rfl, rfl, rfl⟩ rfl rfl rfl rfl rfl (by kernel_rfl) Try.func7 (by kernel_rfl)
    (of_decide_eq_true (by kernel_rfl)) (by unfold Func.isWrapper; first | (rw [if_pos (by decide +kernel)]; kernel_rfl) | (rw [if_neg (by decide +kernel)]; exact ⟨rfl, rfl⟩))
    (fun os started H enc _ F => lifted os started H enc F)

theorem proved : Rows.StoreOpensUptoSaid := over
#print axioms proved
end Go.Proofs.Ytccphnkdnifpfaa.storeOpens

