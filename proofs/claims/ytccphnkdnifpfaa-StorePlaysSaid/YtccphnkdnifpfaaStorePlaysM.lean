/-
  StorePlays, StorePlaysTo, StorePlaysClose: in one text.
-/
import Derived.Test.YtccphnkdnifpfaaBa10
import Derived.Test.YtccphnkdnifpfaaBa15
import Derived.Test.YtccphnkdnifpfaaBa1
import Derived.Test.YtccphnkdnifpfaaBa14
import Derived.Test.YtccphnkdnifpfaaBa9
import Derived.Test.YtccphnkdnifpfaaRows
namespace Go.Proofs.Ytccphnkdnifpfaa
set_option linter.unnecessarySimpa false
open Go.RowKit Go.Shelf
set_option linter.unusedVariables false
set_option linter.unusedSimpArgs false
set_option maxRecDepth 100000

/-- A row of things. -/
def Ths (w : World) (v : Value) (qs : List Thg) : Prop :=
  ∃ A c, v = .slice A qs.length c ∧ (0 < qs.length → ∃ b o, A = some ⟨b, o, none⟩ ∧ ∀ i (hi : i < qs.length), ∃ cs : Array Value, ThC w qs[i] cs ∧ ∀ j u, cs[j]? = some u → w.cell? ⟨b, o + i * 8 + j, none⟩ = some u)
theorem Ths.get {w : World} {A : Option Addr} {n c : Nat} {qs : List Thg} (h : Ths w (.slice A n c) qs) (hp : 0 < qs.length) :
    ∃ b o, A = some ⟨b, o, none⟩ ∧ ∀ i (hi : i < qs.length), ∃ cs : Array Value, ThC w qs[i] cs ∧ ∀ j u, cs[j]? = some u → w.cell? ⟨b, o + i * 8 + j, none⟩ = some u := by
  obtain ⟨A', c', he, hx⟩ := h
  simp only [Value.slice.injEq] at he
  obtain ⟨rfl, -, -⟩ := he
  exact hx hp
theorem obB_len7 (o : Ob) (hc : obCheck o = 0) : (obB o).length ≤ 16000 := by
  cases o with
  | blob l =>
    have h4 : ¬ 4096 < l.length := by
      intro h4
      have : obCheck (.blob l) = 3 := if_pos h4
      rw [this] at hc
      cases hc
    simp [obB]
    omega
  | tree l =>
    have hc : treeF l = 0 := hc
    obtain ⟨h1, h2⟩ := treeF_zero hc
    have h3 := entsB_len l (fun x hx => (h2 x hx).1)
    have h4 := leb_len10 l.length (by omega)
    simp only [obB, treeB, List.length_append, List.length_cons, List.length_nil]
    omega
  | commit t ps a d x =>
    have hc : ((commitF t ps a x : Nat) : Int) = 0 := hc
    have := commitB_len (d := d) (show commitF t ps a x = 0 by omega)
    simp [obB]
    omega
theorem Thg.wf {q : Thg} (h : q.ok) {o : Ob} (ho : q.ob = some o) : Wf o := by
  obtain ⟨o1, o2, o3, o4, o5, -⟩ := h
  unfold Thg.ob at ho
  split at ho
  · cases ho; trivial
  · split at ho
    · cases ho; exact fun x hx => (o1 x hx).2
    · split at ho
      · cases ho; exact ⟨o3, o2, o4, o5⟩
      · cases ho
/-- What a thing's bytes are, where nothing is wrong. -/
theorem Thg.right {q : Thg} (h : q.ok) (he : errO q.ob = 0) : (bytO q.ob).length ≤ 16000 ∧ (decF (bytO q.ob)).isSome = true := by
  cases ho : q.ob with
  | none => rw [ho] at he; cases he
  | some o =>
    rw [ho] at he
    have hc : obCheck o = 0 := he
    have hb : bytO (some o) = obB o := if_pos hc
    rw [hb, dec_whole o (Thg.wf h ho) hc]
    exact ⟨obB_len7 o hc, rfl⟩
theorem SD.jd {S : Nat → Prop} {w : World} {base s mp j d m wr : Nat} {th : Bool} {ps : List (List UInt8)} (h : SD w S base s mp j d m wr th ps) : ∃ SJ, JD w SJ base j d m wr objK th ps := by
  obtain ⟨v, SJ, h1, h2, -⟩ := h; exact ⟨SJ, h2⟩
set_option maxHeartbeats 25600000 in
theorem storePlays_core (w : World) (L : Option Addr) (n c : Nat) (qs : List Thg) (hL : Ths w (.slice L n c) qs) (hl : qs.length = n) (hq : ∀ q ∈ qs, q.ok) (ask : Nat) :
    Calls Try.prog 6 #[.slice L n c, .int .u64 (ask : Int)] w fun e w' => e = .returned (.bool true) ∧ Chg No w w' := by
  have HL := Lib.hid hl
  have HSL := Lib.hid hL
  have HQ := Lib.hid hq
  clear hL hl hq
  go_enter Try.func6, Try.ntmps6
  go_wp2_with fail
  refine (swakes_calls w).mono ?_
  rintro e w1 ⟨rfl, hc1⟩
  have HC1 := Lib.hid hc1
  have hs1 := hc1.size
  clear hc1
  go_wp2_with fail
  refine (new_calls w1).mono ?_
  rintro e w2 ⟨rfl, hD, hc⟩
  have HMO := Lib.hid (made_open w1 w2 hc hD (by have := hD.cells; have h1 := (Array.getElem?_eq_some_iff.1 hD.1).1; omega))
  clear hD hc
  generalize hd : w1.heap.size + 1 = d at *
  generalize hm : w1.heap.size = m at *
  go_wp2_with fail
  refine HMO.out.mono ?_
  rintro e w3 ⟨s, mp, j, S, rfl, hS, hc3⟩
  have HC3 := Lib.hid (HC1.out.no hc3)
  have HS3 := Lib.hid hS
  clear hS hc3 HMO
  go_wp2_with fail
  refine (swakes_calls w3).mono ?_
  rintro e w4 ⟨rfl, hc4⟩
  have HC4 := Lib.hid (HC3.out.no hc4)
  have HS4 := Lib.hid (HS3.out.no hc4)
  clear hc4 hd hm HS3
  have X5 := (Chg.refl No w4).alloc (.cells #[.slice none 0 0, .slice none 0 0] 70)
  have HG5 := Lib.hid (heap_alloc_new w4 (.cells #[.slice none 0 0, .slice none 0 0] 70))
  have HS5 := Lib.hid (HS4.out.no X5)
  have HC5 := Lib.hid (HC4.out.no X5)
  have HNS5 : Hid (∀ i, S i → i < w4.heap.size) := fun i hi => (HS4.out.lt i hi).2
  have hz5 : (w4.alloc (.cells #[.slice none 0 0, .slice none 0 0] 70)).heap.size = w4.heap.size + 1 := World.size_alloc _ _
  have hs4 := HC4.out.size
  clear X5 HS4
  go_wp2
  generalize w4.alloc (.cells #[.slice none 0 0, .slice none 0 0] 70) = w5 at *
  generalize w4.heap.size = g6 at *
  go_loopw [41] (fun i wr => ∃ (k : Nat) (ps : List (List UInt8)) (S N : Nat → Prop) (nw : Nat) (th : Bool) (x6 y6 : Value), k ≤ n ∧ k ≤ 60 ∧ i = .int .i64 (k : Int) ∧ nw ≤ 600 * k ∧
      Hid (okF [] ps = true) ∧ Hid (ps.length ≤ k) ∧ Hid (∀ r ∈ ps, r.length ≤ 16000) ∧
      Hid (SD wr S m s mp j d m nw th ps) ∧ Hid (wr.heap[g6]? = some (.cells #[x6, y6] 70 (0, 0))) ∧ Hid (MVn N wr (.agg #[x6, y6]) (ps.map idF) ps) ∧ Hid (¬ S g6) ∧ Hid (∀ i, N i → ¬ S i ∧ i ≠ g6 ∧ i < wr.heap.size) ∧ g6 < wr.heap.size ∧ Hid (Chg No w wr))
    (fun i _ => n - (intOf i).toNat)
  case atStart =>
    refine ⟨0, [], S, fun i => i < w.heap.size, 0, false, _, _, by omega, by omega, rfl, by omega, rfl, Nat.le_refl _, (fun r h => by cases h), HS5.out, HG5.out, MVn.nil _ _, (fun h => by have := HNS5.out _ h; omega), (fun i hi => ⟨fun h => ?_, by omega, by omega⟩), by omega, HC5.out⟩
    have := (HS5.out.lt i h).1; omega
  case round =>
    obtain ⟨k, ps, S', N, nw, th, x6, y6, hk, hk60, rfl, hnw, HOK, HPL, HPR, HSr, HG6, HM, HNS, HN, hg6, HC⟩ := hrel
    have hwr := HC.out.size
    have hen : (encF ps).length ≤ 16018 * k := by
      have := encF_le ps 16000 HPR.out (by omega)
      have h2 : (16000 + 18) * ps.length ≤ (16000 + 18) * k := Nat.mul_le_mul_left _ HPL.out
      omega
    have hen2 : (encF ps).length ≤ 4194304 := by omega
    have HEN := Lib.hid hen
    have HEN2 := Lib.hid hen2
    clear hen hen2
    rcases Nat.lt_or_ge k n with hlt | hge
    · have i1 : (k : Int) < (n : Int) := by omega
      have hkl : k < qs.length := by have := HL.out; omega
      obtain ⟨lb, lo, rfl, hget⟩ := HSL.out.get (by omega)
      obtain ⟨cs, hth, hcs⟩ := hget k hkl
      have hqk := HQ.out _ (List.getElem_mem hkl)
      obtain ⟨q, hq⟩ : ∃ q, qs[k] = q := ⟨_, rfl⟩
      rw [hq] at hth hqk
      have HTH := Lib.hid (hth.no HC.out)
      have HQK := Lib.hid hqk
      obtain ⟨kd, AB, nb, cb, AT, nt, ct, t0, AP, np, cp, sa, dd, sx, hcs8⟩ : ∃ (kd : Int) (AB : Option Addr) (nb cb : Nat) (AT : Option Addr) (nt ct : Nat) (t0 : Int) (AP : Option Addr) (np cp : Nat) (sa : ByteArray) (dd : Int) (sx : ByteArray), cs = #[.int .i64 kd, .slice AB nb cb, .slice AT nt ct, .int .u64 t0, .slice AP np cp, .string sa, .int .i64 dd, .string sx] := by
        obtain ⟨AB, nb, cb, AT, nt, ct, AP, np, cp, rfl, -⟩ := hth
        exact ⟨_, _, _, _, _, _, _, _, _, _, _, _, _, _, rfl⟩
      subst hcs8
      have c0 := HC.out.cell (hcs 0 _ rfl) (fun x => x)
      have c1 := HC.out.cell (hcs 1 _ rfl) (fun x => x)
      have c2 := HC.out.cell (hcs 2 _ rfl) (fun x => x)
      have c3 := HC.out.cell (hcs 3 _ rfl) (fun x => x)
      have c4 := HC.out.cell (hcs 4 _ rfl) (fun x => x)
      have c5 := HC.out.cell (hcs 5 _ rfl) (fun x => x)
      have c6 := HC.out.cell (hcs 6 _ rfl) (fun x => x)
      have c7 := HC.out.cell (hcs 7 _ rfl) (fun x => x)
      rw [Nat.add_zero] at c0
      clear hget hcs hth hqk hq
      have X10 := (Chg.refl No wr).alloc (.cells #[.int .i64 kd, .slice AB nb cb, .slice AT nt ct, .int .u64 t0, .slice AP np cp, .string sa, .int .i64 dd, .string sx] 72)
      have HX10 := Lib.hid X10
      have HT10 := Lib.hid (HTH.out.no X10)
      have HB10 := Lib.hid (heap_alloc_new wr (.cells #[.int .i64 kd, .slice AB nb cb, .slice AT nt ct, .int .u64 t0, .slice AP np cp, .string sa, .int .i64 dd, .string sx] 72))
      have hz10 : Hid ((wr.alloc (.cells #[.int .i64 kd, .slice AB nb cb, .slice AT nt ct, .int .u64 t0, .slice AP np cp, .string sa, .int .i64 dd, .string sx] 72)).heap.size = wr.heap.size + 1) := World.size_alloc _ _
      clear X10
      by_cases h60 : k = 60
      · have i2 : ((k : Int) == 60) = true := by rw [beq_iff_eq]; omega
        have HC := Lib.hid (HC.out.no HX10.out)
        have HSr := Lib.hid (HSr.out.no HX10.out)
        have HG6 := Lib.hid (HX10.out.heap HG6.out (fun x => x))
        have HM := Lib.hid (HM.out.no HX10.out)
        clear h60
        go_upto_region 25 with fail
        generalize wr.alloc (.cells #[.int .i64 kd, .slice AB nb cb, .slice AT nt ct, .int .u64 t0, .slice AP np cp, .string sa, .int .i64 dd, .string sx] 72) = wt at *
        obtain ⟨AI, nI, cI, AY, nY, cY, rfl, rfl, hnI⟩ := HM.out.form2
        have HIDS : Hid (Sl u64v wt (.slice AI nI cI) (ps.map idF)) := by
          obtain ⟨A1, n1, c1, A2, n2, c2, he, h1, -⟩ := HM.out
          cases he
          exact h1
        have HLI := Lib.hid hnI
        have hnI1 : nI ≤ 1000 := by have := hnI; rw [List.length_map] at this; have := HPL.out; omega
        have hps1 : ps.length ≤ 1000 := by have := HPL.out; omega
        clear hnI
        have HFD : Hid (∀ V, Chg No wt V → Calls Try.prog 27 #[.agg #[.slice AI nI cI, .slice AY nY cY], .int .u64 (ask : Int)] V fun e w' => e = .returned (.int .i64 (findZ ask (ps.map idF))) ∧ Chg No V w') := fun V hV => reffind_calls V AI nI cI AY nY cY _ (HIDS.out.no hV) (by omega) ask
        have HHO : Hid (∀ V, Chg No wt V → Calls Try.prog 28 #[.pointer (some ⟨s, 0, none⟩), .agg #[.slice AI nI cI, .slice AY nY cY]] V fun e W' => e = .returned (.bool true) ∧ Chg No V W') := fun V hV => holds7_calls V S' m s mp j d m nw th ps (HSr.out.no hV) HOK.out HEN2.out hps1 (fun r hr => Nat.le_trans (HPR.out r hr) (by omega)) _ (HM.out.no hV).mv
        have HSO : Hid (∀ V, Chg No wt V → Calls Try.prog 10 #[.pointer (some ⟨d, 0, none⟩)] V fun e W' => ∃ s2 mp2 j2 S2, e = .returned (.tuple #[.pointer (some ⟨s2, 0, none⟩), .int .i64 0]) ∧ SD W' S2 m s2 mp2 j2 d m nw th ps ∧ Chg No V W') := fun V hV => by
          obtain ⟨SJ, hJ⟩ := (HSr.out.no hV).jd
          refine (sopen_any V SJ m j d m nw th ps hJ (fun p hp => Nat.le_trans (HPR.out p hp) (by omega)) HEN2.out (by omega) (by omega)).mono ?_
          rintro e W' ⟨hR, hc⟩
          obtain ⟨s2, mp2, j2, S2, he, hS, -⟩ := hR.1 HOK.out
          exact ⟨s2, mp2, j2, S2, he, hS, hc⟩
        have HGT : Hid (findI ask (ps.map idF) = none → Calls Try.prog 12 #[.pointer (some ⟨s, 0, none⟩), .int .u64 (ask : Int)] wt fun e w' => e = .returned (.tuple #[.nilIface, .int .i64 4]) ∧ Chg No wt w') := fun h => get_none wt S' m s mp j d m nw th ps HSr.out HEN2.out ask h
        have HGS : Hid (∀ q, findI ask (ps.map idF) = some q → Calls Try.prog 12 #[.pointer (some ⟨s, 0, none⟩), .int .u64 (ask : Int)] wt fun e w' => (∃ v, e = .returned (.tuple #[v, .int .i64 0])) ∧ Chg No wt w') := fun q hq => by
          have hql : q < ps.length := by obtain ⟨h, -⟩ := findI_some hq; rwa [List.length_map] at h
          obtain ⟨⟨o, ho⟩, -⟩ := okF_get HOK.out hql
          have hG : ps.getD q [] = ps[q] := by rw [List.getD, List.getElem?_eq_getElem hql]; rfl
          refine (get_some wt S' m s mp j d m nw th ps HSr.out HEN2.out ask q hq (by rw [hG]; exact Nat.le_trans (HPR.out _ (List.getElem_mem hql)) (by omega)) o (by rw [hG]; exact ho)).mono ?_
          rintro e w' ⟨⟨v, b, he, -, -⟩, hc⟩
          exact ⟨⟨v, he⟩, hc⟩
        have HHS : Hid (∀ V, Chg No wt V → Calls Try.prog 20 #[.pointer (some ⟨s, 0, none⟩), .int .u64 (ask : Int)] V fun e w' => e = .returned (.bool (findI ask (ps.map idF)).isSome) ∧ Chg No V w') := fun V hV => by
          obtain ⟨v, hsc⟩ := (HSr.out.no hV).ids
          exact (shas_calls V m s mp j v _ hsc ask).mono fun e w' ⟨a, b⟩ => ⟨a, b ▸ Chg.refl _ _⟩
        have hfz : ∀ z, findI ask (ps.map idF) = some z → findZ ask (ps.map idF) = (z : Int) := fun z h => by rw [findZ, h]
        have hfn : findI ask (ps.map idF) = none → findZ ask (ps.map idF) = -1 := fun h => by rw [findZ, h]
        have HFZ := Lib.hid hfz
        have HFN := Lib.hid hfn
        clear hfz hfn HIDS HSL HQ
        cases hfi : findI ask (ps.map idF) with
        | none =>
          have HG := Lib.hid (HGT.out hfi)
          have hz := HFN.out hfi
          rw [hz] at HFD
          rw [hfi] at HHS
          have HHS : Hid (∀ V, Chg No wt V → Calls Try.prog 20 #[.pointer (some ⟨s, 0, none⟩), .int .u64 (ask : Int)] V fun e w' => e = .returned (.bool false) ∧ Chg No V w') := HHS.out
          clear hz hfi HGT HGS HFZ HFN
          go_wp2_with fail
          refine HG.out.mono ?_
          rintro e v1 ⟨rfl, hv1⟩
          have HV1 := Lib.hid hv1
          obtain ⟨e0, e1⟩ := cells2 (hv1.heap HG6.out (fun x => x))
          clear hv1 HG
          go_wp2_with fail
          refine (HFD.out _ HV1.out).mono ?_
          rintro e v2 ⟨rfl, hv2⟩
          have HV2 := Lib.hid (HV1.out.no hv2)
          clear hv2 e0 e1
          go_wp2_with fail
          refine (HHS.out _ HV2.out).mono ?_
          rintro e v3 ⟨rfl, hv3⟩
          have HV3 := Lib.hid (HV2.out.no hv3)
          obtain ⟨e0, e1⟩ := cells2 (HV3.out.heap HG6.out (fun x => x))
          clear hv3
          go_wp2_with fail
          refine (HHO.out _ HV3.out).mono ?_
          rintro e v4 ⟨rfl, hv4⟩
          have HV4 := Lib.hid (HV3.out.no hv4)
          clear hv4 e0 e1
          go_wp2_with fail
          refine (HSO.out _ HV4.out).mono ?_
          rintro e v5 ⟨s2, mp2, j2, S2, rfl, hS2, hv5⟩
          have HV5 := Lib.hid (HV4.out.no hv5)
          obtain ⟨e0, e1⟩ := cells2 (HV5.out.heap HG6.out (fun x => x))
          have HH2 := Lib.hid (holds7_calls v5 S2 m s2 mp2 j2 d m nw th ps hS2 HOK.out HEN2.out hps1 (fun r hr => Nat.le_trans (HPR.out r hr) (by omega)) _ (HM.out.no HV5.out).mv)
          clear hv5 hS2
          go_wp2_with fail
          refine HH2.out.mono ?_
          rintro e v6 ⟨rfl, hv6⟩
          go_wp2
          go_ret
          exact ⟨rfl, (HC.out.no HV5.out).no hv6⟩
        | some z =>
          have HG := Lib.hid (HGS.out z hfi)
          have hz := HFZ.out z hfi
          rw [hz] at HFD
          have hzn : ¬ ((z : Int) < 0) := by omega
          clear hz hfi HGT HGS HFZ HFN HHS
          go_wp2_with fail
          refine HG.out.mono ?_
          rintro e v1 ⟨⟨vo, rfl⟩, hv1⟩
          have HV1 := Lib.hid hv1
          obtain ⟨e0, e1⟩ := cells2 (hv1.heap HG6.out (fun x => x))
          clear hv1 HG
          go_wp2_with fail
          refine (HFD.out _ HV1.out).mono ?_
          rintro e v3 ⟨rfl, hv2⟩
          have HV3 := Lib.hid (HV1.out.no hv2)
          clear hv2 e0 e1
          obtain ⟨e0, e1⟩ := cells2 (HV3.out.heap HG6.out (fun x => x))
          go_wp2_with fail
          refine (HHO.out _ HV3.out).mono ?_
          rintro e v4 ⟨rfl, hv4⟩
          have HV4 := Lib.hid (HV3.out.no hv4)
          clear hv4 e0 e1
          go_wp2_with fail
          refine (HSO.out _ HV4.out).mono ?_
          rintro e v5 ⟨s2, mp2, j2, S2, rfl, hS2, hv5⟩
          have HV5 := Lib.hid (HV4.out.no hv5)
          obtain ⟨e0, e1⟩ := cells2 (HV5.out.heap HG6.out (fun x => x))
          have HH2 := Lib.hid (holds7_calls v5 S2 m s2 mp2 j2 d m nw th ps hS2 HOK.out HEN2.out hps1 (fun r hr => Nat.le_trans (HPR.out r hr) (by omega)) _ (HM.out.no HV5.out).mv)
          clear hv5 hS2
          go_wp2_with fail
          refine HH2.out.mono ?_
          rintro e v6 ⟨rfl, hv6⟩
          go_wp2
          go_ret
          exact ⟨rfl, (HC.out.no HV5.out).no hv6⟩
      · have i2 : ((k : Int) == 60) = false := by rw [beq_eq_false_iff_ne]; omega
        go_wp2_with fail
        generalize hwa : wr.alloc (.cells #[.int .i64 kd, .slice AB nb cb, .slice AT nt ct, .int .u64 t0, .slice AP np cp, .string sa, .int .i64 dd, .string sx] 72) = wa at *
        clear hwa
        refine (thbytes_calls wa q _ HT10.out HQK.out).mono ?_
        rintro e w6 ⟨A6, n6, c6', rfl, ho6, hl6, hc6⟩
        have HO6 := Lib.hid ho6
        have HL6 := Lib.hid hl6
        have HC6 := Lib.hid (HX10.out.no hc6)
        have HT6 := Lib.hid (HT10.out.no hc6)
        have HB6 := Lib.hid (hc6.heap HB10.out (fun x => x))
        have hsa : wr.heap.size ≤ wa.heap.size := HX10.out.size
        have hs6 := hc6.size
        clear ho6 hl6 hc6 c0 c1 c2 c3 c4 c5 c6 c7 HB10 HT10 HTH
        have c0 : w6.cell? ⟨wr.heap.size, 0, none⟩ = some (.int .i64 kd) := cellAt HB6.out 0 _ rfl
        have c1 : w6.cell? ⟨wr.heap.size, 1, none⟩ = some (.slice AB nb cb) := cellAt HB6.out 1 _ rfl
        have c2 : w6.cell? ⟨wr.heap.size, 2, none⟩ = some (.slice AT nt ct) := cellAt HB6.out 2 _ rfl
        have c3 : w6.cell? ⟨wr.heap.size, 3, none⟩ = some (.int .u64 t0) := cellAt HB6.out 3 _ rfl
        have c4 : w6.cell? ⟨wr.heap.size, 4, none⟩ = some (.slice AP np cp) := cellAt HB6.out 4 _ rfl
        have c5 : w6.cell? ⟨wr.heap.size, 5, none⟩ = some (.string sa) := cellAt HB6.out 5 _ rfl
        have c6 : w6.cell? ⟨wr.heap.size, 6, none⟩ = some (.int .i64 dd) := cellAt HB6.out 6 _ rfl
        have c7 : w6.cell? ⟨wr.heap.size, 7, none⟩ = some (.string sx) := cellAt HB6.out 7 _ rfl
        go_wp2_with fail
        refine (thobject_calls w6 q _ HT6.out HQK.out).mono ?_
        rintro e w7 ⟨v7, rfl, hE7, hc7⟩
        have HE7 := Lib.hid hE7
        have HC67 := Lib.hid hc7
        have HC7 := Lib.hid (HC6.out.no hc7)
        have hs7 := hc7.size
        have HS7 := Lib.hid (HSr.out.no HC7.out)
        clear hE7 hc7 c0 c1 c2 c3 c4 c5 c6 c7 HB6 HT6
        have HRI := Lib.hid (fun h => Thg.right HQK.out h)
        generalize errO q.ob = E at *
        generalize bytO q.ob = bs at *
        by_cases hE : E = 0
        · subst hE
          obtain ⟨hb16, hdec⟩ := HRI.out rfl
          have HDC := Lib.hid hdec
          have hn6 : n6 ≤ 16000 := by have := HL6.out; omega
          clear HRI hdec
          have HN1 : Hid (∀ i, Plus N wr w6 i → ¬ S' i ∧ i ≠ g6 ∧ i < w6.heap.size) := fun i hi => by
            rcases hi with h | h
            · obtain ⟨a, b, c⟩ := HN.out i h
              exact ⟨a, b, by omega⟩
            · exact ⟨fun hs => by have := (HSr.out.lt i hs).2; omega, by omega, h.2⟩
          have HB7 : Hid (BytesN (Plus N wr w6) w7 (.slice A6 n6 c6') bs) := BytesN.no ⟨HO6.out.bytes, fun _ b hb => .inr ⟨by have := (HO6.out.block b hb).1; omega, (HO6.out.block b hb).2⟩⟩ HC67.out
          have HM7 : Hid (MVn (Plus N wr w6) w7 (.agg #[x6, y6]) (ps.map idF) ps) := (HM.out.no HC7.out).mono (fun b hb => .inl hb)
          have HG7 := Lib.hid (HC7.out.heap HG6.out (fun x => x))
          have HRE := Lib.hid (recF_len bs (by omega))
          clear HM HG6 HO6 HC67
          cases hf : findI (idF bs) (ps.map idF) with
          | none =>
            have HF := Lib.hid hf
            have HPN := Lib.hid (put_new w7 S' m s mp j d m nw th ps HS7.out v7 bs (by omega) HE7.out hf (by have := HEN.out; have := HRE.out.1; omega) (by have := HPL.out; omega) (by omega))
            have HOKN : Hid (okF [] (ps ++ [bs]) = true) := by rw [Hid, okF_snoc, HOK.out, HDC.out, hf]; rfl
            have HPP : Hid (putI (ps.map idF) ps bs = ((ps ++ [bs]).map idF, ps ++ [bs], true)) := by rw [Hid, putI, hf, List.map_append]; rfl
            clear hf
            go_wp2_with fail
            refine HPN.out.mono ?_
            rintro e w8 ⟨rfl, hS8, hc8⟩
            have HS8 := Lib.hid hS8
            have HC8 := Lib.hid hc8
            have hs8 := hc8.size
            have HCw8 := Lib.hid ((HC.out.no HC7.out).newer hc8 (fun i hi => by have := (HSr.out.lt i hi).1; omega))
            have HB8 := Lib.hid (HB7.out.chg hc8 (fun b hb => (HN1.out b hb).1))
            have HM8 := Lib.hid (HM7.out.chg hc8 (fun b hb => (HN1.out b hb).1))
            have HG8 := Lib.hid (hc8.heap HG7.out HNS.out)
            have hnw8 : nw + ((recF bs).length + 31) / 32 ≤ 600 * (k + 1) := by have := HRE.out.1; omega
            generalize nw + ((recF bs).length + 31) / 32 = nw8 at *
            have HNS8 : Hid (¬ Grow S' w7 w8 g6) := by
              rintro (h | h)
              · exact HNS.out h
              · omega
            have HN8 : Hid (∀ i, Plus N wr w6 i → ¬ Grow S' w7 w8 i ∧ i ≠ g6 ∧ i < w8.heap.size) := fun i hi => by
              obtain ⟨a, b, c⟩ := HN1.out i hi
              refine ⟨?_, b, by omega⟩
              rintro (h | h)
              · exact a h
              · omega
            have HGL8 : Hid (∀ i, Grow S' w7 w8 i → i < w8.heap.size) := fun i hi => (HS8.out.lt i hi).2
            have hg8 : g6 < w8.heap.size := by omega
            have hpl8 : (ps ++ [bs]).length ≤ k + 1 := by rw [List.length_append]; have := HPL.out; simp; omega
            have HPL8 := Lib.hid hpl8
            have HPR8 : Hid (∀ r ∈ ps ++ [bs], r.length ≤ 16000) := fun r hr => by
              rcases List.mem_append.1 hr with h | h
              · exact HPR.out r h
              · rw [List.mem_singleton.1 h]; exact hb16
            generalize hS8' : Grow S' w7 w8 = S8 at *
            generalize hN8' : Plus N wr w6 = N8 at *
            clear hS8 hc8 HC8 HPN HN1 HNS HSr HS7 HM7 HG7 HB7 hS8' hN8' HN HC7 hpl8
            obtain ⟨AI, nI, cI, AY, nY, cY, rfl, rfl, hnI⟩ := HM8.out.form2
            have HNI := Lib.hid hnI
            clear hnI
            have HRP := Lib.hid (refputN_calls N8 w8 (.agg #[.slice AI nI cI, .slice AY nY cY]) (ps.map idF) ps HM8.out (List.length_map _) (by rw [List.length_map]; have := HPL.out; omega) (fun r hr => Nat.le_trans (HPR.out r hr) (by omega)) A6 n6 c6' bs HB8.out HL6.out (by omega))
            rw [HPP.out] at HRP
            obtain ⟨e0, e1⟩ := cells2 HG8.out
            generalize idF bs = ib at *
            go_wp2_with fail
            refine HRP.out.mono ?_
            rintro e w9 ⟨v9, rfl, hM9, hc9⟩
            obtain ⟨x9, y9, rfl⟩ := hM9.form
            obtain ⟨AJ, nJ, cJ, AZ, nZ, cZ, rfl, rfl, hnJ⟩ := hM9.form2
            have HM9 := Lib.hid hM9
            have HC9 := Lib.hid hc9
            have hs9 := hc9.size
            clear hM9 hc9 HRP e0 e1 hnJ
            have X10' := (Chg.refl No w9).alloc (.cells #[.slice AJ nJ cJ, .slice AZ nZ cZ] 70)
            have HC10 := Lib.hid (HC9.out.no X10')
            have HG10 := Lib.hid (HC10.out.heap HG8.out (fun x => x))
            have HG11 := Lib.hid (heap_alloc_new w9 (.cells #[.slice AJ nJ cJ, .slice AZ nZ cZ] 70))
            have HM10 := Lib.hid (HM9.out.no X10')
            have HS10 := Lib.hid (HS8.out.no HC10.out)
            have HCw10 := Lib.hid (HCw8.out.no HC10.out)
            have hz11 : Hid ((w9.alloc (.cells #[.slice AJ nJ cJ, .slice AZ nZ cZ] 70)).heap.size = w9.heap.size + 1) := World.size_alloc _ _
            clear X10'
            obtain ⟨e0, e1⟩ := cells2 HG10.out
            obtain ⟨r0, r1⟩ := cells2 HG11.out
            have f0 := frzAt HG10.out 0
            have f1 := frzAt HG10.out 1
            have hgg : ¬ g6 = w9.heap.size := by omega
            have hgg2 : ¬ w9.heap.size = g6 := by omega
            have hidd : ((ib : Int) != (ib : Int)) = false := by simp
            generalize hw10 : w9.alloc (.cells #[.slice AJ nJ cJ, .slice AZ nZ cZ] 70) = w10 at *
            generalize hg11 : w9.heap.size = g11 at *
            clear HS8 HG8 HM8 HB8 HCw8 HM9 HC9
            go_wp2
            have HFIN : Hid (∀ U, U = (w10.setCell ⟨g6, 0, none⟩ (.slice AJ nJ cJ)).setCell ⟨g6, 1, none⟩ (.slice AZ nZ cZ) → SD U S8 m s mp j d m nw8 true (ps ++ [bs]) ∧ U.heap[g6]? = some (.cells #[.slice AJ nJ cJ, .slice AZ nZ cZ] 70 (0, 0)) ∧ MVn (Plus N8 w8 w9) U (.agg #[.slice AJ nJ cJ, .slice AZ nZ cZ]) (((ps ++ [bs])).map idF) (ps ++ [bs]) ∧ (∀ i, Plus N8 w8 w9 i → ¬ S8 i ∧ i ≠ g6 ∧ i < U.heap.size) ∧ g6 < U.heap.size ∧ Chg No w U) := by
              intro U hU
              have hcc : Chg (One g6) w10 U := by rw [hU]; exact ((Chg.refl (One g6) w10).setCell (p := ⟨g6, 0, none⟩) (.inr rfl) _).setCell (p := ⟨g6, 1, none⟩) (.inr rfl) _
              have hzU := hcc.size
              have hz1 := hz11.out
              have hz9 : g11 ≤ w10.heap.size := by omega
              refine ⟨HS10.out.chg hcc (fun i hi e => HNS8.out (by have e : i = g6 := e; rw [← e]; exact hi)), ?_, HM10.out.chg hcc (fun b hb e => ?_), fun i hi => ?_, by omega, HCw10.out.trans hcc (fun i hi e => by have e : i = g6 := e; omega)⟩
              · rw [hU]
                exact heap_set (heap_set HG10.out 0 _) 1 _
              · have e : b = g6 := e
                rcases hb with h | h
                · exact (HN8.out b h).2.1 e
                · omega
              · rcases hi with h | h
                · obtain ⟨a, b, c⟩ := HN8.out i h
                  exact ⟨a, b, by omega⟩
                · exact ⟨fun hs => by have := HGL8.out i hs; omega, by omega, by omega⟩
            go_roundw
            case rel =>
              obtain ⟨t1, t2, t3, t4, t5, t6⟩ := HFIN.out _ rfl
              exact ⟨k + 1, (ps ++ [bs]), S8, Plus N8 w8 w9, nw8, true, _, _, by omega, by omega, by go_num, by omega, HOKN.out, HPL8.out, HPR8.out, t1, t2, t3, HNS8.out, t4, t5, t6⟩
            case measure => simp only [intOf]; omega
          | some qi =>
            have hqi : qi < ps.length := by obtain ⟨h, -⟩ := findI_some hf; rwa [List.length_map] at h
            have HPT := Lib.hid (put_there w7 S' m s mp j d m nw th ps HS7.out HEN2.out v7 bs (by omega) HE7.out qi hf)
            have HPP : Hid (putI (ps.map idF) ps bs = (ps.map idF, ps, decide (ps.getD qi [] = bs))) := by rw [Hid, putI, hf]
            clear hf
            by_cases hsame : ps.getD qi [] = bs
            · rw [if_pos hsame] at HPT
              rw [decide_eq_true hsame] at HPP
              clear hsame
              go_wp2_with fail
              refine HPT.out.mono ?_
              rintro e w8 ⟨rfl, hc8⟩
              have hs8 := hc8.size
              have HS8 := Lib.hid (HS7.out.no hc8)
              have HCw8 := Lib.hid ((HC.out.no HC7.out).no hc8)
              have HB8 := Lib.hid (HB7.out.no hc8)
              have HM8 := Lib.hid (HM7.out.no hc8)
              have HG8 := Lib.hid (hc8.heap HG7.out (fun x => x))
              have HNS8 := HNS
              have HN8 : Hid (∀ i, Plus N wr w6 i → ¬ S' i ∧ i ≠ g6 ∧ i < w8.heap.size) := fun i hi => by
                obtain ⟨a, b, c⟩ := HN1.out i hi
                exact ⟨a, b, by omega⟩
              have HGL8 : Hid (∀ i, S' i → i < w8.heap.size) := fun i hi => (HS8.out.lt i hi).2
              have hg8 : g6 < w8.heap.size := by omega
              have HPL8 : Hid (ps.length ≤ k + 1) := by show _ ≤ _; have := HPL.out; omega
              have HPR8 := HPR
              have HOKN := HOK
              generalize hN8' : Plus N wr w6 = N8 at *
              clear hc8 HPT HN1 HNS HSr HS7 HM7 HG7 HB7 hN8' HN HC7 HOK HPR
              obtain ⟨AI, nI, cI, AY, nY, cY, rfl, rfl, hnI⟩ := HM8.out.form2
              have HNI := Lib.hid hnI
              clear hnI
              have HRP := Lib.hid (refputN_calls N8 w8 (.agg #[.slice AI nI cI, .slice AY nY cY]) (ps.map idF) ps HM8.out (List.length_map _) (by rw [List.length_map]; have := HPL.out; omega) (fun r hr => Nat.le_trans (HPR8.out r hr) (by omega)) A6 n6 c6' bs HB8.out HL6.out (by omega))
              rw [HPP.out] at HRP
              obtain ⟨e0, e1⟩ := cells2 HG8.out
              generalize idF bs = ib at *
              go_wp2_with fail
              refine HRP.out.mono ?_
              rintro e w9 ⟨v9, rfl, hM9, hc9⟩
              obtain ⟨x9, y9, rfl⟩ := hM9.form
              obtain ⟨AJ, nJ, cJ, AZ, nZ, cZ, rfl, rfl, hnJ⟩ := hM9.form2
              have HM9 := Lib.hid hM9
              have HC9 := Lib.hid hc9
              have hs9 := hc9.size
              clear hM9 hc9 HRP e0 e1 hnJ
              have X10' := (Chg.refl No w9).alloc (.cells #[.slice AJ nJ cJ, .slice AZ nZ cZ] 70)
              have HC10 := Lib.hid (HC9.out.no X10')
              have HG10 := Lib.hid (HC10.out.heap HG8.out (fun x => x))
              have HG11 := Lib.hid (heap_alloc_new w9 (.cells #[.slice AJ nJ cJ, .slice AZ nZ cZ] 70))
              have HM10 := Lib.hid (HM9.out.no X10')
              have HS10 := Lib.hid (HS8.out.no HC10.out)
              have HCw10 := Lib.hid (HCw8.out.no HC10.out)
              have hz11 : Hid ((w9.alloc (.cells #[.slice AJ nJ cJ, .slice AZ nZ cZ] 70)).heap.size = w9.heap.size + 1) := World.size_alloc _ _
              clear X10'
              obtain ⟨e0, e1⟩ := cells2 HG10.out
              obtain ⟨r0, r1⟩ := cells2 HG11.out
              have f0 := frzAt HG10.out 0
              have f1 := frzAt HG10.out 1
              have hgg : ¬ g6 = w9.heap.size := by omega
              have hgg2 : ¬ w9.heap.size = g6 := by omega
              have hidd : ((ib : Int) != (ib : Int)) = false := by simp
              generalize hw10 : w9.alloc (.cells #[.slice AJ nJ cJ, .slice AZ nZ cZ] 70) = w10 at *
              generalize hg11 : w9.heap.size = g11 at *
              clear HS8 HG8 HM8 HB8 HCw8 HM9 HC9
              go_wp2
              have HFIN : Hid (∀ U, U = (w10.setCell ⟨g6, 0, none⟩ (.slice AJ nJ cJ)).setCell ⟨g6, 1, none⟩ (.slice AZ nZ cZ) → SD U S' m s mp j d m nw th ps ∧ U.heap[g6]? = some (.cells #[.slice AJ nJ cJ, .slice AZ nZ cZ] 70 (0, 0)) ∧ MVn (Plus N8 w8 w9) U (.agg #[.slice AJ nJ cJ, .slice AZ nZ cZ]) ((ps).map idF) ps ∧ (∀ i, Plus N8 w8 w9 i → ¬ S' i ∧ i ≠ g6 ∧ i < U.heap.size) ∧ g6 < U.heap.size ∧ Chg No w U) := by
                intro U hU
                have hcc : Chg (One g6) w10 U := by rw [hU]; exact ((Chg.refl (One g6) w10).setCell (p := ⟨g6, 0, none⟩) (.inr rfl) _).setCell (p := ⟨g6, 1, none⟩) (.inr rfl) _
                have hzU := hcc.size
                have hz1 := hz11.out
                have hz9 : g11 ≤ w10.heap.size := by omega
                refine ⟨HS10.out.chg hcc (fun i hi e => HNS8.out (by have e : i = g6 := e; rw [← e]; exact hi)), ?_, HM10.out.chg hcc (fun b hb e => ?_), fun i hi => ?_, by omega, HCw10.out.trans hcc (fun i hi e => by have e : i = g6 := e; omega)⟩
                · rw [hU]
                  exact heap_set (heap_set HG10.out 0 _) 1 _
                · have e : b = g6 := e
                  rcases hb with h | h
                  · exact (HN8.out b h).2.1 e
                  · omega
                · rcases hi with h | h
                  · obtain ⟨a, b, c⟩ := HN8.out i h
                    exact ⟨a, b, by omega⟩
                  · exact ⟨fun hs => by have := HGL8.out i hs; omega, by omega, by omega⟩
              go_roundw
              case rel =>
                obtain ⟨t1, t2, t3, t4, t5, t6⟩ := HFIN.out _ rfl
                exact ⟨k + 1, ps, S', Plus N8 w8 w9, nw, th, _, _, by omega, by omega, by go_num, by omega, HOKN.out, HPL8.out, HPR8.out, t1, t2, t3, HNS8.out, t4, t5, t6⟩
              case measure => simp only [intOf]; omega
            · rw [if_neg hsame] at HPT
              rw [decide_eq_false hsame] at HPP
              clear hsame
              go_wp2_with fail
              refine HPT.out.mono ?_
              rintro e w8 ⟨rfl, hc8⟩
              have hs8 := hc8.size
              have HS8 := Lib.hid (HS7.out.no hc8)
              have HCw8 := Lib.hid ((HC.out.no HC7.out).no hc8)
              have HB8 := Lib.hid (HB7.out.no hc8)
              have HM8 := Lib.hid (HM7.out.no hc8)
              have HG8 := Lib.hid (hc8.heap HG7.out (fun x => x))
              have hg8 : g6 < w8.heap.size := by omega
              have HN8 : Hid (∀ i, Plus N wr w6 i → ¬ S' i ∧ i ≠ g6 ∧ i < w8.heap.size) := fun i hi => by
                obtain ⟨a, b, c⟩ := HN1.out i hi
                exact ⟨a, b, by omega⟩
              generalize hN8' : Plus N wr w6 = N8 at *
              clear hc8 HPT HN1 HSr HS7 HM7 HG7 HB7 hN8' HN HC7
              obtain ⟨AI, nI, cI, AY, nY, cY, rfl, rfl, hnI⟩ := HM8.out.form2
              have HNI := Lib.hid hnI
              clear hnI
              have HRP := Lib.hid (refputN_calls N8 w8 (.agg #[.slice AI nI cI, .slice AY nY cY]) (ps.map idF) ps HM8.out (List.length_map _) (by rw [List.length_map]; have := HPL.out; omega) (fun r hr => Nat.le_trans (HPR.out r hr) (by omega)) A6 n6 c6' bs HB8.out HL6.out (by omega))
              rw [HPP.out] at HRP
              obtain ⟨e0, e1⟩ := cells2 HG8.out
              go_wp2_with fail
              refine HRP.out.mono ?_
              rintro e w9 ⟨v9, rfl, hM9, hc9⟩
              obtain ⟨x9, y9, rfl⟩ := hM9.form
              obtain ⟨AJ, nJ, cJ, AZ, nZ, cZ, rfl, rfl, hnJ⟩ := hM9.form2
              have HCf := Lib.hid (hc9.alloc (.cells #[.slice AJ nJ cJ, .slice AZ nZ cZ] 70))
              clear hM9 hc9 HRP e0 e1 hnJ
              go_wp2
              go_roundw
              case rel => exact ⟨k + 1, ps, S', N8, nw, th, _, _, by omega, by omega, by go_num, by omega, HOK.out, (by show _ ≤ _; have := HPL.out; omega), HPR.out, HS8.out.no HCf.out, HCf.out.heap HG8.out (fun x => x), HM8.out.no HCf.out, HNS.out, (fun i hi => by obtain ⟨a, b, c⟩ := HN8.out i hi; exact ⟨a, b, Nat.lt_of_lt_of_le c HCf.out.size⟩), Nat.lt_of_lt_of_le hg8 HCf.out.size, HCw8.out.no HCf.out⟩
              case measure => simp only [intOf]; omega
        · have hE1 : (E != 0) = true := bne_iff_ne.2 hE
          have hE2 : (E != E) = false := by simp
          have HPF := Lib.hid (put_refused w7 s v7 E hE bs HE7.out)
          have HG7 := Lib.hid (HC7.out.heap HG6.out (fun x => x))
          have HM7 := Lib.hid (HM.out.no HC7.out)
          clear hE HRI
          go_wp2_with fail
          refine HPF.out.mono ?_
          rintro e w8 ⟨rfl, hc8⟩
          have HC8 := Lib.hid hc8
          have hs8 := hc8.size
          clear hc8
          go_wp2
          go_roundw
          case rel => exact ⟨k + 1, ps, S', N, nw, th, x6, y6, by omega, by omega, by go_num, by omega, HOK.out, (by show _ ≤ _; have := HPL.out; omega), HPR.out, HS7.out.no HC8.out, HC8.out.heap HG7.out (fun x => x), HM7.out.no HC8.out, HNS.out, (fun i hi => by obtain ⟨a, b, c⟩ := HN.out i hi; exact ⟨a, b, by omega⟩), by omega, (HC.out.no HC7.out).no HC8.out⟩
          case measure => simp only [intOf]; omega
    · have i1 : ¬ (k : Int) < (n : Int) := by omega
      generalize wr = wt at *
      obtain ⟨AI, nI, cI, AY, nY, cY, rfl, rfl, hnI⟩ := HM.out.form2
      have HIDS : Hid (Sl u64v wt (.slice AI nI cI) (ps.map idF)) := by
        obtain ⟨A1, n1, c1, A2, n2, c2, he, h1, -⟩ := HM.out
        cases he
        exact h1
      have HLI := Lib.hid hnI
      have hnI1 : nI ≤ 1000 := by have := hnI; rw [List.length_map] at this; have := HPL.out; omega
      have hps1 : ps.length ≤ 1000 := by have := HPL.out; omega
      clear hnI
      have HFD : Hid (∀ V, Chg No wt V → Calls Try.prog 27 #[.agg #[.slice AI nI cI, .slice AY nY cY], .int .u64 (ask : Int)] V fun e w' => e = .returned (.int .i64 (findZ ask (ps.map idF))) ∧ Chg No V w') := fun V hV => reffind_calls V AI nI cI AY nY cY _ (HIDS.out.no hV) (by omega) ask
      have HHO : Hid (∀ V, Chg No wt V → Calls Try.prog 28 #[.pointer (some ⟨s, 0, none⟩), .agg #[.slice AI nI cI, .slice AY nY cY]] V fun e W' => e = .returned (.bool true) ∧ Chg No V W') := fun V hV => holds7_calls V S' m s mp j d m nw th ps (HSr.out.no hV) HOK.out HEN2.out hps1 (fun r hr => Nat.le_trans (HPR.out r hr) (by omega)) _ (HM.out.no hV).mv
      have HSO : Hid (∀ V, Chg No wt V → Calls Try.prog 10 #[.pointer (some ⟨d, 0, none⟩)] V fun e W' => ∃ s2 mp2 j2 S2, e = .returned (.tuple #[.pointer (some ⟨s2, 0, none⟩), .int .i64 0]) ∧ SD W' S2 m s2 mp2 j2 d m nw th ps ∧ Chg No V W') := fun V hV => by
        obtain ⟨SJ, hJ⟩ := (HSr.out.no hV).jd
        refine (sopen_any V SJ m j d m nw th ps hJ (fun p hp => Nat.le_trans (HPR.out p hp) (by omega)) HEN2.out (by omega) (by omega)).mono ?_
        rintro e W' ⟨hR, hc⟩
        obtain ⟨s2, mp2, j2, S2, he, hS, -⟩ := hR.1 HOK.out
        exact ⟨s2, mp2, j2, S2, he, hS, hc⟩
      have HGT : Hid (findI ask (ps.map idF) = none → Calls Try.prog 12 #[.pointer (some ⟨s, 0, none⟩), .int .u64 (ask : Int)] wt fun e w' => e = .returned (.tuple #[.nilIface, .int .i64 4]) ∧ Chg No wt w') := fun h => get_none wt S' m s mp j d m nw th ps HSr.out HEN2.out ask h
      have HGS : Hid (∀ q, findI ask (ps.map idF) = some q → Calls Try.prog 12 #[.pointer (some ⟨s, 0, none⟩), .int .u64 (ask : Int)] wt fun e w' => (∃ v, e = .returned (.tuple #[v, .int .i64 0])) ∧ Chg No wt w') := fun q hq => by
        have hql : q < ps.length := by obtain ⟨h, -⟩ := findI_some hq; rwa [List.length_map] at h
        obtain ⟨⟨o, ho⟩, -⟩ := okF_get HOK.out hql
        have hG : ps.getD q [] = ps[q] := by rw [List.getD, List.getElem?_eq_getElem hql]; rfl
        refine (get_some wt S' m s mp j d m nw th ps HSr.out HEN2.out ask q hq (by rw [hG]; exact Nat.le_trans (HPR.out _ (List.getElem_mem hql)) (by omega)) o (by rw [hG]; exact ho)).mono ?_
        rintro e w' ⟨⟨v, b, he, -, -⟩, hc⟩
        exact ⟨⟨v, he⟩, hc⟩
      have HHS : Hid (∀ V, Chg No wt V → Calls Try.prog 20 #[.pointer (some ⟨s, 0, none⟩), .int .u64 (ask : Int)] V fun e w' => e = .returned (.bool (findI ask (ps.map idF)).isSome) ∧ Chg No V w') := fun V hV => by
        obtain ⟨v, hsc⟩ := (HSr.out.no hV).ids
        exact (shas_calls V m s mp j v _ hsc ask).mono fun e w' ⟨a, b⟩ => ⟨a, b ▸ Chg.refl _ _⟩
      have hfz : ∀ z, findI ask (ps.map idF) = some z → findZ ask (ps.map idF) = (z : Int) := fun z h => by rw [findZ, h]
      have hfn : findI ask (ps.map idF) = none → findZ ask (ps.map idF) = -1 := fun h => by rw [findZ, h]
      have HFZ := Lib.hid hfz
      have HFN := Lib.hid hfn
      clear hfz hfn HIDS HSL HQ
      cases hfi : findI ask (ps.map idF) with
      | none =>
        have HG := Lib.hid (HGT.out hfi)
        have hz := HFN.out hfi
        rw [hz] at HFD
        rw [hfi] at HHS
        have HHS : Hid (∀ V, Chg No wt V → Calls Try.prog 20 #[.pointer (some ⟨s, 0, none⟩), .int .u64 (ask : Int)] V fun e w' => e = .returned (.bool false) ∧ Chg No V w') := HHS.out
        clear hz hfi HGT HGS HFZ HFN
        go_wp2_with fail
        refine HG.out.mono ?_
        rintro e v1 ⟨rfl, hv1⟩
        have HV1 := Lib.hid hv1
        obtain ⟨e0, e1⟩ := cells2 (hv1.heap HG6.out (fun x => x))
        clear hv1 HG
        go_wp2_with fail
        refine (HFD.out _ HV1.out).mono ?_
        rintro e v2 ⟨rfl, hv2⟩
        have HV2 := Lib.hid (HV1.out.no hv2)
        clear hv2 e0 e1
        go_wp2_with fail
        refine (HHS.out _ HV2.out).mono ?_
        rintro e v3 ⟨rfl, hv3⟩
        have HV3 := Lib.hid (HV2.out.no hv3)
        obtain ⟨e0, e1⟩ := cells2 (HV3.out.heap HG6.out (fun x => x))
        clear hv3
        go_wp2_with fail
        refine (HHO.out _ HV3.out).mono ?_
        rintro e v4 ⟨rfl, hv4⟩
        have HV4 := Lib.hid (HV3.out.no hv4)
        clear hv4 e0 e1
        go_wp2_with fail
        refine (HSO.out _ HV4.out).mono ?_
        rintro e v5 ⟨s2, mp2, j2, S2, rfl, hS2, hv5⟩
        have HV5 := Lib.hid (HV4.out.no hv5)
        obtain ⟨e0, e1⟩ := cells2 (HV5.out.heap HG6.out (fun x => x))
        have HH2 := Lib.hid (holds7_calls v5 S2 m s2 mp2 j2 d m nw th ps hS2 HOK.out HEN2.out hps1 (fun r hr => Nat.le_trans (HPR.out r hr) (by omega)) _ (HM.out.no HV5.out).mv)
        clear hv5 hS2
        go_wp2_with fail
        refine HH2.out.mono ?_
        rintro e v6 ⟨rfl, hv6⟩
        go_wp2
        go_ret
        exact ⟨rfl, (HC.out.no HV5.out).no hv6⟩
      | some z =>
        have HG := Lib.hid (HGS.out z hfi)
        have hz := HFZ.out z hfi
        rw [hz] at HFD
        have hzn : ¬ ((z : Int) < 0) := by omega
        clear hz hfi HGT HGS HFZ HFN HHS
        go_wp2_with fail
        refine HG.out.mono ?_
        rintro e v1 ⟨⟨vo, rfl⟩, hv1⟩
        have HV1 := Lib.hid hv1
        obtain ⟨e0, e1⟩ := cells2 (hv1.heap HG6.out (fun x => x))
        clear hv1 HG
        go_wp2_with fail
        refine (HFD.out _ HV1.out).mono ?_
        rintro e v3 ⟨rfl, hv2⟩
        have HV3 := Lib.hid (HV1.out.no hv2)
        clear hv2 e0 e1
        obtain ⟨e0, e1⟩ := cells2 (HV3.out.heap HG6.out (fun x => x))
        go_wp2_with fail
        refine (HHO.out _ HV3.out).mono ?_
        rintro e v4 ⟨rfl, hv4⟩
        have HV4 := Lib.hid (HV3.out.no hv4)
        clear hv4 e0 e1
        go_wp2_with fail
        refine (HSO.out _ HV4.out).mono ?_
        rintro e v5 ⟨s2, mp2, j2, S2, rfl, hS2, hv5⟩
        have HV5 := Lib.hid (HV4.out.no hv5)
        obtain ⟨e0, e1⟩ := cells2 (HV5.out.heap HG6.out (fun x => x))
        have HH2 := Lib.hid (holds7_calls v5 S2 m s2 mp2 j2 d m nw th ps hS2 HOK.out HEN2.out hps1 (fun r hr => Nat.le_trans (HPR.out r hr) (by omega)) _ (HM.out.no HV5.out).mv)
        clear hv5 hS2
        go_wp2_with fail
        refine HH2.out.mono ?_
        rintro e v6 ⟨rfl, hv6⟩
        go_wp2
        go_ret
        exact ⟨rfl, (HC.out.no HV5.out).no hv6⟩
theorem storePlays_walk (w : World) (L : Option Addr) (n c : Nat) (qs : List Thg) (hL : Ths w (.slice L n c) qs) (hl : qs.length = n) (hq : ∀ q ∈ qs, q.ok) (a : Int) (ha : (Lit.int .u64 a).wf = true) :
    Calls Try.prog 6 #[.slice L n c, .int .u64 a] w fun e w' => e = .returned (.bool true) ∧ Below w.heap.size w w' := by
  have hb : 0 ≤ a ∧ a ≤ 18446744073709551615 := by simpa [Lit.wf, IntKind.min, IntKind.max, IntKind.signed, IntKind.bits] using ha
  have e : a = ((a.toNat : Nat) : Int) := by omega
  rw [e]
  exact (storePlays_core w L n c qs hL hl hq a.toNat).mono fun _ _ h => ⟨h.1, h.2.below⟩
end Go.Proofs.Ytccphnkdnifpfaa

namespace Go.Proofs.Ytccphnkdnifpfaa
set_option linter.unnecessarySimpa false
open Go.Joins Go.ChangeShapes Go.WideShapes Go.ChangeAt Go.RowKit Go.Deep
set_option linter.unusedVariables false
set_option linter.unusedSimpArgs false
set_option maxRecDepth 100000

/-- All that a datum holds is small enough. -/
def SmallW {H : Type} (P : Program) (t : TypeId) (d : DataW H) : Prop := ∀ m ∈ d.weights P t, m ≤ reachBytes
theorem small_slice {H : Type} {enc : TypeId × Value → H} {P : Program} {W : World} {t e : TypeId} {A : Option Addr} {l c : Nat} {fuel : Nat} {y : DataW H × List MemPlace}
    (ht : P.underlying t = some (.slice e)) (hf : DataW.trod enc P W 0 (fun _ => true) true fuel t [.slice A l c] = some y) (hs : SmallW P t y.1) : l * P.bytesOf e ≤ reachBytes := by
  rcases DataW.trod_slice ht hf with ⟨hcs, _⟩ | ⟨a, len, cap, elems, rest, n, _, hcs, hx, hb, hl, hm, hlen, -⟩
  · cases hcs; simp
  · cases hcs
    subst hx
    have := hs ((elems.length + rest.length) * P.bytesOf e) (by simp [DataW.weights, ht])
    have h2 : l * P.bytesOf e ≤ (elems.length + rest.length) * P.bytesOf e := Nat.mul_le_mul_right _ (by omega)
    omega
theorem read_bytes {H : Type} {enc : TypeId × Value → H} {P : Program} {W : World} {t e : TypeId} {v : Value} {fuel : Nat} {y : DataW H × List MemPlace}
    (ht : P.underlying t = some (.slice e)) (he : P.underlying e = some (.int .u8)) (hc : P.cellsOf e = 1) (hf : DataW.trod enc P W 0 (fun _ => true) true fuel t [v] = some y) :
    ∃ A n c xs, v = .slice A n c ∧ Bytes W (.slice A n c) xs ∧ xs.length = n := by
  rcases open_ints ht he hc hf with ⟨hcs, _⟩ | ⟨x, l, c, zs, hcs, _, hl, hm, hz, hx, hcell, hwz⟩
  · cases hcs
    exact ⟨_, _, _, [], rfl, Bytes.nil W, rfl⟩
  · cases hcs
    generalize l = len0 at *
    simp only [if_true] at hz
    have hzl : (zs.take len0).length = len0 := by rw [List.length_take]; omega
    refine ⟨_, _, _, (zs.take len0).map (fun z => UInt8.ofNat z.toNat), rfl, ?_, by simpa using hzl⟩
    refine ⟨_, _, by rw [List.length_map, hzl], by rw [List.length_map, hzl]; exact hl, hm, fun hp => ?_⟩
    have hpos : 0 < zs.length := by
      simp only [length_u8s, List.length_map, List.length_take] at hp
      omega
    obtain ⟨b, off, spot⟩ := x
    have hc0 := hcell 0 hpos
    have hspot : spot = none := by simpa [Addr.add] using World.cell?_spot hc0
    subst hspot
    refine ⟨b, off, rfl, fun j u hj => ?_⟩
    have hjl : j < len0 := by
      have := (List.getElem?_eq_some_iff.1 hj).1
      simp only [length_u8s, List.length_map, hzl] at this
      exact this
    have hcj := hcell j (by omega)
    rw [Addr.add_lit] at hcj
    rw [hcj]
    have hzj : zs.getD j 0 ∈ zs := by
      simp only [List.getD, List.getElem?_eq_getElem (show j < zs.length by omega), Option.getD_some]
      exact List.getElem_mem _
    have hw := hwz _ hzj
    have hb : 0 ≤ zs.getD j 0 ∧ zs.getD j 0 ≤ 255 := by simpa [Lit.wf, IntKind.min, IntKind.max, IntKind.signed, IntKind.bits] using hw
    rw [u8s_get _ _ (by rw [List.length_map, hzl]; exact hjl)] at hj
    simp only [List.getElem_map, List.getElem_take] at hj
    rw [← hj]
    have hg : zs[j]'(by omega) = zs.getD j 0 := by simp [List.getD, List.getElem?_eq_getElem (show j < zs.length by omega)]
    rw [hg]
    generalize zs.getD j 0 = z at hb
    congr 2
    rw [UInt8.toNat_ofNat']
    omega

theorem read_ents {H : Type} {enc : TypeId × Value → H} {W : World} {v : Value} {fuel : Nat} {y : DataW H × List MemPlace}
    (hf : DataW.trod enc Try.prog W 0 (fun _ => true) true fuel 53 [v] = some y) :
    ∃ (A : Option Addr) (n c : Nat) (xs : List Ent), v = .slice A n c ∧ Es W (.slice A n c) xs ∧ (∀ x ∈ xs, x.1.size ≤ maxLen ∧ x.2.2 < 18446744073709551616) ∧ n ≤ maxLen := by
  rcases DataW.trod_slice Try.underlying53 hf with ⟨hcs, _⟩ | ⟨a, len, cap, elems, rest, n, _, hcs, _, hb, hl, hm, hlen, hel, -, -⟩
  · cases hcs
    exact ⟨_, _, _, [], rfl, Holds.nil W, (fun x hx => by cases hx), by unfold maxLen; omega⟩
  · cases hcs
    have hlen : elems.length = len := hlen
    generalize len = n0 at *
    generalize cap = c0 at *
    have each : ∀ i, i < n0 → ∃ x : Ent, (∀ j u, (encE x)[j]? = some u → W.cell? (a.add (i * 3 + j)) = some u) ∧ x.1.size ≤ maxLen ∧ x.2.2 < 18446744073709551616 := by
      intro i hi
      have h1 := hel i hi
      rw [List.getElem?_eq_getElem (by omega), Option.bind_eq_some_iff] at h1
      obtain ⟨us, h2, h3⟩ := h1
      obtain ⟨x, rfl, x1, x2⟩ := read_ent h3
      refine ⟨x, fun j u hj => ?_, x1, x2⟩
      have h4 := (World.cells?_some h2).2.2 j (List.getElem?_eq_some_iff.1 hj).1
      rw [hj, Go.Deep.add_add] at h4
      exact h4
    obtain ⟨f, hfn⟩ := choose_lt each
    have hlen2 : ((List.range n0).map f).length = n0 := by simp
    refine ⟨_, _, _, (List.range n0).map f, rfl, ⟨some a, c0, by rw [hlen2], by rw [hlen2]; exact hl, hm, fun hp => ?_⟩, ?_, by omega⟩
    · rw [encE_len, hlen2] at hp
      obtain ⟨b, off, spot⟩ := a
      have hc0 := (hfn 0 (by omega)).1 0 _ rfl
      have hspot : spot = none := by simpa [Addr.add] using World.cell?_spot hc0
      subst hspot
      refine ⟨b, off, rfl, fun j u hj => ?_⟩
      have hjl : j < n0 * 3 := by
        have := (List.getElem?_eq_some_iff.1 hj).1
        rwa [encE_len, hlen2] at this
      have hk : j / 3 < n0 := by omega
      have hj3 : j = j / 3 * 3 + j % 3 := by omega
      have := (hfn (j / 3) hk).1 (j % 3) u (by
        rw [hj3, encE_get _ (j / 3) (j % 3) (by rw [hlen2]; exact hk) (by omega)] at hj
        simpa using hj)
      rw [← hj3, Addr.add_lit] at this
      exact this
    · intro x hx
      obtain ⟨i, hi, rfl⟩ := List.mem_map.1 hx
      exact (hfn i (List.mem_range.1 hi)).2


theorem read_commit {H : Type} {enc : TypeId × Value → H} {W : World} {fuel : Nat} {cs : List Value} {y : DataW H × List MemPlace}
    (hf : DataW.trod enc Try.prog W 0 (fun _ => true) true fuel 44 cs = some y) (hs : SmallW Try.prog 44 y.1) :
    ∃ (t : Nat) (A : Option Addr) (n c : Nat) (ps : List Nat) (a : ByteArray) (dt : Int) (x : ByteArray), cs = [.int .u64 (t : Int), .slice A n c, .string a, .int .i64 dt, .string x] ∧ Sl u64v W (.slice A n c) ps ∧ (∀ q ∈ ps, q < 18446744073709551616) ∧
      t < 18446744073709551616 ∧ n * 8 ≤ reachBytes ∧ a.size ≤ maxLen ∧ x.size ≤ maxLen ∧ -9223372036854775808 ≤ dt ∧ dt ≤ 9223372036854775807 := by
  obtain ⟨ys, n, -, hy, hlen, hyl, hfd⟩ := DataW.trod_struct Try.underlying44 hf
  have hl5 : cs.length = 5 := hlen.trans (by kernel_rfl)
  match cs, hl5 with
  | [u0, u1, u2, u3, u4], _ =>
    have y5 : ys.length = 5 := hyl
    match ys, y5 with
    | [y0, y1, y2, y3, y4], _ =>
      have g0 : DataW.trod enc Try.prog W 0 (fun _ => true) true n 32 [u0] = some y0 := hfd 0 _ rfl
      have g1 : DataW.trod enc Try.prog W 0 (fun _ => true) true n 42 [u1] = some y1 := hfd 1 _ rfl
      have g2 : DataW.trod enc Try.prog W 0 (fun _ => true) true n 9 [u2] = some y2 := hfd 2 _ rfl
      have g3 : DataW.trod enc Try.prog W 0 (fun _ => true) true n 2 [u3] = some y3 := hfd 3 _ rfl
      have g4 : DataW.trod enc Try.prog W 0 (fun _ => true) true n 9 [u4] = some y4 := hfd 4 _ rfl
      have s1 : SmallW Try.prog 42 y1.1 := fun m hm => hs m (by
        rw [hy]
        simp only [List.map_cons, List.map_nil, DataW.weights, Try.underlying44]
        exact DataW.weights_mem_each (j := 1) (t := 42) rfl rfl m hm)
      obtain ⟨t, q0, -, w0⟩ := DataW.trod_int Try.underlying32 g0
      obtain ⟨A, l, c, ps, rfl, e1, e2, e3⟩ := read_u64s Try.underlying42 Try.underlying32 (by kernel_rfl) g1
      have hb := small_slice Try.underlying42 g1 s1
      rw [show Try.prog.bytesOf 32 = 8 from by kernel_rfl] at hb
      obtain ⟨a, q2, -, w2⟩ := DataW.trod_string Try.underlying9 g2
      obtain ⟨dt, q3, -, w3⟩ := DataW.trod_int Try.underlying2 g3
      obtain ⟨x, q4, -, w4⟩ := DataW.trod_string Try.underlying9 g4
      cases q0
      cases q2
      cases q3
      cases q4
      have hw0 : 0 ≤ t ∧ t ≤ 18446744073709551615 := by simpa [Lit.wf, IntKind.min, IntKind.max, IntKind.signed, IntKind.bits] using w0
      have hw3 : -9223372036854775808 ≤ dt ∧ dt ≤ 9223372036854775807 := by simpa [Lit.wf, IntKind.min, IntKind.max, IntKind.signed, IntKind.bits] using w3
      have ht : ((t.toNat : Nat) : Int) = t := by omega
      exact ⟨t.toNat, A, l, c, ps, a, dt, x, by rw [ht], e1, e2, by omega, hb, w2, w4, hw3.1, hw3.2⟩
theorem read_thing {H : Type} {enc : TypeId × Value → H} {W : World} {fuel : Nat} {cs : List Value} {y : DataW H × List MemPlace}
    (hf : DataW.trod enc Try.prog W 0 (fun _ => true) true fuel 72 cs = some y) (hs : SmallW Try.prog 72 y.1) :
    ∃ q : Thg, ThC W q cs.toArray ∧ q.ok := by
  obtain ⟨ys, n, -, hy, hlen, hyl, hfd⟩ := DataW.trod_struct Try.underlying72 hf
  have hl8 : cs.length = 8 := hlen.trans (by kernel_rfl)
  match cs, hl8 with
  | [u0, u1, u2, u3, u4, u5, u6, u7], _ =>
    have y4 : ys.length = 4 := hyl
    match ys, y4 with
    | [y0, y1, y2, y3], _ =>
      have g0 : DataW.trod enc Try.prog W 0 (fun _ => true) true n 3 [u0] = some y0 := hfd 0 _ rfl
      have g1 : DataW.trod enc Try.prog W 0 (fun _ => true) true n 30 [u1] = some y1 := hfd 1 _ rfl
      have g2 : DataW.trod enc Try.prog W 0 (fun _ => true) true n 53 [u2] = some y2 := hfd 2 _ rfl
      have g3 : DataW.trod enc Try.prog W 0 (fun _ => true) true n 44 [u3, u4, u5, u6, u7] = some y3 := hfd 3 _ rfl
      have sm : ∀ (j : Nat) (t : TypeId) (d : DataW H), ([3, 30, 53, 44] : List TypeId)[j]? = some t → [y0.1, y1.1, y2.1, y3.1][j]? = some d → SmallW Try.prog t d := fun j t d ht hd m hm => hs m (by
        rw [hy]
        simp only [List.map_cons, List.map_nil, DataW.weights, Try.underlying72]
        exact DataW.weights_mem_each (j := j) (t := t) ht hd m hm)
      obtain ⟨kd, q0, -, w0⟩ := DataW.trod_int Try.underlying3 g0
      obtain ⟨AB, nb, cb, l, rfl, b1, b2⟩ := read_bytes Try.underlying30 Try.underlying5 (by kernel_rfl) g1
      have hb1 := small_slice Try.underlying30 g1 (sm 1 _ _ rfl rfl)
      rw [show Try.prog.bytesOf 5 = 1 from by kernel_rfl] at hb1
      obtain ⟨AT, nt, ct, es, rfl, t1, t2, t3⟩ := read_ents g2
      have hb2 := small_slice Try.underlying53 g2 (sm 2 _ _ rfl rfl)
      rw [show Try.prog.bytesOf 130 = 32 from by kernel_rfl] at hb2
      obtain ⟨t, AP, np, cp, ps, a, dt, x, he, p1, p2, p3, p4, p5, p6, p7, p8⟩ := read_commit g3 (sm 3 _ _ rfl rfl)
      cases q0
      simp only [List.cons.injEq, and_true] at he
      obtain ⟨rfl, rfl, rfl, rfl, rfl⟩ := he
      have hlt := t1.len
      have hlp := p1.len
      simp only [reachBytes] at hb1 hb2 p4
      refine ⟨⟨kd, l, es, t, ps, a, dt, x⟩, ⟨AB, nb, cb, AT, nt, ct, AP, np, cp, rfl, b1, b2, t1, p1⟩, t2, p2, p3, p7, p8, p5, p6, ?_, ?_, ?_⟩
      · show l.length ≤ _; omega
      · show es.length * 32 ≤ _; omega
      · show ps.length * 8 ≤ _; omega
theorem open_things {H : Type} {enc : TypeId × Value → H} {W : World} {v : Value} {d : DataW H} {p : List MemPlace} {r : Reach} {b0 : Nat}
    (hval : Value.okWide Try.prog W r b0 68 v) (h : DataW.Trod enc Try.prog W 0 (fun _ => true) true 68 v d p) (hs : SmallW Try.prog 68 d) :
    ∃ (A : Option Addr) (n c : Nat) (qs : List Thg), v = .slice A n c ∧ Ths W (.slice A n c) qs ∧ qs.length = n ∧ ∀ q ∈ qs, q.ok := by
  obtain ⟨A0, n0, c0, rfl⟩ := okWide_slice Try.underlying68 hval
  obtain ⟨fuel, hf⟩ := h
  rcases DataW.trod_slice Try.underlying68 hf with ⟨hcs, _⟩ | ⟨a, len, cap, elems, rest, n, _, hcs, hd, hb, hl, hm, hlen, hel, -, -⟩
  · simp [Value.cells] at hcs
    obtain ⟨rfl, rfl, rfl⟩ := hcs
    exact ⟨_, _, _, [], rfl, ⟨none, 0, rfl, fun h => by simp at h⟩, rfl, fun q hq => by cases hq⟩
  · simp [Value.cells] at hcs
    obtain ⟨rfl, rfl, rfl⟩ := hcs
    have hd := (Prod.mk.inj hd).1
    have each : ∀ i, i < n0 → ∃ x : Thg, (∃ cs : Array Value, ThC W x cs ∧ ∀ j u, cs[j]? = some u → W.cell? (a.add (i * 8 + j)) = some u) ∧ x.ok := by
      intro i hi
      have h1 := hel i hi
      rw [List.getElem?_eq_getElem (by omega), Option.bind_eq_some_iff] at h1
      obtain ⟨us, h2, h3⟩ := h1
      have hsm : SmallW Try.prog 72 (elems[i]'(by omega)).1 := fun m hm => hs m (by
        rw [hd]
        simp only [DataW.weights, Try.underlying68, List.mem_cons, List.mem_append]
        exact .inr (.inl (weightsAll_mem (List.mem_map.2 ⟨_, List.getElem_mem (by omega), rfl⟩) m hm)))
      obtain ⟨x, hx, hok⟩ := read_thing h3 hsm
      refine ⟨x, ⟨us.toArray, hx, fun j u hj => ?_⟩, hok⟩
      have hj : us[j]? = some u := by simpa using hj
      have h8 : us.length = 8 := by
        obtain ⟨AB, nb, cb, AT, nt, ct, AP, np, cp, he, -⟩ := hx
        have := congrArg Array.size he
        simpa using this
      have h4 := (World.cells?_some h2).2.2 j (by have := (List.getElem?_eq_some_iff.1 hj).1; rw [show Try.prog.cellsOf 72 = 8 from by kernel_rfl]; omega)
      rw [hj, Go.Deep.add_add] at h4
      exact h4
    obtain ⟨f, hfn⟩ : ∃ f : Nat → Thg, ∀ i, i < n0 → (∃ cs : Array Value, ThC W (f i) cs ∧ ∀ j u, cs[j]? = some u → W.cell? (a.add (i * 8 + j)) = some u) ∧ (f i).ok := by
      refine ⟨fun i => if hi : i < n0 then Classical.choose (each i hi) else ⟨0, [], [], 0, [], ⟨#[]⟩, 0, ⟨#[]⟩⟩, fun i hi => ?_⟩
      simp only [hi, dite_true]
      exact Classical.choose_spec (each i hi)
    have hlen2 : ((List.range n0).map f).length = n0 := by simp
    refine ⟨_, _, _, (List.range n0).map f, rfl, ⟨some a, c0, by rw [hlen2], fun hp => ?_⟩, hlen2, ?_⟩
    · rw [hlen2] at hp
      obtain ⟨b, off, spot⟩ := a
      obtain ⟨⟨cs0, hth0, hc0⟩, -⟩ := hfn 0 hp
      have hz : ∃ u, cs0[0]? = some u := by
        obtain ⟨AB, nb, cb, AT, nt, ct, AP, np, cp, rfl, -⟩ := hth0
        exact ⟨_, rfl⟩
      obtain ⟨u0, hu0⟩ := hz
      have hspot : spot = none := by simpa [Addr.add] using World.cell?_spot (hc0 0 u0 hu0)
      subst hspot
      refine ⟨b, off, rfl, fun i hi => ?_⟩
      rw [hlen2] at hi
      obtain ⟨⟨cs, hth, hc⟩, -⟩ := hfn i hi
      have e : ((List.range n0).map f)[i]'(by rw [hlen2]; exact hi) = f i := by simp
      rw [e]
      refine ⟨cs, hth, fun j u hj => ?_⟩
      have := hc j u hj
      rw [Addr.add_lit, ← Nat.add_assoc] at this
      exact this
    · intro x hx
      obtain ⟨i, hi, rfl⟩ := List.mem_map.1 hx
      exact (hfn i (List.mem_range.1 hi)).2
end Go.Proofs.Ytccphnkdnifpfaa

namespace Go.Proofs.Ytccphnkdnifpfaa.storePlays
set_option linter.unnecessarySimpa false
open Go.Proofs.Ytccphnkdnifpfaa
open Go.ChangeShapes Go.WideShapes Go.ChangeAt Go.RowKit
open Go.ChangeMaps (open_string shut_string)
set_option linter.unusedVariables false
set_option linter.unusedSimpArgs false

set_option maxRecDepth 100000 in
theorem lifted (os : Os) (started : os.Started) (H : Type) (enc : TypeId × Value → H) :
    ReturnsInHanded {} Try.checked os 6 .any (Rows.storePlaysSpec.pre6 enc Try.prog Try.f6 Rows.storePlaysRow.domain false) (Rows.storePlaysSpec.post enc Try.prog Try.f6 false true false false) := by
  refine returnsInHanded_of_change_sized (C := Try.checked) own started (by kernel_rfl) Try.func6
    (ChangeSpec.witness6 (enc := enc) (C := Try.checked) false ⟨#[], #[.slice none 0 0, .int .u64 0], []⟩ 8 (by kernel_rfl) (by kernel_rfl) (by kernel_rfl) (by kernel_rfl)) ?_
  intro W base args ds gs before hval0 hW hcnd hsz0 _
  have hval : ∀ (j : Nat) t v, Try.f6.params[j]? = some t → args[j]? = some v → Value.okWide Try.prog W .any base t v := hval0
  have hsz : (DataW.weightsEach Try.prog (Try.f6.params.toList ++ Rows.storePlaysSpec.plain.varTypes Try.prog) (ds ++ gs)).all (· ≤ reachBytes) = true := hsz0
  have hW' := hW
  obtain ⟨p, q, hA0, hV, rfl, hfz, hnd⟩ := hW
  have hA : DataW.TrodAll enc Try.prog W 0 (fun _ => true) true Try.f6.params.toList args.toList ds p := hA0
  rw [Try.params6] at hA hval
  rw [Try.params6] at hsz
  obtain ⟨v0, vs0, d0, ds0, p0, q0, hargs, rfl, rfl, h0, r0⟩ := trodAll_cons hA
  obtain ⟨v1, vs1, d1, ds1, p1, q1, rfl, rfl, rfl, h1, r1⟩ := trodAll_cons r0
  obtain ⟨rfl, rfl, rfl⟩ := trodAll_nil r1
  obtain rfl : args = #[v0, v1] := by cases args; simp_all
  obtain ⟨rfl, rfl⟩ := trodVars_none hV
  have k0 := h0
  have lt0 : ∀ x ∈ p0, x.block < W.heap.size := by obtain ⟨m, hm⟩ := k0; exact DataW.trod_lt m _ _ _ hm
  obtain ⟨A0, n0, c0, qs0, rfl, w0, l0, o0⟩ := open_things (hval 0 68 v0 rfl rfl) h0 (fun m hm => by have := List.all_eq_true.1 hsz _ (DataW.weights_mem_each (j := 0) (t := 68) rfl rfl m hm); simpa using this)
  have k1 := h1
  have lt1 : ∀ x ∈ p1, x.block < W.heap.size := by obtain ⟨m, hm⟩ := k1; exact DataW.trod_lt m _ _ _ hm
  obtain ⟨a1, rfl, rfl, rfl, w1⟩ := open_int Try.underlying32 (hval 1 32 v1 rfl rfl) h1
  clear hA0 hval0
  refine (storePlays_walk W A0 n0 c0 qs0 w0 l0 o0 a1 w1).mono fun e W' ⟨he, bel⟩ => ?_
  subst he
  exact ⟨_, rfl, _, _, _, [], _, [], hW', trodAll_mk1 (shut_bool Try.underlying4 _), (trodAll_cons_mk (Below.trod laidOut (by kernel_rfl) (of_decide_eq_true (by kernel_rfl)) k0 bel lt0) (trodAll_cons_mk (Below.trod laidOut (by kernel_rfl) (of_decide_eq_true (by kernel_rfl)) k1 bel lt1) trodAll_mk0)), rfl, bel.frame _, fun h => by cases h⟩

theorem over : Rows.storePlaysRow.holds Try.pinned (OpenSpec.ofChange Rows.storePlaysSpec) :=
  OpenClaim.holds_of_wide 6 Try.f6 rfl rfl rfl rfl rfl rfl rfl ⟨rfl, rfl, rfl, rfl, rfl⟩ rfl rfl rfl rfl rfl (by kernel_rfl) Try.func6 (by kernel_rfl)
    (of_decide_eq_true (by kernel_rfl)) (by unfold Func.isWrapper; first | (rw [if_pos (by decide +kernel)]; kernel_rfl) | (rw [if_neg (by decide +kernel)]; exact ⟨rfl, rfl⟩))
    (fun os started H enc _ => lifted os started H enc)

theorem proved : Rows.StorePlaysSaid := over
#print axioms proved
end Go.Proofs.Ytccphnkdnifpfaa.storePlays

