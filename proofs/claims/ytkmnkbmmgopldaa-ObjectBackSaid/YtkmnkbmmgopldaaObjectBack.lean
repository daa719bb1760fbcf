/-
  The walk of ObjectBack.
-/
import Derived.Test.YtkmnkbmmgopldaaOe
namespace Go.Proofs.Ytkmnkbmmgopldaa
open Go.RowKit
set_option linter.unusedVariables false
set_option linter.unusedSimpArgs false
set_option maxRecDepth 100000

theorem cells5b {W : World} {g : Nat} {a b c d e : Value} {t : TypeId} {fz : Nat × Nat} (h : W.heap[g]? = some (.cells #[a, b, c, d, e] t fz)) :
    W.cell? ⟨g, 0, none⟩ = some a ∧ W.cell? ⟨g, 1, none⟩ = some b ∧ W.cell? ⟨g, 2, none⟩ = some c ∧ W.cell? ⟨g, 3, none⟩ = some d ∧ W.cell? ⟨g, 4, none⟩ = some e :=
  ⟨cellAt h 0 a rfl, cellAt h 1 b rfl, cellAt h 2 c rfl, cellAt h 3 d rfl, cellAt h 4 e rfl⟩
theorem Es.take {w : World} {A : Option Addr} {n c : Nat} {xs : List Ent} (h : Es w (.slice A n c) xs) {k : Nat} (hk : k ≤ n) : Es w (.slice A k c) (xs.take k) := by
  have hl := h.len
  obtain ⟨A', c', he, hn, hm, hx⟩ := h
  simp only [Value.slice.injEq] at he
  obtain ⟨rfl, rfl, rfl⟩ := he
  have hk' : (xs.take k).length = k := by rw [List.length_take]; omega
  refine ⟨_, _, by rw [hk'], by rw [hk']; omega, hm, fun hp => ?_⟩
  rw [encE_len, hk'] at hp
  obtain ⟨b, o, rfl, hc⟩ := hx (by rw [encE_len]; omega)
  refine ⟨b, o, rfl, fun j u hj => hc j u ?_⟩
  have hjl : j < k * 3 := by
    have := (List.getElem?_eq_some_iff.1 hj).1
    rwa [encE_len, hk'] at this
  have hj3 : j = j / 3 * 3 + j % 3 := by omega
  rw [hj3, encE_get _ (j / 3) (j % 3) (by rw [hk']; omega) (by omega)] at hj
  rw [hj3, encE_get _ (j / 3) (j % 3) (by omega) (by omega)]
  simpa using hj
theorem obB_len (o : Ob) (hc : obCheck o = 0) : (obB o).length ≤ 1000000 := by
  cases o with
  | blob l =>
    have h4 : ¬ 4096 < l.length := by
      intro h4
      have : obCheck (.blob l) = 3 := if_pos h4
      rw [this] at hc
      cases hc
    simp [obB]
    omega
  | tree l =>
    have hc : treeF l = 0 := hc
    obtain ⟨h1, h2⟩ := treeF_zero hc
    have h3 := entsB_len l (fun x hx => (h2 x hx).1)
    have h4 := leb_len10 l.length (by omega)
    simp only [obB, treeB, List.length_append, List.length_cons, List.length_nil]
    omega
  | commit t ps a d x =>
    have hc : ((commitF t ps a x : Nat) : Int) = 0 := hc
    have := commitB_len (d := d) (show commitF t ps a x = 0 by omega)
    simp [obB]
    omega
/-- What is asked of an object that came in. -/
structure Obj3 (w : World) (o : Value) (ob : Ob) (k : Int) : Prop where
  enc : Encodes w o k (if k = 0 then obB ob else [])
  chk : ∀ W, Chg No w W → Calls Try.prog 14 #[o] W fun e w' => e = .returned (.int .i64 k) ∧ Chg No W w'
  kind : ∀ W, Calls Try.prog 23 #[o] W fun e w' => e = .returned (.int .i64 (obKind ob : Nat)) ∧ W = w'
  good : k = 0 → obCheck ob = 0 ∧ Wf ob
theorem obj3_blob (w : World) (A : Option Addr) (n c : Nat) (xs : List UInt8) (hb : Bytes w (.slice A n c) xs) (hl : xs.length = n) : Obj3 w (blobV (.slice A n c)) (.blob xs) (if 4096 < n then 3 else 0) := by
  refine ⟨?_, fun W hW => check_blob W A n c, fun W => (kind_blob W _).mono fun _ _ h => ⟨h.1, h.2.symm⟩, fun h => ⟨?_, trivial⟩⟩
  · have := encodes_blob w A n c xs hb hl
    by_cases h : 4096 < n
    · simp only [if_pos h] at this ⊢
      exact this
    · simp only [if_neg h] at this ⊢
      exact this
  · show (if 4096 < xs.length then (3 : Int) else 0) = 0
    rw [hl]; exact h
theorem obj3_tree (w : World) (A : Option Addr) (n c : Nat) (xs : List Ent) (h : Es w (.slice A n c) xs) (hb : ∀ x ∈ xs, x.1.size ≤ maxLen ∧ x.2.2 < 18446744073709551616) : Obj3 w (treeV (.slice A n c)) (.tree xs) (treeF xs) := by
  have mx : maxLen ≤ 9223372036854775807 := by unfold maxLen; omega
  have hb1 : ∀ x ∈ xs, x.1.size ≤ 9223372036854775807 := fun x hx => Nat.le_trans (hb x hx).1 mx
  exact ⟨encodes_tree w A n c xs h hb1 (fun x hx => (hb x hx).2), fun W hW => check_tree W A n c xs (h.no hW) hb1, fun W => (kind_tree W _).mono fun _ _ h => ⟨h.1, h.2.symm⟩, fun h => ⟨h, fun x hx => (hb x hx).2⟩⟩
theorem obj3_commit (w : World) (t : Nat) (A : Option Addr) (n c : Nat) (ps : List Nat) (a : ByteArray) (d : Int) (x : ByteArray) (hs : Sl u64v w (.slice A n c) ps) (hp : ∀ q ∈ ps, q < 18446744073709551616) (ht : t < 18446744073709551616) (hn : n ≤ 9223372036854775807) (ha : a.size ≤ 9223372036854775807) (hx : x.size ≤ 9223372036854775807) (hd : -9223372036854775808 ≤ d ∧ d ≤ 9223372036854775807) :
    Obj3 w (commitV (t : Int) (.slice A n c) a d x) (.commit t ps a.data.toList d x.data.toList) (commitF t ps a.data.toList x.data.toList : Nat) := by
  refine ⟨?_, fun W hW => check_commit W t A n c ps a d x (hs.no hW) hn ha hx, fun W => (kind_commit W _ _ _ _ _).mono fun _ _ h => ⟨h.1, h.2.symm⟩, fun h => ⟨h, ht, hp, hd⟩⟩
  have := encodes_commit w t A n c ps a d x hs hn ha hx ht hp
  by_cases h : commitF t ps a.data.toList x.data.toList = 0
  · rw [if_pos h] at this
    rw [if_pos (by rw [h]; rfl)]
    exact this
  · rw [if_neg h] at this
    rw [if_neg (by omega)]
    exact this


set_option maxHeartbeats 6400000 in
theorem objectBack_core (w : World) (Ab : Option Addr) (nb cb : Nat) (xs : List UInt8) (hb : Bytes w (.slice Ab nb cb) xs) (hl : xs.length = nb) (hnb : nb ≤ 140737488351232)
    (Al : Option Addr) (nl cl : Nat) (ys0 : List Ent) (hy : Es w (.slice Al nl cl) ys0) (hyb : ∀ x ∈ ys0, x.1.size ≤ maxLen ∧ x.2.2 < 18446744073709551616)
    (t : Nat) (A : Option Addr) (n c : Nat) (ps : List Nat) (a : ByteArray) (d : Int) (x : ByteArray) (hs : Sl u64v w (.slice A n c) ps) (hp : ∀ q ∈ ps, q < 18446744073709551616) (ht : t < 18446744073709551616) (hn : n ≤ maxLen) (ha : a.size ≤ maxLen) (hx : x.size ≤ maxLen) (hd1 : -9223372036854775808 ≤ d) (hd2 : d ≤ 9223372036854775807) :
    Calls Try.prog 7 #[.slice Ab nb cb, .slice Al nl cl, .agg #[.int .u64 (t : Int), .slice A n c, .string a, .int .i64 d, .string x]] w fun e w' => e = .returned (.bool true) ∧ Chg No w w' := by
  have mx : maxLen ≤ 9223372036854775807 := by unfold maxLen; omega
  have hnlc : nl ≤ cl := by
    have := hy.len
    obtain ⟨A', c', he, h2, -⟩ := hy
    simp only [Value.slice.injEq] at he
    omega
  have O1 := Lib.hid (obj3_blob w Ab nb cb xs hb hl)
  have O2 := Lib.hid (fun N (hN : N ≤ nl) => obj3_tree w Al N cl (ys0.take N) (hy.take hN) (fun x hx => hyb x (List.mem_of_mem_take hx)))
  have O3 := Lib.hid (obj3_commit w t A n c ps a d x hs hp ht (by omega) (by omega) (by omega) ⟨hd1, hd2⟩)
  have HBX := Lib.hid hb
  have HY := Lib.hid hy
  have HS := Lib.hid hs
  have HBL := Lib.hid hl
  have hbx := heap_alloc_new w (.cells #[.int .u64 (t : Int), .slice A n c, .string a, .int .i64 d, .string x] 27)
  have HN : n ≤ 9223372036854775807 := by omega
  have HQ := Lib.hid hbx
  clear hb hl hy hyb hs hp ha hx hd1 hd2 hbx hn mx ht
  go_enter Try.func7, Try.ntmps7
  go_wp2_with fail
  refine (wakes_calls _).mono ?_
  rintro e w1 ⟨rfl, hc1⟩
  have HP := Lib.hid (hc1.heap HQ.out (fun x => x))
  have HC1 := Lib.hid (((Chg.refl No w).alloc _).no hc1)
  clear hc1 HQ
  obtain ⟨p0, p1, p2, p3, p4⟩ := cells5b HP.out
  generalize w.heap.size = g at *
  have hcap : (min (nl : Int) 256) ≤ (cl : Int) := by omega
  have hcap0 : 0 ≤ (min (nl : Int) 256) := by omega
  go_wp2
  have hN1 : (min (nl : Int) 256).toNat ≤ nl := by omega
  have hN2 : (min (nl : Int) 256).toNat ≤ 256 := by omega
  clear hcap hcap0
  generalize (min (nl : Int) 256).toNat = N at *
  have O2' := Lib.hid (O2.out N hN1)
  have HY' : Hid (Es w (.slice Al N cl) (ys0.take N)) := HY.out.take hN1
  clear O2 HY hN1 p0 p1 p2 p3 p4
  generalize ys0.take N = ys at *
  go_loopw [36] (fun i wr => ∃ k : Nat, k ≤ 3 ∧ i = .int .i64 (k : Int) ∧ Hid (Chg No w1 wr)) (fun i _ => 3 - (intOf i).toNat)
  case atStart => exact ⟨0, by omega, rfl, Chg.refl _ _⟩
  case round =>
    obtain ⟨k, hk, rfl, HC⟩ := hrel
    by_cases hlt : k < 3
    · obtain ⟨o, ob, kk, hidx, HO, hob⟩ : ∃ (o : Value) (ob : Ob) (kk : Int), (∀ W, Sem.run Try.prog (Instr.index 64 (.agg #[.iface 40 (.agg #[.slice Ab nb cb]), .iface 33 (.agg #[.slice Al N cl]), .iface 27 (.agg #[.int .u64 (t : Int), .slice A n c, .string a, .int .i64 d, .string x])]) (.int .i64 (k : Int))) W = .ok o W) ∧ Hid (Obj3 w o ob kk) ∧ Hid (ob = .blob xs ∨ ob = .tree ys ∨ ob = .commit t ps a.data.toList d x.data.toList) := by
        match k, hlt with
        | 0, _ => exact ⟨_, _, _, fun W => rfl, O1.out, .inl rfl⟩
        | 1, _ => exact ⟨_, _, _, fun W => rfl, O2'.out, .inr (.inl rfl)⟩
        | 2, _ => exact ⟨_, _, _, fun W => rfl, O3.out, .inr (.inr rfl)⟩
      clear O1 O2' O3
      go_wp2_with fail
      refine (HO.out.enc wr (HC1.out.no HC.out)).mono ?_
      rintro e w2 ⟨v2, rfl, ho2, hc2⟩
      obtain ⟨A2, n2, c2, rfl, HL2, HO2⟩ := ho2.form
      have HC2 := Lib.hid (HC.out.no hc2)
      clear ho2 hc2
      go_wp2_with fail
      refine (HO.out.chk w2 (HC1.out.no HC2.out)).mono ?_
      rintro e w3 ⟨rfl, hc3⟩
      have HC3 := Lib.hid (HC2.out.no hc3)
      have HB3 := Lib.hid (HO2.out.bytes.no hc3)
      clear hc3 HO2
      by_cases hk0 : kk = 0
      · subst hk0
        rw [if_pos rfl] at HL2 HB3
        obtain ⟨g1, g2⟩ := HO.out.good rfl
        have HEN : Hid (Encodes w o 0 (obB ob)) := by have := HO.out.enc; rw [if_pos rfl] at this; exact this
        have HKD := Lib.hid HO.out.kind
        have HLB := obB_len ob g1
        have hn2 : n2 ≤ 1000000 := by have := HL2.out; omega
        have HID : 0 < idF (obB ob) := by unfold idF; omega
        have hdw := dec_whole ob g2 g1
        clear HO
        go_wp2_with fail
        refine (decode_calls w3 A2 n2 c2 (obB ob) HB3.out HL2.out hn2).mono ?_
        rintro e w4 ⟨hD, hc4⟩
        rw [hdw] at hD
        obtain ⟨p, rfl, hI⟩ := hD
        have HEP := Lib.hid (encodes_ob w4 _ p ob hI g1 g2)
        have HKP : Hid (∀ W, Calls Try.prog 23 #[p] W fun e w' => e = .returned (.int .i64 (obKind ob : Nat)) ∧ W = w') := fun W => (kind_ob w4 _ p ob W hI).mono fun _ _ h => ⟨h.1, h.2.symm⟩
        have HC4 := Lib.hid (HC3.out.no hc4)
        have HB4 := Lib.hid (HB3.out.no hc4)
        have HI := Lib.hid hI
        clear hc4 HB3 hI hdw
        generalize obKind ob = kd at *
        go_wp2_with fail
        refine (HEP.out w4 (Chg.refl _ _)).mono ?_
        rintro e w5 ⟨v5, rfl, ho5, hc5⟩
        obtain ⟨A5, n5, c5, rfl, HL5, HO5⟩ := ho5.form
        have HC5 := Lib.hid (HC4.out.no hc5)
        have HB5 := Lib.hid (HB4.out.no hc5)
        have HC45 := Lib.hid hc5
        clear hc5 ho5 HB4
        go_wp2_with fail
        refine (of_calls w5 o 0 (obB ob) (HEN.out.no (HC1.out.no HC5.out)) (by omega)).mono ?_
        rintro e w6 ⟨rfl, hc6⟩
        have HC6 := Lib.hid (HC5.out.no hc6)
        have HC46 := Lib.hid (HC45.out.no hc6)
        have HEQ : Hid (Calls Try.prog 22 #[.slice A2 n2 c2, .slice A5 n5 c5] w6 fun e w' => e = .returned (.bool true) ∧ w6 = w') := by
          have := equal_calls w6 A2 n2 c2 (obB ob) A5 n5 c5 (obB ob) (HB5.out.no hc6) (HO5.out.bytes.no hc6)
          rw [decide_eq_true rfl] at this
          exact this.mono fun _ _ h => ⟨h.1, h.2.symm⟩
        have HSM : Hid (Calls Try.prog 24 #[o, p] w6 fun e w' => e = .returned (.bool true) ∧ Chg No w6 w') := by
          have := same_calls w6 o p 0 0 (obB ob) (obB ob) (HEN.out.no (HC1.out.no HC6.out)) (HEP.out.no HC46.out)
          simp only [decide_true, Bool.and_true, Bool.true_and] at this
          exact this
        have HB6 := Lib.hid (HB5.out.no hc6)
        clear hc6 HO5 HL5 HB5 HEN HEP
        rw [if_pos rfl]
        generalize hgid : idF (obB ob) = q at *
        have HGID := Lib.hid hgid
        clear hgid
        go_wp2_with fail
        refine HEQ.out.mono ?_
        rintro e w' ⟨rfl, rfl⟩
        go_wp2_with fail
        refine (HKP.out _).mono ?_
        rintro e w' ⟨rfl, rfl⟩
        go_wp2_with fail
        refine (HKD.out _).mono ?_
        rintro e w' ⟨rfl, rfl⟩
        go_wp2_with fail
        refine HSM.out.mono ?_
        rintro e w7 ⟨rfl, hc7⟩
        have HC7 := Lib.hid (HC6.out.no hc7)
        have HC47 := Lib.hid (HC46.out.no hc7)
        have HB7 := Lib.hid (HB6.out.no hc7)
        clear hc7 HB6 HEQ HSM HKP HKD
        have hq0 : ((q : Int) == 0) = false := by simp; omega
        go_wp2_with fail
        refine (id_calls w7 A2 n2 c2 (obB ob) HB7.out HL2.out (by omega)).mono ?_
        rintro e w' ⟨rfl, hw'⟩
        obtain rfl := hw'.symm
        rw [HGID.out]
        have HI7 := Lib.hid (HI.out.no HC47.out)
        clear HI HB7 HL2 HGID
        rcases hob.out with rfl | rfl | rfl
        · obtain ⟨s7, rfl, h7⟩ := HI7.out
          obtain ⟨A7, n7, c7, rfl, HL7, HO7⟩ := h7.form
          have fb := fun w => ta_blob_blob w (.agg #[.slice A7 n7 c7])
          clear h7 HI7 hob
          go_wp2_with fail
          refine (equal_calls _ A7 n7 c7 xs Ab nb cb xs (HO7.out.bytes.no ((Chg.refl No _).alloc _)) (HBX.out.no ((HC1.out.no HC7.out).alloc _))).mono ?_
          rw [decide_eq_true rfl]
          rintro e w8 ⟨rfl, rfl⟩
          go_wp2
          go_roundw
          case rel => exact ⟨k + 1, by omega, by simp, HC7.out.alloc _⟩
          case measure => simp [intOf]; omega
        · obtain ⟨s7, rfl, h7⟩ := HI7.out
          obtain ⟨A7, c7, rfl⟩ := ownsRow_form h7
          have fb := fun w => ta_tree_blob w (.agg #[.slice A7 ys.length c7])
          have ft := fun w => ta_tree_tree w (.agg #[.slice A7 ys.length c7])
          have HE7 : Hid (Es w7 (.slice A7 ys.length c7) ys) := Holds.ofOwn h7
          have hyl : ys.length ≤ 256 := by have := HY'.out.len; omega
          clear h7 HI7 hob
          generalize ys.length = n7 at *
          go_wp2_with fail
          refine (ents_calls _ A7 n7 c7 ys Al N cl ys (HE7.out.no ((Chg.refl No _).alloc _)) (HY'.out.no ((HC1.out.no HC7.out).alloc _)) (by omega)).mono ?_
          rw [decide_eq_true rfl]
          rintro e w8 ⟨rfl, hc8⟩
          have HC8 := Lib.hid ((HC7.out.alloc _).no hc8)
          clear hc8
          go_wp2
          go_roundw
          case rel => exact ⟨k + 1, by omega, by simp, HC8.out⟩
          case measure => simp [intOf]; omega
        · obtain ⟨s7, rfl, h7⟩ := HI7.out
          obtain ⟨A7, c7, rfl⟩ := ownsRow_form h7
          rw [mkS_self, mkS_self]
          have fb := fun w => ta_commit_blob w (.agg #[.int .u64 (t : Int), .slice A7 ps.length c7, .string a, .int .i64 d, .string x])
          have ft := fun w => ta_commit_tree w (.agg #[.int .u64 (t : Int), .slice A7 ps.length c7, .string a, .int .i64 d, .string x])
          have fc := fun w => ta_commit_commit w (.agg #[.int .u64 (t : Int), .slice A7 ps.length c7, .string a, .int .i64 d, .string x])
          have HE7 : Hid (Sl u64v w7 (.slice A7 ps.length c7) ps) := Holds.ofOwn h7
          have hyl : ps.length ≤ 9223372036854775807 := by have := HS.out.len; omega
          obtain ⟨p0, p1, p2, p3, p4⟩ := cells5b ((HC7.out.alloc (.cells #[.int .u64 (t : Int), .slice A7 ps.length c7, .string a, .int .i64 d, .string x] 27)).heap HP.out (fun x => x))
          clear h7 HI7 hob
          generalize ps.length = n7 at *
          go_wp2_with fail
          refine (commits_calls _ t A7 n7 c7 ps a d x t A n c ps a d x (HE7.out.no ((Chg.refl No _).alloc _)) (HS.out.no ((HC1.out.no HC7.out).alloc _)) hyl).mono ?_
          rw [decide_eq_true ⟨rfl, rfl, rfl, rfl, rfl⟩]
          rintro e w8 ⟨rfl, hc8⟩
          have HC8 := Lib.hid ((HC7.out.alloc _).no hc8)
          clear hc8 p0 p1 p2 p3 p4
          go_wp2
          go_roundw
          case rel => exact ⟨k + 1, by omega, by simp, HC8.out⟩
          case measure => simp [intOf]; omega
      · have hkb : (kk == 0) = false := by simpa using hk0
        go_wp2
        go_roundw
        case rel => exact ⟨k + 1, by omega, by simp, HC3.out⟩
        case measure => simp [intOf]; omega
    · have hk3 : ¬ (k : Int) < 3 := by omega
      go_wp2_with fail
      refine (wakes_calls _).mono ?_
      rintro e w9 ⟨rfl, hc9⟩
      go_wp2
      go_ret
      exact ⟨rfl, (HC1.out.no HC.out).no hc9⟩

theorem objectBack_walk (w : World) (Ab : Option Addr) (nb cb : Nat) (xs : List UInt8) (hb : Bytes w (.slice Ab nb cb) xs) (hl : xs.length = nb) (hnb : nb ≤ 140737488351232)
    (Al : Option Addr) (nl cl : Nat) (ys0 : List Ent) (hy : Es w (.slice Al nl cl) ys0) (hyb : ∀ x ∈ ys0, x.1.size ≤ maxLen ∧ x.2.2 < 18446744073709551616) (hnl : nl ≤ maxLen)
    (t : Nat) (A : Option Addr) (n c : Nat) (ps : List Nat) (a : ByteArray) (d : Int) (x : ByteArray) (hs : Sl u64v w (.slice A n c) ps) (hp : ∀ q ∈ ps, q < 18446744073709551616) (ht : t < 18446744073709551616) (hn : n ≤ maxLen) (ha : a.size ≤ maxLen) (hx : x.size ≤ maxLen) (hd1 : -9223372036854775808 ≤ d) (hd2 : d ≤ 9223372036854775807) :
    Calls Try.prog 7 #[.slice Ab nb cb, .slice Al nl cl, .agg #[.int .u64 (t : Int), .slice A n c, .string a, .int .i64 d, .string x]] w fun e w' => e = .returned (.bool true) ∧ Below w.heap.size w w' :=
  (objectBack_core w Ab nb cb xs hb hl hnb Al nl cl ys0 hy hyb t A n c ps a d x hs hp ht hn ha hx hd1 hd2).mono fun _ _ h => ⟨h.1, h.2.below⟩
end Go.Proofs.Ytkmnkbmmgopldaa
