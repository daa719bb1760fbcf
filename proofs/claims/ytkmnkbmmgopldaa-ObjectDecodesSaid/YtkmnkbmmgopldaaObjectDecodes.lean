/-
  Ri, ObjectDecodes in one text.
-/
import Derived.Test.YtkmnkbmmgopldaaAc
import Derived.Test.YtkmnkbmmgopldaaSy
import Derived.Deep.DeepCutAuto
namespace Go.Proofs.Ytkmnkbmmgopldaa
set_option linter.unnecessarySimpa false
open Go.RowKit
set_option linter.unusedVariables false
set_option linter.unusedSimpArgs false
set_option maxRecDepth 100000

theorem dec_tree {xs : List UInt8} {l : List Ent} (h : decF xs = some (.tree l)) : asTree xs = some l := by
  obtain ⟨h1, h2, h3⟩ := dec_sound h
  have h1 : treeB l = xs := h1
  subst h1
  exact asTree_whole l h2 h3
theorem dec_commit {xs : List UInt8} {t : Nat} {ps : List Nat} {a : List UInt8} {d : Int} {x : List UInt8} (h : decF xs = some (.commit t ps a d x)) : asCommit xs = some (t, ps, a, d, x) := by
  obtain ⟨h1, h2, h3⟩ := dec_sound h
  have h1 : commitB t ps a d x = xs := h1
  have h2 : ((commitF t ps a x : Nat) : Int) = 0 := h2
  subst h1
  exact asCommit_whole t ps a d x (by omega) h3
theorem dec_blob {xs : List UInt8} {l : List UInt8} (h : decF xs = some (.blob l)) : xs = 98 :: l ∧ l.length ≤ 4096 := by
  obtain ⟨h1, h2, h3⟩ := dec_sound h
  refine ⟨h1.symm, ?_⟩
  have h2 : (if 4096 < l.length then (3 : Int) else 0) = 0 := h2
  split at h2
  · cases h2
  · omega
theorem right_dec (xs : List UInt8) : (decF xs).isSome = ((asTree xs).isSome || (asCommit xs).isSome || (decide (0 < xs.length) && (decide (xs.getD 0 0 = 98) && decide (xs.length ≤ 4097)))) := by
  cases hd : decF xs with
  | none =>
    have h1 : asTree xs = none := by
      cases h : asTree xs with
      | none => rfl
      | some l =>
        obtain ⟨h1, h2, h3⟩ := asTree_sound h
        have := dec_whole (.tree l) h3 h2
        have e : obB (.tree l) = xs := h1.symm
        rw [e, hd] at this; cases this
    have h2 : asCommit xs = none := by
      cases h : asCommit xs with
      | none => rfl
      | some q =>
        obtain ⟨t, ps, a, d, x⟩ := q
        obtain ⟨h1, h2, h3⟩ := asCommit_sound h
        have := dec_whole (.commit t ps a d x) h3 (by show ((commitF t ps a x : Nat) : Int) = 0; rw [h2]; rfl)
        have e : obB (.commit t ps a d x) = xs := h1.symm
        rw [e, hd] at this; cases this
    rw [h1, h2]
    cases xs with
    | nil => rfl
    | cons u l =>
      by_cases hu : u = 98
      · subst hu
        by_cases hl : (98 :: l : List UInt8).length ≤ 4097
        · have := dec_whole (.blob l) trivial (by show (if 4096 < l.length then (3 : Int) else 0) = 0; rw [if_neg]; simp at hl; omega)
          have e : obB (.blob l) = 98 :: l := rfl
          rw [e, hd] at this; cases this
        · simp only [List.length_cons] at hl
          simp [hl]
      · simp [hu]
  | some o =>
    cases o with
    | blob l =>
      obtain ⟨rfl, h2⟩ := dec_blob hd
      have : (98 :: l : List UInt8).length ≤ 4097 := by simp; omega
      simp; right; omega
    | tree l => rw [dec_tree hd]; rfl
    | commit t ps a d x => rw [dec_commit hd]; cases asTree xs <;> rfl
set_option maxHeartbeats 12800000 in
theorem refright_calls (w : World) (A : Option Addr) (n c : Nat) (xs : List UInt8) (hb : Bytes w (.slice A n c) xs) (hl : xs.length = n) (hn : n ≤ 16384) :
    Calls Try.prog 27 #[.slice A n c] w fun e w' => e = .returned (.bool (decF xs).isSome) ∧ Chg No w w' := by
  have HD := Lib.hid (right_dec xs)
  have HT : Hid (Calls Try.prog 28 #[.slice A n c] w fun e w' => ∃ A' n' c', e = .returned (.tuple #[.slice A' n' c', .bool (asTree xs).isSome]) ∧ Chg No w w') := (astree_ref w A n c xs hb hl hn).mono fun e w' ⟨A', n', c', h1, h2, h3⟩ => ⟨A', n', c', h1, h3⟩
  have HM : Hid (∀ W, Chg No w W → Calls Try.prog 29 #[.slice A n c] W fun e w' => ∃ (T : Nat) (A' : Option Addr) (n' c' : Nat) (a' : ByteArray) (D : Int) (x' : ByteArray), e = .returned (.tuple #[.agg #[.int .u64 (T : Int), .slice A' n' c', .string a', .int .i64 D, .string x'], .bool (asCommit xs).isSome]) ∧ Chg No W w') := fun W hW => (ascommit_ref W A n c xs (hb.no hW) hl hn).mono fun e w' ⟨T, A', n', c', a', D, x', h1, h2, h3⟩ => ⟨T, A', n', c', a', D, x', h1, h3⟩
  generalize (asTree xs).isSome = bt at *
  generalize (asCommit xs).isSome = bc at *
  rw [Hid, hl] at HD
  have HD := Lib.hid HD
  have HB := Lib.hid hb
  have HL := Lib.hid hl
  clear hb hl
  go_enter Try.func27, Try.ntmps27
  go_wp2_with fail
  refine HT.out.mono ?_
  rintro e w1 ⟨A1, n1, c1, rfl, hc1⟩
  have HC1 := Lib.hid hc1
  clear hc1
  go_wp2_with fail
  refine (HM.out w1 HC1.out).mono ?_
  rintro e w2 ⟨T, A2, n2, c2, a2, D, x2, rfl, hc2⟩
  have HC2 := Lib.hid (HC1.out.no hc2)
  have HC3 : Hid (Chg No w (w2.alloc (.cells #[.int .u64 (T : Int), .slice A2 n2 c2, .string a2, .int .i64 D, .string x2] 27))) := HC2.out.alloc _
  clear hc2
  cases bt with
  | true =>
    have HR : Hid ((decF xs).isSome = true) := by rw [Hid, HD.out]; rfl
    go_wp2
    exact bodyPost_ret (v := .bool true) (by simp [results, Try.results27, go_sem]) rfl ⟨by rw [HR.out], HC3.out⟩
  | false =>
    cases bc with
    | true =>
      have HR : Hid ((decF xs).isSome = true) := by rw [Hid, HD.out]; rfl
      go_wp2
      exact bodyPost_ret (v := .bool true) (by simp [results, Try.results27, go_sem]) rfl ⟨by rw [HR.out], HC3.out⟩
    | false =>
      by_cases hn0 : n = 0
      · have HR : Hid ((decF xs).isSome = false) := by rw [Hid, HD.out]; subst hn0; rfl
        have hnb : decide ((0 : Int) < (n : Int)) = false := by rw [decide_eq_false_iff_not]; omega
        go_wp2
        exact bodyPost_ret (v := .bool false) (by simp [results, Try.results27, go_sem]) rfl ⟨by rw [HR.out], HC3.out⟩
      · obtain ⟨b0, o0, rfl, hcell⟩ := HB.out.addr (by rw [HL.out]; omega)
        have hx0 := hcell 0 (by rw [HL.out]; omega)
        rw [Nat.add_zero] at hx0
        have hG0 : xs.getD 0 0 = xs[0]'(by rw [HL.out]; omega) := by simp [List.getD, show 0 < xs.length by rw [HL.out]; omega]
        generalize xs[0]'(by rw [HL.out]; omega) = u at *
        have HG0 := Lib.hid hG0
        have hx1 : (w2.alloc (.cells #[.int .u64 (T : Int), .slice A2 n2 c2, .string a2, .int .i64 D, .string x2] 27)).cell? ⟨b0, o0, none⟩ = some (.int .u8 (u.toNat : Int)) := HC3.out.cell hx0 (fun x => x)
        have hpos : decide ((0 : Int) < (n : Int)) = true := by rw [decide_eq_true_eq]; omega
        have hnn : ¬ (n : Int) ≤ 0 := by omega
        clear hcell hG0 hx0
        have HU : Hid (((u.toNat : Int) == 98) = decide (u = 98)) := by
          rw [Hid, Bool.eq_iff_iff]
          simp only [beq_iff_eq, decide_eq_true_eq]
          constructor
          · intro h; exact UInt8.toNat_inj.1 (by show u.toNat = 98; omega)
          · intro h; subst h; rfl
        have HD2 : Hid ((decF xs).isSome = (((u.toNat : Int) == 98) && decide (n ≤ 4097))) := by
          rw [Hid, HD.out, HG0.out, HU.out]
          simp; omega
        by_cases hu : ((u.toNat : Int) == 98) = true
        · by_cases hm : n ≤ 4097
          · have HR : Hid ((decF xs).isSome = true) := by rw [Hid, HD2.out, hu]; simp [hm]
            have hmb : decide ((n : Int) ≤ 4097) = true := by rw [decide_eq_true_eq]; omega
            clear hn0
            go_wp2
            exact bodyPost_ret (v := .bool true) (by simp [results, Try.results27, go_sem]) rfl ⟨by rw [HR.out], HC3.out⟩
          · have HR : Hid ((decF xs).isSome = false) := by rw [Hid, HD2.out, hu]; simp [hm]
            have hmb : decide ((n : Int) ≤ 4097) = false := by rw [decide_eq_false_iff_not]; omega
            clear hn0
            go_wp2
            exact bodyPost_ret (v := .bool false) (by simp [results, Try.results27, go_sem]) rfl ⟨by rw [HR.out], HC3.out⟩
        · have hu : ((u.toNat : Int) == 98) = false := by simpa using hu
          have HR : Hid ((decF xs).isSome = false) := by rw [Hid, HD2.out, hu]; rfl
          clear hn0
          go_wp2
          exact bodyPost_ret (v := .bool false) (by simp [results, Try.results27, go_sem]) rfl ⟨by rw [HR.out], HC3.out⟩
end Go.Proofs.Ytkmnkbmmgopldaa

namespace Go.Proofs.Ytkmnkbmmgopldaa
open Go.RowKit
set_option linter.unusedVariables false
set_option linter.unusedSimpArgs false
set_option maxRecDepth 100000

theorem Bytes.takeN {w : World} {A : Option Addr} {n c k m : Nat} {xs : List UInt8} (h : Bytes w (.slice A n c) xs) (hl : xs.length = n) (hk : k ≤ n) (hkm : k ≤ m) (hmc : m ≤ c) : Bytes w (.slice A k m) (xs.take k) := by
  subst hl; exact h.take hk hkm hmc
theorem u8s_ints (bs : List UInt8) : u8s bs = (bs.map fun b => ((b.toNat : Nat) : Int)).map (Value.int .u8) := by simp [u8s]

set_option maxHeartbeats 12800000 in
theorem objectDecodes_core (w : World) (A : Option Addr) (n c : Nat) (xs : List UInt8) (hb : Bytes w (.slice A n c) xs) (hl : xs.length = n) :
    Calls Try.prog 6 #[.slice A n c] w fun e w' => e = .returned (.bool true) ∧ Chg No w w' := by
  have hnc : n ≤ c := by
    obtain ⟨A', c', he, h2, -⟩ := hb.form
    simp only [Value.slice.injEq] at he
    omega
  have HB0 := Lib.hid hb
  have HL0 := Lib.hid hl
  clear hb hl
  go_enter Try.func6, Try.ntmps6
  go_wp2_with fail
  refine (wakes_calls w).mono ?_
  rintro e w1 ⟨rfl, hc1⟩
  have HC1 := Lib.hid hc1
  clear hc1
  go_upto_region 4 with fail
  have hN1 : (min (n : Int) 16384).toNat ≤ n := by omega
  have hN : (min (n : Int) 16384).toNat ≤ 16384 := by omega
  generalize (min (n : Int) 16384).toNat = N at *
  have HB : Hid (Bytes w1 (.slice A N c) (xs.take N)) := Bytes.takeN (HB0.out.no HC1.out) HL0.out hN1 (by omega) (Nat.le_refl _)
  have HLN : Hid ((xs.take N).length = N) := by rw [Hid, List.length_take, HL0.out]; omega
  have hc8 : N ≤ c := by omega
  generalize xs.take N = bs at *
  have own0 : Hid (OwnB (w1.alloc (.cells #[] 5)) w1.heap.size (.slice (some ⟨w1.heap.size, 0, none⟩) 0 0) []) := OwnB.lit w1 [] (by unfold maxLen; decide)
  go_wp2_with (at_builtin; (refine wpList_app2 rfl (.tmp 21) (.tmp 22) 38 38 rfl w1.heap.size 5 (.int .u8 0) 1 1 infoU8 Try.underlying38 rfl (by decide) (.slice (some ⟨w1.heap.size, 0, none⟩) 0 0) (.slice A N c) 0 N (u8s []) (u8s bs) rfl rfl ?own ?src ?b1 ?b2 ?b3 ?_; (case own => exact OwnB.n own0.out rfl); (case src => exact Src.ofBytes Try.underlying38 (HB.out.no ((Chg.refl No w1).alloc _)) HLN.out); (case b1 => omega); (case b2 => unfold maxLen; omega); (case b3 => simp); intro v4 w4 hown4 hg4 hfrom4; refine Hid.out ?_))
  refine Lib.hid ?_
  have hO4 : OwnB w4 w1.heap.size v4 bs := OwnB.of hown4 (by simp [u8s])
  have HC4 : Hid (Chg No w1 w4) := ((Chg.refl No w1).alloc _).grown hg4 (fun q hq => .inl (own0.out.block q hq).1)
  obtain ⟨A4, n4, c4, rfl, HL4, HO4⟩ := hO4.form
  have hn4 : n4 = N := by have := HL4.out; have := HLN.out; omega
  subst hn4
  clear hO4 hown4 hg4 hfrom4 own0 HL4
  have hN6 : n4 ≤ 1000000 := by omega
  go_wp2_with fail
  refine (decode_calls w4 A4 n4 c4 bs HO4.out.bytes HLN.out hN6).mono ?_
  rintro e w5 ⟨hD, hc5⟩
  have HC5 := Lib.hid (HC4.out.no hc5)
  have HO5 := Lib.hid (HO4.out.chg hc5 (fun _ _ x => x))
  have HB5 := Lib.hid (HB.out.no HC5.out)
  have HEQ : Hid (Calls Try.prog 22 #[.slice A4 n4 c4, .slice A n4 c] w5 fun e w' => e = .returned (.bool true) ∧ w5 = w') := by
    have := equal_calls w5 A4 n4 c4 bs A n4 c bs HO5.out.bytes HB5.out
    rw [decide_eq_true rfl] at this
    exact this.mono fun _ _ h => ⟨h.1, h.2.symm⟩
  have HID : Hid (Calls Try.prog 25 #[.slice A n4 c] w5 fun e w' => e = .returned (.int .u64 (idF bs : Int)) ∧ w5 = w') := (id_calls w5 A n4 c bs HB5.out HLN.out (by omega)).mono fun _ _ h => ⟨h.1, h.2.symm⟩
  have HRI : Hid (Calls Try.prog 26 #[.slice A n4 c] w5 fun e w' => e = .returned (.int .u64 (idF bs : Int)) ∧ w5 = w') := refid_calls w5 A n4 c bs HB5.out HLN.out (by omega)
  generalize idF bs = idv at *
  have hlt4 : ∀ q, (Value.slice A4 n4 c4).ownBlock = some q → q < w4.heap.size := fun q hq => (HO4.out.block q hq).2
  have HLT4 := Lib.hid hlt4
  clear hlt4
  have HRT : Hid (Calls Try.prog 27 #[.slice A n4 c] w5 fun e w' => e = .returned (.bool (decF bs).isSome) ∧ Chg No w5 w') := refright_calls w5 A n4 c bs HB5.out HLN.out (by omega)
  clear hc5 HO4 HC4
  cases hq : decF bs with
  | none =>
    rw [hq] at hD
    obtain rfl := hD
    have HRT2 : Hid (Calls Try.prog 27 #[.slice A n4 c] w5 fun e w' => e = .returned (.bool false) ∧ Chg No w5 w') := by have := HRT.out; rw [hq] at this; exact this
    clear hq
    go_wp2_with (first | (go_at_call 22; refine HEQ.out.mono ?_; rintro e w' ⟨rfl, rfl⟩) | (go_at_call 25; refine HID.out.mono ?_; rintro e w' ⟨rfl, rfl⟩) | (go_at_call 26; refine HRI.out.mono ?_; rintro e w' ⟨rfl, rfl⟩))
    refine HRT2.out.mono ?_
    rintro e w6 ⟨rfl, hc6⟩
    have HC6 := Lib.hid (HC5.out.no hc6)
    clear hc6
    go_wp2_with fail
    refine (wakes_calls _).mono ?_
    rintro e w7 ⟨rfl, hc7⟩
    go_wp2
    go_ret
    exact ⟨rfl, (HC1.out.no HC6.out).no hc7⟩
  | some ob =>
    rw [hq] at hD
    obtain ⟨v, rfl, hI⟩ := hD
    have HQ := Lib.hid hq
    have HI := Lib.hid hI
    have HRT2 : Hid (Calls Try.prog 27 #[.slice A n4 c] w5 fun e w' => e = .returned (.bool true) ∧ Chg No w5 w') := by have := HRT.out; rw [hq] at this; exact this
    clear hq hI
    go_wp2_with (first | (go_at_call 22; refine HEQ.out.mono ?_; rintro e w' ⟨rfl, rfl⟩) | (go_at_call 25; refine HID.out.mono ?_; rintro e w' ⟨rfl, rfl⟩) | (go_at_call 26; refine HRI.out.mono ?_; rintro e w' ⟨rfl, rfl⟩))
    refine HRT2.out.mono ?_
    rintro e w6 ⟨rfl, hc6⟩
    have HC6 := Lib.hid (HC5.out.no hc6)
    have HI6 := Lib.hid (HI.out.no hc6)
    have HO6 := Lib.hid (HO5.out.chg hc6 (fun _ _ x => x))
    have HB1 := Lib.hid (HB5.out.no hc6)
    have HOZ : Hid (w6.ownsRow w1.heap.size 5 1 (.slice A4 n4 c4) n4 ((bs.map fun b => ((b.toNat : Nat) : Int)).map (Value.int .u8))) := by have := OwnB.n HO6.out HLN.out; rw [u8s_ints] at this; exact this
    have HG6 : Hid (Chg No w6 w6) := Chg.refl _ _
    have hbs : w1.heap.size ≤ w6.heap.size := HC6.out.size
    have HB6 : Hid (∀ q, (Value.slice A4 n4 c4).ownBlock = some q → w1.heap.size ≤ q) := fun q hq => (HO6.out.block q hq).1
    clear hc6 HC5 HI HO5 HB5 HO6 HRT HRT2 HEQ HID HRI
    generalize w4.heap.size = base4 at *
    go_wp2
    go_loopw [54] (fun j wr => ∃ (i : Nat) (zs : List Int), i ≤ n4 ∧ j = .int .i64 (i : Int) ∧ Hid (wr.ownsRow w1.heap.size 5 1 (.slice A4 n4 c4) n4 (zs.map (Value.int .u8))) ∧ Hid (IsOb wr base4 v ob) ∧ Hid (Chg No w1 wr)) (fun j _ => n4 - (intOf j).toNat)
    case atStart => exact ⟨0, _, Nat.zero_le _, rfl, HOZ.out, HI6.out, HC6.out⟩
    case round =>
      obtain ⟨i, zs, hi, rfl, HOj, HIj, HGj⟩ := hrel
      clear HG6
      by_cases hin : i < n4
      · obtain ⟨gr, rfl, hgr, -, hput⟩ := own_put HOj.out (by omega)
        obtain ⟨⟨u, hu, hux⟩, hf, hset⟩ := hput i (by omega)
        obtain ⟨z, hz⟩ : ∃ z, u = .int .u8 z := by
          rw [List.getElem?_map] at hux
          cases hzi : zs[i]? with
          | none => rw [hzi] at hux; cases hux
          | some z => rw [hzi] at hux; exact ⟨z, (Option.some.inj hux).symm⟩
        subst hz
        have hicap : (i : Int) < (n4 : Int) := by omega
        have hgb : gr < base4 := HLT4.out gr rfl
        have HSET : Hid (∀ y : Int, (wr.setCell ⟨gr, i, none⟩ (.int .u8 y)).ownsRow w1.heap.size 5 1 (.slice (some ⟨gr, 0, none⟩) n4 c4) n4 ((zs.set i y).map (Value.int .u8)) ∧ IsOb (wr.setCell ⟨gr, i, none⟩ (.int .u8 y)) base4 v ob ∧ Chg No w1 (wr.setCell ⟨gr, i, none⟩ (.int .u8 y))) := fun y => ⟨by rw [List.map_set]; exact hset _, HIj.out.chg (Chg.put wr gr i _) (fun k hk h => by have h : k = gr := h; omega), HGj.out.setCell (.inl hgr) _⟩
        clear hset hput hux HOZ HI6 HC6 HOj HIj HGj HB1 HB6
        go_wp2
        go_roundw
        case rel => exact ⟨i + 1, _, by omega, by simp, (HSET.out _).1, (HSET.out _).2.1, (HSET.out _).2.2⟩
        case measure => simp [intOf]; omega
      · have hin2 : ¬ (i : Int) < (n4 : Int) := by omega
        have HBr := Lib.hid (HB.out.no HGj.out)
        clear HOj HOZ HI6 HC6 HB1 HB6
        have HGW := Lib.hid (HC1.out.no HGj.out)
        cases ob with
        | blob l =>
          obtain ⟨hbx, hlx⟩ := dec_blob HQ.out
          obtain ⟨s, rfl, hs⟩ := HIj.out
          obtain ⟨As, ns, cs, rfl, HLs, HOs⟩ := hs.form
          have hta := fun W => ta_blob_blob W (.agg #[.slice As ns cs])
          have hpos : 0 < n4 := by have := HLN.out; rw [hbx] at this; simp at this; omega
          have hnl : n4 = ns + 1 := by have := HLN.out; rw [hbx] at this; have := HLs.out; simp at *; omega
          obtain ⟨bA, oA, rfl, hcell⟩ := HBr.out.addr (by rw [HLN.out]; omega)
          have hx0 := hcell 0 (by rw [HLN.out]; omega)
          rw [Nat.add_zero] at hx0
          have hx1 : wr.cell? ⟨bA, oA, none⟩ = some (.int .u8 98) := by rw [hx0]; subst hbx; rfl
          have HX2 : Hid ((wr.alloc (.cells #[.slice As ns cs] 40)).cell? ⟨bA, oA, none⟩ = some (.int .u8 98)) := ((Chg.refl No wr).alloc _).cell hx1 (fun x => x)
          have hdr := (show Bytes wr (.slice (some ⟨bA, oA, none⟩) bs.length c) bs by rw [HLN.out]; exact HBr.out).drop (k := 1) (by rw [HLN.out]; omega)
          have hd1 : bs.drop 1 = l := by subst hbx; rfl
          rw [HLN.out, hd1] at hdr
          have hnpos : (0 : Int) < (n4 : Int) := by omega
          have h1n : (1 : Int) ≤ (n4 : Int) := by omega
          clear hnl
          clear hcell hx0 hx1 hbx hd1 hlx hs
          by_cases hcc : c = 1
          · rw [if_pos hcc] at hdr
            have hn1 : n4 = 1 := by omega
            subst hcc
            subst hn1
            have HE : Hid (∀ W, Chg No wr W → Calls Try.prog 22 #[.slice As ns cs, .slice (some ⟨bA, oA, none⟩) 0 0] W fun e w' => e = .returned (.bool true) ∧ W = w') := by
              intro W hW
              have := equal_calls W As ns cs l (some ⟨bA, oA, none⟩) 0 0 l (HOs.out.bytes.no hW) (hdr.no hW)
              rw [decide_eq_true rfl] at this
              exact this.mono fun _ _ h => ⟨h.1, h.2.symm⟩
            have HR2 : Hid (Chg No wr (wr.alloc (.cells #[.slice As ns cs] 40))) := (Chg.refl No wr).alloc _
            have HG2 : Hid (Chg No w (wr.alloc (.cells #[.slice As ns cs] 40))) := HGW.out.alloc _
            have HQ2 := Lib.hid (heap_alloc_new wr (.cells #[.slice As ns cs] 40))
            clear hdr
            go_upto_region 20 with fail
            generalize wr.alloc (.cells #[.slice As ns cs] 40) = W2 at *
            generalize wr.heap.size = g2 at *
            have hv0 : W2.drew.cell? ⟨g2, 0, none⟩ = some (.slice As ns cs) := cellAt HQ2.out 0 _ rfl
            have hv1 : W2.drew.cell? ⟨bA, oA, none⟩ = some (.int .u8 98) := HX2.out
            refine wp_region_held_drew (S := (fun W => W.cell? ⟨g2, 0, none⟩ = some (.slice As ns cs) ∧ W.cell? ⟨bA, oA, none⟩ = some (.int .u8 98))) (by kernel_rfl) ⟨hv0, hv1⟩ (fun hSw => ?_)
            refine wpAnyH_take (i := 0) (oi := { dst := some 70, op := Go.Op.move (Go.Operand.tmp 0), type := 38, pos := "law.go:198", after := #[], guard := none }) (v := ?_) rfl (by kernel_rfl) (by kernel_rfl) (by kernel_rfl) (fun _ _ _ h => h) (Or.inl ⟨by rfl, ?_⟩) hSw ?_
            rotate_left
            · (intro W hW; obtain ⟨hz0, hz1⟩ := hW; go_simp; try with_reducible rfl)
            try simp only [Act.put, List.setIfInBounds_toArray, List.set_cons_zero, List.set_cons_succ]
            refine wpAnyH_take (i := 1) (oi := { dst := some 71, op := Go.Op.indexAddr 38 (Go.Operand.tmp 70) (Go.Operand.const (Go.Value.int Go.IntKind.i64 0)), type := 0, pos := "law.go:198", after := #[{ on := 0, ground := Go.Ground.data }], guard := none }) (v := ?_) rfl (by kernel_rfl) (by kernel_rfl) (by kernel_rfl) (fun _ _ _ h => h) (Or.inl ⟨by rfl, ?_⟩) hSw ?_
            rotate_left
            · (intro W hW; obtain ⟨hz0, hz1⟩ := hW; go_simp; try with_reducible rfl)
            try simp only [Act.put, List.setIfInBounds_toArray, List.set_cons_zero, List.set_cons_succ]
            refine wpAnyH_take (i := 2) (oi := { dst := some 72, op := Go.Op.load 5 (Go.Operand.tmp 71), type := 5, pos := "law.go:198", after := #[{ on := 1, ground := Go.Ground.data }], guard := none }) (v := ?_) rfl (by kernel_rfl) (by kernel_rfl) (by kernel_rfl) (fun _ _ _ h => h) (Or.inl ⟨by rfl, ?_⟩) hSw ?_
            rotate_left
            · (intro W hW; obtain ⟨hz0, hz1⟩ := hW; go_simp; try with_reducible rfl)
            try simp only [Act.put, List.setIfInBounds_toArray, List.set_cons_zero, List.set_cons_succ]
            refine wpAnyH_take (i := 3) (oi := { dst := some 73, op := Go.Op.binOp Go.BinOp.eql 5 (Go.Operand.tmp 72) (Go.Operand.const (Go.Value.int Go.IntKind.u8 98)) 5, type := 4, pos := "law.go:198", after := #[{ on := 2, ground := Go.Ground.data }], guard := none }) (v := ?_) rfl (by kernel_rfl) (by kernel_rfl) (by kernel_rfl) (fun _ _ _ h => h) (Or.inl ⟨by rfl, ?_⟩) hSw ?_
            rotate_left
            · (intro W hW; obtain ⟨hz0, hz1⟩ := hW; go_simp; try with_reducible rfl)
            try simp only [Act.put, List.setIfInBounds_toArray, List.set_cons_zero, List.set_cons_succ]
            refine wpAnyH_take (i := 4) (oi := { dst := some 74, op := Go.Op.move (Go.Operand.tmp 73), type := 4, pos := "law.go:198", after := #[{ on := 3, ground := Go.Ground.data }], guard := none }) (v := ?_) rfl (by kernel_rfl) (by kernel_rfl) (by kernel_rfl) (fun _ _ _ h => h) (Or.inl ⟨by rfl, ?_⟩) hSw ?_
            rotate_left
            · (intro W hW; obtain ⟨hz0, hz1⟩ := hW; go_simp; try with_reducible rfl)
            try simp only [Act.put, List.setIfInBounds_toArray, List.set_cons_zero, List.set_cons_succ]
            refine wpAnyH_take (i := 5) (oi := { dst := some 75, op := Go.Op.fieldAddr 40 (Go.Operand.tmp 7) 0, type := 0, pos := "law.go:198", after := #[{ on := 4, ground := Go.Ground.guard }], guard := some (4, true) }) (v := ?_) rfl (by kernel_rfl) (by kernel_rfl) (by kernel_rfl) (fun _ _ _ h => h) (Or.inl ⟨by rfl, ?_⟩) hSw ?_
            rotate_left
            · (intro W hW; obtain ⟨hz0, hz1⟩ := hW; go_simp; try with_reducible rfl)
            try simp only [Act.put, List.setIfInBounds_toArray, List.set_cons_zero, List.set_cons_succ]
            refine wpAnyH_take (i := 6) (oi := { dst := some 76, op := Go.Op.load 38 (Go.Operand.tmp 75), type := 38, pos := "law.go:198", after := #[{ on := 5, ground := Go.Ground.data }, { on := 4, ground := Go.Ground.guard }], guard := some (4, true) }) (v := ?_) rfl (by kernel_rfl) (by kernel_rfl) (by kernel_rfl) (fun _ _ _ h => h) (Or.inl ⟨by rfl, ?_⟩) hSw ?_
            rotate_left
            · (intro W hW; obtain ⟨hz0, hz1⟩ := hW; go_simp; try with_reducible rfl)
            try simp only [Act.put, List.setIfInBounds_toArray, List.set_cons_zero, List.set_cons_succ]
            refine wpAnyH_take (i := 7) (oi := { dst := some 77, op := Go.Op.move (Go.Operand.tmp 0), type := 38, pos := "law.go:198", after := #[{ on := 4, ground := Go.Ground.guard }], guard := some (4, true) }) (v := ?_) rfl (by kernel_rfl) (by kernel_rfl) (by kernel_rfl) (fun _ _ _ h => h) (Or.inl ⟨by rfl, ?_⟩) hSw ?_
            rotate_left
            · (intro W hW; obtain ⟨hz0, hz1⟩ := hW; go_simp; try with_reducible rfl)
            try simp only [Act.put, List.setIfInBounds_toArray, List.set_cons_zero, List.set_cons_succ]
            refine wpAnyH_take (i := 8) (oi := { dst := some 78, op := Go.Op.slice 38 (Go.Operand.tmp 77) (some (Go.Operand.const (Go.Value.int Go.IntKind.i64 1))) none none, type := 38, pos := "law.go:198", after := #[{ on := 7, ground := Go.Ground.data }, { on := 4, ground := Go.Ground.guard }], guard := some (4, true) }) (v := ?_) rfl (by kernel_rfl) (by kernel_rfl) (by kernel_rfl) (fun _ _ _ h => h) (Or.inl ⟨by rfl, ?_⟩) hSw ?_
            rotate_left
            · (intro W hW; obtain ⟨hz0, hz1⟩ := hW; go_simp; try with_reducible rfl)
            try simp only [Act.put, List.setIfInBounds_toArray, List.set_cons_zero, List.set_cons_succ]
            refine wpAnyH_ready (rs := [9]) (by kernel_rfl) (by simp) ?_
            refine AllReadyH.cons (o := { dst := some 79, op := Go.Op.call { callee := Go.Callee.value (Go.Operand.func 22), args := #[Go.Operand.tmp 76, Go.Operand.tmp 78], argTypes := #[38, 38] }, type := 4, pos := "law.go:198", after := #[{ on := 6, ground := Go.Ground.data }, { on := 8, ground := Go.Ground.data }, { on := 4, ground := Go.Ground.chain }, { on := 4, ground := Go.Ground.guard }], guard := some (4, true) }) rfl (fun K hK => ?_) AllReadyH.nil
            rw [if_pos (by rfl)]
            go_simp
            refine (HE.out _ HR2.out.drew).mono ?_
            rintro e w7 ⟨rfl, hw7⟩
            subst hw7
            refine hK.out _ _ ⟨hv0, hv1⟩ (fun hSw => ?_)
            clear hK
            try simp only [Act.put, List.setIfInBounds_toArray, List.set_cons_zero, List.set_cons_succ]
            refine wpAnyH_take (i := 10) (oi := { dst := some 80, op := Go.Op.pick (Go.Operand.tmp 74) (Go.Operand.tmp 79) (Go.Operand.const (Go.Value.bool false)), type := 4, pos := "law.go:198", after := #[{ on := 4, ground := Go.Ground.data }, { on := 9, ground := Go.Ground.data }], guard := none }) (v := ?_) rfl (by kernel_rfl) (by kernel_rfl) (by kernel_rfl) (fun _ _ _ h => h) (Or.inl ⟨by rfl, ?_⟩) hSw ?_
            rotate_left
            · (intro W hW; obtain ⟨hz0, hz1⟩ := hW; go_simp; try with_reducible rfl)
            try simp only [Act.put, List.setIfInBounds_toArray, List.set_cons_zero, List.set_cons_succ]
            refine wpAnyH_take (i := 11) (oi := { dst := some 81, op := Go.Op.move (Go.Operand.tmp 80), type := 4, pos := "law.go:198", after := #[{ on := 10, ground := Go.Ground.data }, { on := 9, ground := Go.Ground.chain }], guard := none }) (v := ?_) rfl (by kernel_rfl) (by kernel_rfl) (by kernel_rfl) (fun _ _ _ h => h) (Or.inl ⟨by rfl, ?_⟩) hSw ?_
            rotate_left
            · (intro W hW; obtain ⟨hz0, hz1⟩ := hW; go_simp; try with_reducible rfl)
            try simp only [Act.put, List.setIfInBounds_toArray, List.set_cons_zero, List.set_cons_succ]
            refine wpAnyH_ready (rs := [12]) (by kernel_rfl) (by simp) ?_
            refine AllReadyH.cons (o := { dst := some 82, op := Go.Op.call { callee := Go.Callee.value (Go.Operand.func 13), args := #[], argTypes := #[] }, type := 4, pos := "law.go:198", after := #[{ on := 11, ground := Go.Ground.chain }, { on := 11, ground := Go.Ground.guard }], guard := some (11, true) }) rfl (fun K hK => ?_) AllReadyH.nil
            rw [if_pos (by rfl)]
            go_simp
            refine (wakes_calls _).mono ?_
            rintro e w8 ⟨rfl, hc8⟩
            have HG8 := Lib.hid (HG2.out.drew.no hc8)
            have hy0 := hc8.cell hv0 (fun x => x)
            have hy1 := hc8.cell hv1 (fun x => x)
            clear hc8
            refine hK.out _ _ ⟨hy0, hy1⟩ (fun hSw => ?_)
            clear hK
            try simp only [Act.put, List.setIfInBounds_toArray, List.set_cons_zero, List.set_cons_succ]
            refine wpAnyH_take (i := 13) (oi := { dst := some 83, op := Go.Op.pick (Go.Operand.tmp 81) (Go.Operand.tmp 82) (Go.Operand.const (Go.Value.bool false)), type := 4, pos := "law.go:198", after := #[{ on := 11, ground := Go.Ground.data }, { on := 12, ground := Go.Ground.data }], guard := none }) (v := ?_) rfl (by kernel_rfl) (by kernel_rfl) (by kernel_rfl) (fun _ _ _ h => h) (Or.inl ⟨by rfl, ?_⟩) hSw ?_
            rotate_left
            · (intro W hW; obtain ⟨hz0, hz1⟩ := hW; go_simp; try with_reducible rfl)
            try simp only [Act.put, List.setIfInBounds_toArray, List.set_cons_zero, List.set_cons_succ]
            refine wpAnyH_take (i := 14) (oi := { dst := some 2, op := Go.Op.assign (Go.Operand.tmp 83), type := 4, pos := "law.go:198", after := #[{ on := 13, ground := Go.Ground.data }, { on := 12, ground := Go.Ground.chain }, { on := 0, ground := Go.Ground.phase }, { on := 1, ground := Go.Ground.phase }, { on := 2, ground := Go.Ground.phase }, { on := 3, ground := Go.Ground.phase }, { on := 4, ground := Go.Ground.phase }, { on := 5, ground := Go.Ground.phase }, { on := 6, ground := Go.Ground.phase }, { on := 7, ground := Go.Ground.phase }, { on := 8, ground := Go.Ground.phase }, { on := 9, ground := Go.Ground.phase }, { on := 10, ground := Go.Ground.phase }, { on := 11, ground := Go.Ground.phase }, { on := 12, ground := Go.Ground.phase }, { on := 13, ground := Go.Ground.phase }], guard := none }) (v := ?_) rfl (by kernel_rfl) (by kernel_rfl) (by kernel_rfl) (fun _ _ _ h => h) (Or.inl ⟨by rfl, ?_⟩) hSw ?_
            rotate_left
            · (intro W hW; obtain ⟨hz0, hz1⟩ := hW; go_simp; try with_reducible rfl)
            try simp only [Act.put, List.setIfInBounds_toArray, List.set_cons_zero, List.set_cons_succ]
            refine wpAnyH_done (by kernel_rfl) ?_ _
            go_wp2
            go_ret
            exact ⟨rfl, HG8.out⟩
          · rw [if_neg hcc] at hdr
            have HE : Hid (∀ W, Chg No wr W → Calls Try.prog 22 #[.slice As ns cs, .slice (some ⟨bA, oA + 1, none⟩) (n4 - 1) (c - 1)] W fun e w' => e = .returned (.bool true) ∧ W = w') := by
              intro W hW
              have := equal_calls W As ns cs l (some ⟨bA, oA + 1, none⟩) (n4 - 1) (c - 1) l (HOs.out.bytes.no hW) (hdr.no hW)
              rw [decide_eq_true rfl] at this
              exact this.mono fun _ _ h => ⟨h.1, h.2.symm⟩
            have HR2 : Hid (Chg No wr (wr.alloc (.cells #[.slice As ns cs] 40))) := (Chg.refl No wr).alloc _
            have HG2 : Hid (Chg No w (wr.alloc (.cells #[.slice As ns cs] 40))) := HGW.out.alloc _
            have HQ2 := Lib.hid (heap_alloc_new wr (.cells #[.slice As ns cs] 40))
            clear hdr
            go_upto_region 20 with fail
            generalize wr.alloc (.cells #[.slice As ns cs] 40) = W2 at *
            generalize wr.heap.size = g2 at *
            have hv0 : W2.drew.cell? ⟨g2, 0, none⟩ = some (.slice As ns cs) := cellAt HQ2.out 0 _ rfl
            have hv1 : W2.drew.cell? ⟨bA, oA, none⟩ = some (.int .u8 98) := HX2.out
            refine wp_region_held_drew (S := (fun W => W.cell? ⟨g2, 0, none⟩ = some (.slice As ns cs) ∧ W.cell? ⟨bA, oA, none⟩ = some (.int .u8 98))) (by kernel_rfl) ⟨hv0, hv1⟩ (fun hSw => ?_)
            refine wpAnyH_take (i := 0) (oi := { dst := some 70, op := Go.Op.move (Go.Operand.tmp 0), type := 38, pos := "law.go:198", after := #[], guard := none }) (v := ?_) rfl (by kernel_rfl) (by kernel_rfl) (by kernel_rfl) (fun _ _ _ h => h) (Or.inl ⟨by rfl, ?_⟩) hSw ?_
            rotate_left
            · (intro W hW; obtain ⟨hz0, hz1⟩ := hW; go_simp; try with_reducible rfl)
            try simp only [Act.put, List.setIfInBounds_toArray, List.set_cons_zero, List.set_cons_succ]
            refine wpAnyH_take (i := 1) (oi := { dst := some 71, op := Go.Op.indexAddr 38 (Go.Operand.tmp 70) (Go.Operand.const (Go.Value.int Go.IntKind.i64 0)), type := 0, pos := "law.go:198", after := #[{ on := 0, ground := Go.Ground.data }], guard := none }) (v := ?_) rfl (by kernel_rfl) (by kernel_rfl) (by kernel_rfl) (fun _ _ _ h => h) (Or.inl ⟨by rfl, ?_⟩) hSw ?_
            rotate_left
            · (intro W hW; obtain ⟨hz0, hz1⟩ := hW; go_simp; try with_reducible rfl)
            try simp only [Act.put, List.setIfInBounds_toArray, List.set_cons_zero, List.set_cons_succ]
            refine wpAnyH_take (i := 2) (oi := { dst := some 72, op := Go.Op.load 5 (Go.Operand.tmp 71), type := 5, pos := "law.go:198", after := #[{ on := 1, ground := Go.Ground.data }], guard := none }) (v := ?_) rfl (by kernel_rfl) (by kernel_rfl) (by kernel_rfl) (fun _ _ _ h => h) (Or.inl ⟨by rfl, ?_⟩) hSw ?_
            rotate_left
            · (intro W hW; obtain ⟨hz0, hz1⟩ := hW; go_simp; try with_reducible rfl)
            try simp only [Act.put, List.setIfInBounds_toArray, List.set_cons_zero, List.set_cons_succ]
            refine wpAnyH_take (i := 3) (oi := { dst := some 73, op := Go.Op.binOp Go.BinOp.eql 5 (Go.Operand.tmp 72) (Go.Operand.const (Go.Value.int Go.IntKind.u8 98)) 5, type := 4, pos := "law.go:198", after := #[{ on := 2, ground := Go.Ground.data }], guard := none }) (v := ?_) rfl (by kernel_rfl) (by kernel_rfl) (by kernel_rfl) (fun _ _ _ h => h) (Or.inl ⟨by rfl, ?_⟩) hSw ?_
            rotate_left
            · (intro W hW; obtain ⟨hz0, hz1⟩ := hW; go_simp; try with_reducible rfl)
            try simp only [Act.put, List.setIfInBounds_toArray, List.set_cons_zero, List.set_cons_succ]
            refine wpAnyH_take (i := 4) (oi := { dst := some 74, op := Go.Op.move (Go.Operand.tmp 73), type := 4, pos := "law.go:198", after := #[{ on := 3, ground := Go.Ground.data }], guard := none }) (v := ?_) rfl (by kernel_rfl) (by kernel_rfl) (by kernel_rfl) (fun _ _ _ h => h) (Or.inl ⟨by rfl, ?_⟩) hSw ?_
            rotate_left
            · (intro W hW; obtain ⟨hz0, hz1⟩ := hW; go_simp; try with_reducible rfl)
            try simp only [Act.put, List.setIfInBounds_toArray, List.set_cons_zero, List.set_cons_succ]
            refine wpAnyH_take (i := 5) (oi := { dst := some 75, op := Go.Op.fieldAddr 40 (Go.Operand.tmp 7) 0, type := 0, pos := "law.go:198", after := #[{ on := 4, ground := Go.Ground.guard }], guard := some (4, true) }) (v := ?_) rfl (by kernel_rfl) (by kernel_rfl) (by kernel_rfl) (fun _ _ _ h => h) (Or.inl ⟨by rfl, ?_⟩) hSw ?_
            rotate_left
            · (intro W hW; obtain ⟨hz0, hz1⟩ := hW; go_simp; try with_reducible rfl)
            try simp only [Act.put, List.setIfInBounds_toArray, List.set_cons_zero, List.set_cons_succ]
            refine wpAnyH_take (i := 6) (oi := { dst := some 76, op := Go.Op.load 38 (Go.Operand.tmp 75), type := 38, pos := "law.go:198", after := #[{ on := 5, ground := Go.Ground.data }, { on := 4, ground := Go.Ground.guard }], guard := some (4, true) }) (v := ?_) rfl (by kernel_rfl) (by kernel_rfl) (by kernel_rfl) (fun _ _ _ h => h) (Or.inl ⟨by rfl, ?_⟩) hSw ?_
            rotate_left
            · (intro W hW; obtain ⟨hz0, hz1⟩ := hW; go_simp; try with_reducible rfl)
            try simp only [Act.put, List.setIfInBounds_toArray, List.set_cons_zero, List.set_cons_succ]
            refine wpAnyH_take (i := 7) (oi := { dst := some 77, op := Go.Op.move (Go.Operand.tmp 0), type := 38, pos := "law.go:198", after := #[{ on := 4, ground := Go.Ground.guard }], guard := some (4, true) }) (v := ?_) rfl (by kernel_rfl) (by kernel_rfl) (by kernel_rfl) (fun _ _ _ h => h) (Or.inl ⟨by rfl, ?_⟩) hSw ?_
            rotate_left
            · (intro W hW; obtain ⟨hz0, hz1⟩ := hW; go_simp; try with_reducible rfl)
            try simp only [Act.put, List.setIfInBounds_toArray, List.set_cons_zero, List.set_cons_succ]
            refine wpAnyH_take (i := 8) (oi := { dst := some 78, op := Go.Op.slice 38 (Go.Operand.tmp 77) (some (Go.Operand.const (Go.Value.int Go.IntKind.i64 1))) none none, type := 38, pos := "law.go:198", after := #[{ on := 7, ground := Go.Ground.data }, { on := 4, ground := Go.Ground.guard }], guard := some (4, true) }) (v := ?_) rfl (by kernel_rfl) (by kernel_rfl) (by kernel_rfl) (fun _ _ _ h => h) (Or.inl ⟨by rfl, ?_⟩) hSw ?_
            rotate_left
            · (intro W hW; obtain ⟨hz0, hz1⟩ := hW; go_simp; try with_reducible rfl)
            try simp only [Act.put, List.setIfInBounds_toArray, List.set_cons_zero, List.set_cons_succ]
            refine wpAnyH_ready (rs := [9]) (by kernel_rfl) (by simp) ?_
            refine AllReadyH.cons (o := { dst := some 79, op := Go.Op.call { callee := Go.Callee.value (Go.Operand.func 22), args := #[Go.Operand.tmp 76, Go.Operand.tmp 78], argTypes := #[38, 38] }, type := 4, pos := "law.go:198", after := #[{ on := 6, ground := Go.Ground.data }, { on := 8, ground := Go.Ground.data }, { on := 4, ground := Go.Ground.chain }, { on := 4, ground := Go.Ground.guard }], guard := some (4, true) }) rfl (fun K hK => ?_) AllReadyH.nil
            rw [if_pos (by rfl)]
            go_simp
            refine (HE.out _ HR2.out.drew).mono ?_
            rintro e w7 ⟨rfl, hw7⟩
            subst hw7
            refine hK.out _ _ ⟨hv0, hv1⟩ (fun hSw => ?_)
            clear hK
            try simp only [Act.put, List.setIfInBounds_toArray, List.set_cons_zero, List.set_cons_succ]
            refine wpAnyH_take (i := 10) (oi := { dst := some 80, op := Go.Op.pick (Go.Operand.tmp 74) (Go.Operand.tmp 79) (Go.Operand.const (Go.Value.bool false)), type := 4, pos := "law.go:198", after := #[{ on := 4, ground := Go.Ground.data }, { on := 9, ground := Go.Ground.data }], guard := none }) (v := ?_) rfl (by kernel_rfl) (by kernel_rfl) (by kernel_rfl) (fun _ _ _ h => h) (Or.inl ⟨by rfl, ?_⟩) hSw ?_
            rotate_left
            · (intro W hW; obtain ⟨hz0, hz1⟩ := hW; go_simp; try with_reducible rfl)
            try simp only [Act.put, List.setIfInBounds_toArray, List.set_cons_zero, List.set_cons_succ]
            refine wpAnyH_take (i := 11) (oi := { dst := some 81, op := Go.Op.move (Go.Operand.tmp 80), type := 4, pos := "law.go:198", after := #[{ on := 10, ground := Go.Ground.data }, { on := 9, ground := Go.Ground.chain }], guard := none }) (v := ?_) rfl (by kernel_rfl) (by kernel_rfl) (by kernel_rfl) (fun _ _ _ h => h) (Or.inl ⟨by rfl, ?_⟩) hSw ?_
            rotate_left
            · (intro W hW; obtain ⟨hz0, hz1⟩ := hW; go_simp; try with_reducible rfl)
            try simp only [Act.put, List.setIfInBounds_toArray, List.set_cons_zero, List.set_cons_succ]
            refine wpAnyH_ready (rs := [12]) (by kernel_rfl) (by simp) ?_
            refine AllReadyH.cons (o := { dst := some 82, op := Go.Op.call { callee := Go.Callee.value (Go.Operand.func 13), args := #[], argTypes := #[] }, type := 4, pos := "law.go:198", after := #[{ on := 11, ground := Go.Ground.chain }, { on := 11, ground := Go.Ground.guard }], guard := some (11, true) }) rfl (fun K hK => ?_) AllReadyH.nil
            rw [if_pos (by rfl)]
            go_simp
            refine (wakes_calls _).mono ?_
            rintro e w8 ⟨rfl, hc8⟩
            have HG8 := Lib.hid (HG2.out.drew.no hc8)
            have hy0 := hc8.cell hv0 (fun x => x)
            have hy1 := hc8.cell hv1 (fun x => x)
            clear hc8
            refine hK.out _ _ ⟨hy0, hy1⟩ (fun hSw => ?_)
            clear hK
            try simp only [Act.put, List.setIfInBounds_toArray, List.set_cons_zero, List.set_cons_succ]
            refine wpAnyH_take (i := 13) (oi := { dst := some 83, op := Go.Op.pick (Go.Operand.tmp 81) (Go.Operand.tmp 82) (Go.Operand.const (Go.Value.bool false)), type := 4, pos := "law.go:198", after := #[{ on := 11, ground := Go.Ground.data }, { on := 12, ground := Go.Ground.data }], guard := none }) (v := ?_) rfl (by kernel_rfl) (by kernel_rfl) (by kernel_rfl) (fun _ _ _ h => h) (Or.inl ⟨by rfl, ?_⟩) hSw ?_
            rotate_left
            · (intro W hW; obtain ⟨hz0, hz1⟩ := hW; go_simp; try with_reducible rfl)
            try simp only [Act.put, List.setIfInBounds_toArray, List.set_cons_zero, List.set_cons_succ]
            refine wpAnyH_take (i := 14) (oi := { dst := some 2, op := Go.Op.assign (Go.Operand.tmp 83), type := 4, pos := "law.go:198", after := #[{ on := 13, ground := Go.Ground.data }, { on := 12, ground := Go.Ground.chain }, { on := 0, ground := Go.Ground.phase }, { on := 1, ground := Go.Ground.phase }, { on := 2, ground := Go.Ground.phase }, { on := 3, ground := Go.Ground.phase }, { on := 4, ground := Go.Ground.phase }, { on := 5, ground := Go.Ground.phase }, { on := 6, ground := Go.Ground.phase }, { on := 7, ground := Go.Ground.phase }, { on := 8, ground := Go.Ground.phase }, { on := 9, ground := Go.Ground.phase }, { on := 10, ground := Go.Ground.phase }, { on := 11, ground := Go.Ground.phase }, { on := 12, ground := Go.Ground.phase }, { on := 13, ground := Go.Ground.phase }], guard := none }) (v := ?_) rfl (by kernel_rfl) (by kernel_rfl) (by kernel_rfl) (fun _ _ _ h => h) (Or.inl ⟨by rfl, ?_⟩) hSw ?_
            rotate_left
            · (intro W hW; obtain ⟨hz0, hz1⟩ := hW; go_simp; try with_reducible rfl)
            try simp only [Act.put, List.setIfInBounds_toArray, List.set_cons_zero, List.set_cons_succ]
            refine wpAnyH_done (by kernel_rfl) ?_ _
            go_wp2
            go_ret
            exact ⟨rfl, HG8.out⟩
        | tree l =>
          have HT := Lib.hid (dec_tree HQ.out)
          obtain ⟨s, rfl, hs⟩ := HIj.out
          obtain ⟨As, cs, rfl⟩ := ownsRow_form hs
          have HES := Lib.hid (esOwn2 hs)
          have hlx : l.length ≤ 9223372036854775807 := by have := (treeF_zero (asTree_sound HT.out).2.1).1; omega
          clear hs
          generalize hll : l.length = ns at *
          have hta := fun W => ta_tree_blob W (.agg #[.slice As ns cs])
          have htb := fun W => ta_tree_tree W (.agg #[.slice As ns cs])
          have HR2 : Hid (Chg No wr (wr.alloc (.cells #[.slice As ns cs] 33))) := (Chg.refl No wr).alloc _
          have HQ2 := Lib.hid (heap_alloc_new wr (.cells #[.slice As ns cs] 33))
          have HAT := Lib.hid (astree_ref (wr.alloc (.cells #[.slice As ns cs] 33)) A n4 c bs (HBr.out.no HR2.out) HLN.out hN)
          go_wp2_with fail
          refine HAT.out.mono ?_
          rintro e w7 ⟨A7, n7, c7, rfl, h7, hc7⟩
          have HE7 := Lib.hid (h7 l HT.out)
          have hsome : (asTree bs).isSome = true := by rw [HT.out]; rfl
          have HC7 := Lib.hid (HR2.out.no hc7)
          have HQ7 := Lib.hid (hc7.heap HQ2.out (fun x => x))
          have HEC : Hid (Calls Try.prog 16 #[.slice As ns cs, .slice A7 n7 c7] w7 fun e w' => e = .returned (.bool true) ∧ Chg No w7 w') := by
            have := ents_calls w7 As ns cs l A7 n7 c7 l (HES.out.no HC7.out) HE7.out hlx
            rw [decide_eq_true rfl] at this
            exact this
          rw [hsome]
          clear hc7 h7 hll hsome HQ2 HR2 HAT
          generalize wr.heap.size = g2 at *
          have k0 := cellAt HQ7.out 0 _ rfl
          go_wp2_with fail
          refine HEC.out.mono ?_
          rintro e w8 ⟨rfl, hc8⟩
          have HG8 := Lib.hid ((HGW.out.no HC7.out).no hc8)
          clear hc8
          go_wp2_with fail
          refine (wakes_calls _).mono ?_
          rintro e w9 ⟨rfl, hc9⟩
          go_wp2
          go_ret
          exact ⟨rfl, HG8.out.no hc9⟩
        | commit t ps a d x =>
          have HT := Lib.hid (dec_commit HQ.out)
          obtain ⟨s, rfl, hs⟩ := HIj.out
          obtain ⟨As, cs, rfl⟩ := ownsRow_form hs
          have HES := Lib.hid (slOwn2 hs)
          have hlx : ps.length ≤ 9223372036854775807 := by have := (commitF_zero (asCommit_sound HT.out).2.1).2.1; omega
          clear hs
          generalize hll : ps.length = ns at *
          have hta := fun W => ta_commit_blob W (.agg #[.int .u64 (t : Int), .slice As ns cs, .string (mkS a), .int .i64 d, .string (mkS x)])
          have htb := fun W => ta_commit_tree W (.agg #[.int .u64 (t : Int), .slice As ns cs, .string (mkS a), .int .i64 d, .string (mkS x)])
          have htc := fun W => ta_commit_commit W (.agg #[.int .u64 (t : Int), .slice As ns cs, .string (mkS a), .int .i64 d, .string (mkS x)])
          have HR2 : Hid (Chg No wr (wr.alloc (.cells #[.int .u64 (t : Int), .slice As ns cs, .string (mkS a), .int .i64 d, .string (mkS x)] 27))) := (Chg.refl No wr).alloc _
          have HQ2 := Lib.hid (heap_alloc_new wr (.cells #[.int .u64 (t : Int), .slice As ns cs, .string (mkS a), .int .i64 d, .string (mkS x)] 27))
          have HAT := Lib.hid (ascommit_ref (wr.alloc (.cells #[.int .u64 (t : Int), .slice As ns cs, .string (mkS a), .int .i64 d, .string (mkS x)] 27)) A n4 c bs (HBr.out.no HR2.out) HLN.out hN)
          go_wp2_with fail
          refine HAT.out.mono ?_
          rintro e w7 ⟨T7, A7, n7, c7, a7, D7, x7, rfl, h7, hc7⟩
          obtain ⟨rfl, rfl, rfl, rfl, h8⟩ := h7 t ps a d x HT.out
          have HE7 := Lib.hid h8
          have hsome : (asCommit bs).isSome = true := by rw [HT.out]; rfl
          have HC7' := Lib.hid (HR2.out.no hc7)
          have HQ7' := Lib.hid (hc7.heap HQ2.out (fun x => x))
          have HC7 : Hid (Chg No wr (w7.alloc (.cells #[.int .u64 (T7 : Int), .slice A7 n7 c7, .string (mkS a), .int .i64 D7, .string (mkS x)] 27))) := HC7'.out.alloc _
          have HQ7 := Lib.hid (((Chg.refl No w7).alloc (.cells #[.int .u64 (T7 : Int), .slice A7 n7 c7, .string (mkS a), .int .i64 D7, .string (mkS x)] 27)).heap HQ7'.out (fun x => x))
          have HX7 := Lib.hid (heap_alloc_new w7 (.cells #[.int .u64 (T7 : Int), .slice A7 n7 c7, .string (mkS a), .int .i64 D7, .string (mkS x)] 27))
          have HEC : Hid (Calls Try.prog 18 #[.agg #[.int .u64 (T7 : Int), .slice As ns cs, .string (mkS a), .int .i64 D7, .string (mkS x)], .agg #[.int .u64 (T7 : Int), .slice A7 n7 c7, .string (mkS a), .int .i64 D7, .string (mkS x)]] (w7.alloc (.cells #[.int .u64 (T7 : Int), .slice A7 n7 c7, .string (mkS a), .int .i64 D7, .string (mkS x)] 27)) fun e w' => e = .returned (.bool true) ∧ Chg No (w7.alloc (.cells #[.int .u64 (T7 : Int), .slice A7 n7 c7, .string (mkS a), .int .i64 D7, .string (mkS x)] 27)) w') := by
            have := commits_calls (w7.alloc (.cells #[.int .u64 (T7 : Int), .slice A7 n7 c7, .string (mkS a), .int .i64 D7, .string (mkS x)] 27)) T7 As ns cs ps (mkS a) D7 (mkS x) T7 A7 n7 c7 ps (mkS a) D7 (mkS x) (HES.out.no HC7.out) (HE7.out.no ((Chg.refl No w7).alloc _)) hlx
            rw [decide_eq_true ⟨rfl, rfl, rfl, rfl, rfl⟩] at this
            exact this
          rw [hsome]
          clear hc7 h7 h8 hll hsome HQ2 HR2 HAT HC7' HQ7'
          generalize wr.heap.size = g2 at *
          obtain ⟨k0, k1, k2, k3, k4⟩ := cells5b HQ7.out
          go_upto_region 28 with fail
          obtain ⟨y0, y1, y2, y3, y4⟩ := cells5b HX7.out
          generalize w7.alloc (.cells #[.int .u64 (T7 : Int), .slice A7 n7 c7, .string (mkS a), .int .i64 D7, .string (mkS x)] 27) = w10 at *
          generalize w7.heap.size = g7 at *
          go_wp2_with fail
          refine HEC.out.mono ?_
          rintro e w8 ⟨rfl, hc8⟩
          have HG8 := Lib.hid ((HGW.out.no HC7.out).no hc8)
          clear hc8
          go_wp2_with fail
          refine (wakes_calls _).mono ?_
          rintro e w9 ⟨rfl, hc9⟩
          go_wp2
          go_ret
          exact ⟨rfl, HG8.out.no hc9⟩

theorem objectDecodes_walk (w : World) (A : Option Addr) (n c : Nat) (xs : List UInt8) (hb : Bytes w (.slice A n c) xs) (hl : xs.length = n) (hn : n ≤ 140737488351232) :
    Calls Try.prog 6 #[.slice A n c] w fun e w' => e = .returned (.bool true) ∧ Below w.heap.size w w' :=
  (objectDecodes_core w A n c xs hb hl).mono fun _ _ h => ⟨h.1, h.2.below⟩
end Go.Proofs.Ytkmnkbmmgopldaa

