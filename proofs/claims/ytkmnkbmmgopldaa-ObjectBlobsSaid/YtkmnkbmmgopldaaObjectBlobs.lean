/-
  The reference's Blob; the walk of ObjectBlobs.
-/
import Derived.Test.YtkmnkbmmgopldaaSy
import Derived.Deep.DeepCutAuto
import Derived.Laws.MakeOwn
namespace Go.Proofs.Ytkmnkbmmgopldaa
open Go.RowKit
set_option linter.unusedVariables false
set_option linter.unusedSimpArgs false
set_option maxRecDepth 100000

theorem u8s_ints (bs : List UInt8) : u8s bs = (bs.map fun b => ((b.toNat : Nat) : Int)).map (Value.int .u8) := by simp [u8s]
theorem Bytes.takeN {w : World} {A : Option Addr} {n c k m : Nat} {xs : List UInt8} (h : Bytes w (.slice A n c) xs) (hl : xs.length = n) (hk : k ≤ n) (hkm : k ≤ m) (hmc : m ≤ c) : Bytes w (.slice A k m) (xs.take k) := by
  subst hl; exact h.take hk hkm hmc
def blobNo (n : Nat) : Int := if 4096 < n then 3 else 0
def blobW (n : Nat) (xs : List UInt8) : List UInt8 := if 4096 < n then [] else 98 :: xs
theorem refcheck_blob (w : World) (A : Option Addr) (n c : Nat) : Calls Try.prog 65 #[.slice A n c] w fun e w' => e = .returned (.int .i64 (blobNo n)) ∧ w = w' := by
  unfold blobNo
  by_cases h : 4096 < n
  · have h2 : (4096 : Int) < (n : Int) := by omega
    rw [if_pos h]
    go_enter Try.func65, Try.ntmps65
    go_wp2
    go_ret
    exact ⟨rfl, rfl⟩
  · have h2 : ¬ (4096 : Int) < (n : Int) := by omega
    rw [if_neg h]
    go_enter Try.func65, Try.ntmps65
    go_wp2
    go_ret
    exact ⟨rfl, rfl⟩
theorem refblob_calls (w : World) (A : Option Addr) (n c : Nat) (xs : List UInt8) (hb : Bytes w (.slice A n c) xs) (hl : xs.length = n) (hn : n ≤ 1000000) :
    Calls Try.prog 31 #[.slice A n c] w fun e w' => ∃ A' n' c', e = .returned (.tuple #[.slice A' n' c', .int .i64 (blobNo n)]) ∧ Bytes w' (.slice A' n' c') (blobW n xs) ∧ (blobW n xs).length = n' ∧ Chg No w w' := by
  have HB := Lib.hid hb
  have HL := Lib.hid hl
  clear hb hl
  have hck := refcheck_blob w A n c
  by_cases h : 4096 < n
  · rw [blobNo, if_pos h] at hck
    rw [blobNo, if_pos h, blobW, if_pos h]
    have HCK := Lib.hid hck
    clear hck
    go_enter Try.func31, Try.ntmps31
    go_wp2_with fail
    refine HCK.out.mono ?_
    rintro e w' ⟨rfl, rfl⟩
    go_wp2
    go_ret2
    exact ⟨none, 0, 0, rfl, Holds.nil w, rfl, Chg.refl _ _⟩
  · rw [blobNo, if_neg h] at hck
    rw [blobNo, if_neg h, blobW, if_neg h]
    have HCK := Lib.hid hck
    clear hck
    go_enter Try.func31, Try.ntmps31
    go_wp2_with fail
    refine HCK.out.mono ?_
    rintro e w' ⟨rfl, rfl⟩
    have own8 : Hid (OwnB (w.alloc (.cells (u8s [98]).toArray 5)) w.heap.size (.slice (some ⟨w.heap.size, 0, none⟩) 1 1) [98]) := OwnB.lit w [98] (by unfold maxLen; decide)
    have src8 : Hid (Src Try.prog 1 38 (.slice A n c) n (u8s xs) (w.alloc (.cells (u8s [98]).toArray 5))) := Src.ofBytes Try.underlying38 (HB.out.no ((Chg.refl No w).alloc _)) HL.out
    go_wp2_with (at_builtin; (refine wpList_app2 rfl (.tmp 10) (.tmp 11) 38 38 rfl w.heap.size 5 (.int .u8 0) 1 1 infoU8 Try.underlying38 rfl (by decide) (.slice (some ⟨w.heap.size, 0, none⟩) 1 1) (.slice A n c) 1 n (u8s [98]) (u8s xs) rfl rfl ?own ?src ?b1 ?b2 ?b3 ?_; (case own => exact own8.out); (case src => exact src8.out); (case b1 => omega); (case b2 => unfold maxLen; omega); (case b3 => simp); intro v8 w8 hown8 hg8 hfrom8; refine Hid.out ?_))
    refine Lib.hid ?_
    have hO := OwnB.of (xs := 98 :: xs) hown8 (by simp [u8s])
    obtain ⟨A4, n4, c4, rfl, HL4, HO4⟩ := hO.form
    have HC : Hid (Chg No w w8) := ((Chg.refl No w).alloc _).grown hg8 (fun q hq => by simp [Value.ownBlock] at hq; omega)
    clear hO hown8 hg8 hfrom8 own8 src8
    go_wp2
    go_ret2
    exact ⟨_, _, _, rfl, HO4.out.bytes, HL4.out, HC.out⟩
theorem says_blob (w : World) (A : Option Addr) (n c : Nat) (xs : List UInt8) (hb : Bytes w (.slice A n c) xs) (hl : xs.length = n) (hn : n ≤ 1000000) (W : World) (hW : Chg No w W) (A' : Option Addr) (n' c' : Nat) (hw : Bytes W (.slice A' n' c') (blobW n xs)) (hwl : (blobW n xs).length = n') :
    Calls Try.prog 32 #[blobV (.slice A n c), .int .i64 1, .slice A' n' c', .int .i64 (blobNo n), .slice none 0 0] W fun e w' => e = .returned (.bool true) ∧ Chg No W w' := by
  have he := (encodes_blob w A n c xs hb hl).no hW
  have hkd : ∀ V, Calls Try.prog 23 #[blobV (.slice A n c)] V fun e w' => e = .returned (.int .i64 ((1 : Nat) : Int)) ∧ V = w' := fun V => (kind_blob V _).mono fun _ _ h => ⟨h.1, h.2.symm⟩
  by_cases h : 4096 < n
  · have hk : (3 : Int) ≠ 0 := by decide
    rw [blobW, if_pos h] at hw hwl
    rw [if_pos h, if_pos h] at he
    rw [blobNo, if_pos h]
    have hck : ∀ V, Chg No W V → Calls Try.prog 14 #[blobV (.slice A n c)] V fun e w' => e = .returned (.int .i64 3) ∧ Chg No V w' := fun V _ => by have := check_blob V A n c; rwa [if_pos h] at this
    exact says_no W _ 1 3 hk he hck hkd (links_refused W _ 3 hk hck) A' n' c' hw hwl none 0 0
  · rw [blobW, if_neg h] at hw hwl
    rw [if_neg h, if_neg h] at he
    rw [blobNo, if_neg h]
    exact says_ok W _ 1 (98 :: xs) (by simp; omega) he (fun V _ => by have := check_blob V A n c; rwa [if_neg h] at this) hkd [] (by simp) (links_blob W A n c h) A' n' c' hw hwl none 0 0 (Holds.nil W)

set_option maxHeartbeats 6400000 in
theorem objectBlobs_core (w : World) (Ab : Option Addr) (nb cb : Nat) (xs : List UInt8) (hb : Bytes w (.slice Ab nb cb) xs) (hl : xs.length = nb) (hnb : nb ≤ 140737488351232) :
    Calls Try.prog 9 #[.slice Ab nb cb] w fun e w' => e = .returned (.bool true) ∧ Chg No w w' := by
  have hnc : nb ≤ cb := by
    obtain ⟨A', c', he, h2, -⟩ := hb.form
    simp only [Value.slice.injEq] at he
    omega
  have HB0 := Lib.hid hb
  have HL0 := Lib.hid hl
  clear hb hl
  go_enter Try.func9, Try.ntmps9
  go_wp2_with fail
  refine (wakes_calls w).mono ?_
  rintro e w1 ⟨rfl, hc1⟩
  have HC1 := Lib.hid hc1
  clear hc1
  have hcap : (min (nb : Int) 4105) ≤ (cb : Int) := by omega
  have hcap0 : 0 ≤ (min (nb : Int) 4105) := by omega
  go_upto_region 4 with fail
  have hN1 : (min (nb : Int) 4105).toNat ≤ nb := by omega
  have hN : (min (nb : Int) 4105).toNat ≤ 4105 := by omega
  have hNc : (min (nb : Int) 4105).toNat ≤ cb := by omega
  clear hcap hcap0
  generalize (min (nb : Int) 4105).toNat = N at *
  have HB : Hid (Bytes w (.slice Ab N cb) (xs.take N)) := Bytes.takeN HB0.out HL0.out hN1 hNc (Nat.le_refl _)
  have HLN : Hid ((xs.take N).length = N) := by rw [Hid, List.length_take, HL0.out]; omega
  clear HB0 HL0 hN1
  generalize xs.take N = bs at *
  have hmk : ∀ W : World, (Instr.makeSlice 38 (.int .i64 0) (.int .i64 ((N : Int) + 9))).run Try.prog W = .ok (.slice (some ⟨W.heap.size, 0, none⟩) 0 (N + 9)) (W.alloc (.cells (madeCells #[.int .u8 0] (N + 9)) 5)) := by
    intro W
    obtain ⟨i0, hi, hz0, hz1, hz2⟩ := info_parts infoU8
    have := run_make (P := Try.prog) W 38 5 i0 (.int .u8 0) Try.underlying38 hi hz0 .i64 .i64 0 ((N : Int) + 9) (by omega) (by omega) (by rw [hz2]; omega) (by omega)
    rw [hz1] at this
    have e9 : ((N : Int) + 9).toNat = N + 9 := by omega
    rw [e9, Nat.mul_one] at this
    exact this
  have own2 : Hid (OwnB (w1.alloc (.cells (madeCells #[.int .u8 0] (N + 9)) 5)) w1.heap.size (.slice (some ⟨w1.heap.size, 0, none⟩) 0 (N + 9)) []) := World.ownsRow_made w1 _ (N + 9) (Nat.le_refl _) (by unfold maxLen; omega) (by rw [size_madeCells, Nat.mul_one])
  have src2 : Hid (Src Try.prog 1 38 (.slice Ab N cb) N (u8s bs) (w1.alloc (.cells (madeCells #[.int .u8 0] (N + 9)) 5))) := Src.ofBytes Try.underlying38 (HB.out.no (HC1.out.alloc _)) HLN.out
  go_wp2_with (at_builtin; (refine wpList_app2 rfl (.tmp 25) (.tmp 26) 38 38 rfl w1.heap.size 5 (.int .u8 0) 1 1 infoU8 Try.underlying38 rfl (by decide) (.slice (some ⟨w1.heap.size, 0, none⟩) 0 (N + 9)) (.slice Ab N cb) 0 N (u8s []) (u8s bs) rfl rfl ?own ?src ?b1 ?b2 ?b3 ?_; (case own => exact own2.out); (case src => exact src2.out); (case b1 => omega); (case b2 => unfold maxLen; omega); (case b3 => simp); intro v2 w2 hown2 hg2 hfrom2; refine Hid.out ?_))
  refine Lib.hid ?_
  have hO2 : OwnB w2 w1.heap.size v2 bs := OwnB.of hown2 (by simp [u8s])
  have HC2 : Hid (Chg No w w2) := (HC1.out.alloc _).grown hg2 (fun q hq => .inl (by simp [Value.ownBlock] at hq; subst hq; exact HC1.out.size))
  obtain ⟨A2, n2, c2, rfl, HL2, HO2⟩ := hO2.form
  obtain rfl : n2 = N := HL2.out.symm.trans HLN.out
  have hs2 : w1.heap.size ≤ w2.heap.size := by
    have h2 := (Chg.ofGrown (S := fun k => (Value.slice (some ⟨w1.heap.size, 0, none⟩) 0 (n2 + 9)).ownBlock = some k) hg2 (fun k hk => hk)).size
    simp only [World.size_alloc] at h2
    omega
  clear hO2 hown2 hg2 hfrom2 own2 src2 hmk
  have own3 := Lib.hid (OwnB.n (OwnB.alloc HO2.out (.cells #[.int .u8 7, .int .u8 7] 5)) HL2.out)
  have src3 : Hid (Src Try.prog 1 38 (.slice (some ⟨w2.heap.size, 0, none⟩) 2 2) 2 (u8s [7, 7]) (w2.alloc (.cells #[.int .u8 7, .int .u8 7] 5))) := Src.two Try.underlying38 _ _ _ (Chg.refl _ _) rfl (by simp [u8s, Value.oneCell'])
  go_wp2_with (at_builtin; (refine wpList_app2 rfl (.tmp 27) (.tmp 28) 38 38 rfl w1.heap.size 5 (.int .u8 0) 1 1 infoU8 Try.underlying38 rfl (by decide) (.slice A2 n2 c2) (.slice (some ⟨w2.heap.size, 0, none⟩) 2 2) n2 2 (u8s bs) (u8s [7, 7]) rfl rfl ?own ?src ?b1 ?b2 ?b3 ?_; (case own => exact own3.out); (case src => exact src3.out); (case b1 => omega); (case b2 => unfold maxLen; omega); (case b3 => (simp only [World.size_alloc]; omega)); intro v3 w3 hown3 hg3 hfrom3; refine Hid.out ?_))
  refine Lib.hid ?_
  have hO3 : OwnB w3 w1.heap.size v3 (bs ++ [7, 7]) := OwnB.of hown3 (by rw [u8s_append])
  have HC3 : Hid (Chg No w w3) := (HC2.out.alloc _).grown hg3 (fun q hq => .inl (by have := (HO2.out.block q hq).1; have := HC1.out.size; omega))
  obtain ⟨A3, n3, c3, rfl, HL3, HO3⟩ := hO3.form
  obtain rfl : n3 = n2 + 2 := by have := HL3.out; rw [List.length_append, HLN.out] at this; simpa using this.symm
  clear hO3 hown3 hg3 hfrom3 own3 src3 HO2 HL2
  obtain ⟨g3, c3', he3, -, -, hc3, -, hcell3, -⟩ := HO3.out.open (by rw [HL3.out]; omega)
  simp only [Value.slice.injEq] at he3
  obtain ⟨rfl, -, rfl⟩ := he3
  have hNc3 : n2 ≤ c3 := by rw [HL3.out] at hc3; omega
  have hNi : ((n2 : Int)) < ((n2 + 2 : Nat) : Int) := by omega
  have h7 : w3.cell? ⟨g3, n2, none⟩ = some (.int .u8 7) := by
    have := hcell3 n2 (by rw [HL3.out]; omega)
    rw [this, List.getElem_append_right (by rw [HLN.out]; exact Nat.le_refl _)]
    simp [HLN.out]
  have H7 := Lib.hid h7
  have HF : Hid (Bytes w3 (.slice (some ⟨g3, 0, none⟩) n2 c3) bs) := by
    have := Bytes.takeN (k := n2) (m := c3) HO3.out.bytes HL3.out (by omega) hNc3 (Nat.le_refl _)
    rwa [List.take_append_of_le_length (by rw [HLN.out]; exact Nat.le_refl _), List.take_of_length_le (by rw [HLN.out]; exact Nat.le_refl _)] at this
  clear hcell3 hc3 h7
  have HB3 := Lib.hid (HB.out.no HC3.out)
  clear HB HC2 HC1 HL3 HO3
  have HQ := Lib.hid (heap_alloc_new w3 (.cells #[.slice (some ⟨g3, 0, none⟩) n2 c3] 40))
  go_wp2_with fail
  refine (refblob_calls _ Ab n2 cb bs (HB3.out.no ((Chg.refl No w3).alloc _)) HLN.out (by omega)).mono ?_
  rintro e w5 ⟨A5, n5, c5, rfl, hB5, hl5, hc5⟩
  have HQ5 := Lib.hid (hc5.heap HQ.out (fun x => x))
  have HG5 : Hid (Chg No w3 w5) := ((Chg.refl No w3).alloc _).no hc5
  have HW5 := Lib.hid hB5
  have HWL5 := Lib.hid hl5
  have HSAY : Hid (Calls Try.prog 32 #[blobV (.slice (some ⟨g3, 0, none⟩) n2 c3), .int .i64 1, .slice A5 n5 c5, .int .i64 (blobNo n2), .slice none 0 0] w5 fun e w' => e = .returned (.bool true) ∧ Chg No w5 w') := says_blob w3 _ n2 c3 bs HF.out HLN.out (by omega) w5 HG5.out A5 n5 c5 HW5.out HWL5.out
  clear hB5 hl5 hc5 HQ HW5 HWL5
  generalize w3.heap.size = gb at *
  generalize blobNo n2 = no at *
  have k0 := cellAt HQ5.out 0 _ rfl
  go_wp2_with fail
  refine HSAY.out.mono ?_
  rintro e w6 ⟨rfl, hc6⟩
  have HG6 := Lib.hid (HG5.out.no hc6)
  have HQ6 := Lib.hid (hc6.heap HQ5.out (fun x => x))
  clear hc6 HG5 HQ5 HSAY k0
  go_wp2_with fail
  refine (equal_calls _ _ n2 c3 bs Ab n2 cb bs (HF.out.no HG6.out) (HB3.out.no HG6.out)).mono ?_
  rw [decide_eq_true rfl]
  rintro e w7 ⟨rfl, hw7⟩
  obtain rfl := hw7.symm
  have k7 := HG6.out.cell H7.out (fun x => x)
  have k0 := cellAt HQ6.out 0 _ rfl
  go_wp2_with fail
  refine (asblob_blob _ _ n2 c3).mono ?_
  rintro e w8 ⟨rfl, hc8⟩
  have HG8 := Lib.hid ((HG6.out).no hc8)
  have HQ8 := Lib.hid (hc8.heap (HQ6.out) (fun x => x))
  have HX8 := Lib.hid (heap_alloc_new w8 (.cells #[.slice (some ⟨g3, 0, none⟩) n2 c3] 40))
  have HQ9' := Lib.hid (((Chg.refl No w8).alloc (.cells #[.slice (some ⟨g3, 0, none⟩) n2 c3] 40)).heap HQ8.out (fun x => x))
  clear hc8 k0 k7 HG6 HQ6
  have k0 := cellAt HQ9'.out 0 _ rfl
  go_wp2_with fail
  refine (astree_blob _ _ n2 c3).mono ?_
  rintro e w9 ⟨rfl, hc9⟩
  have HG9 := Lib.hid ((HG8.out.alloc _).no hc9)
  have HQ9 := Lib.hid (hc9.heap HQ9'.out (fun x => x))
  have HX9 := Lib.hid (hc9.heap HX8.out (fun x => x))
  have HQ10' := Lib.hid (((Chg.refl No w9).alloc (.cells #[.slice none 0 0] 33)).heap HQ9.out (fun x => x))
  have HX10' := Lib.hid (((Chg.refl No w9).alloc (.cells #[.slice none 0 0] 33)).heap HX9.out (fun x => x))
  generalize w8.heap.size = gx at *
  clear hc9 k0 HG8 HQ8 HQ9' HX8 HQ9 HX9
  have k0 := cellAt HQ10'.out 0 _ rfl
  go_wp2_with fail
  refine (ascommit_blob _ _ n2 c3).mono ?_
  rintro e w10 ⟨rfl, hc10⟩
  have HG10 := Lib.hid ((HG9.out.alloc _).no hc10)
  have HQ10 := Lib.hid (hc10.heap HQ10'.out (fun x => x))
  have HX10 := Lib.hid (hc10.heap HX10'.out (fun x => x))
  have HQ11 := Lib.hid (((Chg.refl No w10).alloc (.cells #[.int .u64 0, .slice none 0 0, .string ⟨#[]⟩, .int .i64 0, .string ⟨#[]⟩] 27)).heap HQ10.out (fun x => x))
  have HX11 := Lib.hid (((Chg.refl No w10).alloc (.cells #[.int .u64 0, .slice none 0 0, .string ⟨#[]⟩, .int .i64 0, .string ⟨#[]⟩] 27)).heap HX10.out (fun x => x))
  have HG11 : Hid (Chg No w3 (w10.alloc (.cells #[.int .u64 0, .slice none 0 0, .string ⟨#[]⟩, .int .i64 0, .string ⟨#[]⟩] 27))) := HG10.out.alloc _
  clear hc10 k0 HG9 HG10 HQ10' HX10' HQ10 HX10
  have k1 := cellAt HX11.out 0 _ rfl
  have k0 := cellAt HQ11.out 0 _ rfl
  go_wp2_with fail
  refine (equal_calls _ _ n2 c3 bs Ab n2 cb bs (HF.out.no HG11.out) (HB3.out.no HG11.out)).mono ?_
  rw [decide_eq_true rfl]
  rintro e w12 ⟨rfl, hw12⟩
  obtain rfl := hw12.symm
  go_wp2_with fail
  refine (copy_blob _ _ n2 c3 bs (HF.out.no HG11.out) (by omega)).mono ?_
  rintro e w13 ⟨A13, c13, rfl, ho13, hc13⟩
  have HG13 := Lib.hid (HG11.out.no hc13)
  have HO13 := Lib.hid (OwnB.mono ho13 HG11.out.size)
  clear ho13 hc13 k0 k1 HQ11 HX11
  go_wp2_with fail
  refine (asblob_blob _ _ n2 c13).mono ?_
  rintro e w14 ⟨rfl, hc14⟩
  have HG14 := Lib.hid (HG13.out.no hc14)
  have HO14 := Lib.hid (HO13.out.chg hc14 (fun _ _ x => x))
  have HX14 := Lib.hid (heap_alloc_new w14 (.cells #[.slice A13 n2 c13] 40))
  have HG15 : Hid (Chg No w3 (w14.alloc (.cells #[.slice A13 n2 c13] 40))) := HG14.out.alloc _
  have HO15 := Lib.hid (HO14.out.alloc (.cells #[.slice A13 n2 c13] 40))
  clear hc14 HG11 HG13 HG14 HO13 HO14
  have k1 := cellAt HX14.out 0 _ rfl
  go_wp2_with fail
  refine (equal_calls _ A13 n2 c13 bs Ab n2 cb bs HO15.out.bytes (HB3.out.no HG15.out)).mono ?_
  rw [decide_eq_true rfl]
  rintro e w16 ⟨rfl, hw16⟩
  obtain rfl := hw16.symm
  generalize w14.alloc (.cells #[.slice A13 n2 c13] 40) = w15 at *
  generalize w14.heap.size = gy at *
  go_wp2
  clear k1
  have HOZ : Hid (w15.ownsRow w3.heap.size 5 1 (.slice A13 n2 c13) n2 ((bs.map fun b => ((b.toNat : Nat) : Int)).map (Value.int .u8))) := by have := OwnB.n HO15.out HLN.out; rw [u8s_ints] at this; exact this
  go_loopw [115] (fun j wr => ∃ (i : Nat) (zs : List Int), i ≤ n2 ∧ j = .int .i64 (i : Int) ∧ Hid (wr.ownsRow w3.heap.size 5 1 (.slice A13 n2 c13) n2 (zs.map (Value.int .u8))) ∧ Hid (wr.heap[gy]? = some (.cells #[.slice A13 n2 c13] 40)) ∧ Hid (Chg No w3 wr)) (fun j _ => n2 - (intOf j).toNat)
  case atStart => exact ⟨0, _, Nat.zero_le _, rfl, HOZ.out, HX14.out, HG15.out⟩
  case round =>
    obtain ⟨i, zs, hi, rfl, HOj, HXj, HGj⟩ := hrel
    have k1 := cellAt HXj.out 0 _ rfl
    by_cases hin : i < n2
    · obtain ⟨gr, rfl, hgr, -, hput⟩ := own_put HOj.out (by omega)
      obtain ⟨⟨u, hu, hux⟩, hf, hset⟩ := hput i (by omega)
      obtain ⟨z, hz⟩ : ∃ z, u = .int .u8 z := by
        rw [List.getElem?_map] at hux
        cases hzi : zs[i]? with
        | none => rw [hzi] at hux; cases hux
        | some z => rw [hzi] at hux; exact ⟨z, (Option.some.inj hux).symm⟩
      subst hz
      have hicap : (i : Int) < (n2 : Int) := by omega
      have hne : gy ≠ gr := by
        rintro rfl
        obtain ⟨cc, fz, hcc⟩ := ownsRow_cells HOj.out gy rfl
        have := hcc.symm.trans HXj.out
        simp only [Option.some.injEq, Obj.cells.injEq] at this
        exact absurd this.2.1 (by decide)
      have HSET : Hid (∀ y : Int, (wr.setCell ⟨gr, i, none⟩ (.int .u8 y)).ownsRow w3.heap.size 5 1 (.slice (some ⟨gr, 0, none⟩) n2 c13) n2 ((zs.set i y).map (Value.int .u8)) ∧ (wr.setCell ⟨gr, i, none⟩ (.int .u8 y)).heap[gy]? = some (.cells #[.slice (some ⟨gr, 0, none⟩) n2 c13] 40) ∧ Chg No w3 (wr.setCell ⟨gr, i, none⟩ (.int .u8 y))) := fun y => ⟨by rw [List.map_set]; exact hset _, (Chg.put wr gr i _).heap HXj.out (fun h => hne h), HGj.out.setCell (.inl hgr) _⟩
      clear hset hput hux hne
      go_wp2
      go_roundw
      case rel => exact ⟨i + 1, _, by omega, by simp, (HSET.out _).1, (HSET.out _).2.1, (HSET.out _).2.2⟩
      case measure => simp [intOf]; omega
    · have hin2 : ¬ (i : Int) < (n2 : Int) := by omega
      clear k1 HOj HXj HOZ HX14 HG15 HO15
      go_wp2_with fail
      refine (equal_calls _ _ n2 c3 bs Ab n2 cb bs (HF.out.no HGj.out) (HB3.out.no HGj.out)).mono ?_
      rw [decide_eq_true rfl]
      rintro e w17 ⟨rfl, hw17⟩
      obtain rfl := hw17.symm
      go_wp2_with fail
      refine (wakes_calls _).mono ?_
      rintro e w18 ⟨rfl, hc18⟩
      go_wp2
      go_ret
      exact ⟨rfl, (HC3.out.no HGj.out).no hc18⟩

theorem objectBlobs_walk (w : World) (Ab : Option Addr) (nb cb : Nat) (xs : List UInt8) (hb : Bytes w (.slice Ab nb cb) xs) (hl : xs.length = nb) (hnb : nb ≤ 140737488351232) :
    Calls Try.prog 9 #[.slice Ab nb cb] w fun e w' => e = .returned (.bool true) ∧ Below w.heap.size w w' :=
  (objectBlobs_core w Ab nb cb xs hb hl hnb).mono fun _ _ h => ⟨h.1, h.2.below⟩
end Go.Proofs.Ytkmnkbmmgopldaa
