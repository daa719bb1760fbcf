/-
  NameGo: the walk.
-/
import Derived.Test.YtkjbbidnpnecjaaDoorNm15
import Derived.Test.YtkjbbidnpnecjaaDoorNm7
import Derived.Deep.DeepCutAuto
namespace Go.Proofs.YtkjbbidnpnecjaaDoor
open Go.RowKit
set_option linter.unusedVariables false
set_option linter.unusedSimpArgs false
set_option maxRecDepth 100000

set_option maxHeartbeats 64000000 in
theorem nameGo_core (w : World) (s1 : ByteArray) (hs1 : s1.size ≤ 140737488351232) : Calls Tryd.prog 3 #[.string s1] w fun e w' => e = .returned (.bool true) ∧ Chg No w w' := by
  have HPp := Lib.hid fun W => cut_calls W s1 (by omega)
  have hlp := cutL_len s1.data.toList
  generalize cutL s1.data.toList = p at *
  have hxz : (mkS p).size ≤ 4096 := by rw [mkS_size]; exact hlp
  obtain ⟨M, CP, RW, hcv, hbk, hrw⟩ := conv_any (mkS p) hxz
  have HRW := Lib.hid hrw
  have HCK := Lib.hid fun W => check_calls W (mkS p) (by omega)
  have HPT := Lib.hid fun W => path_calls W (mkS p) (by omega)
  rw [mkS_list] at HCK HPT hbk
  have KM : Hid (((spotF p).1 == 0) = (may0 p && (pcs p).all fun p => !badN p)) := spot_may p
  have KW : Hid ((pathF p).1 = 0 → runesBytes (runesL p) = mkS p) := path_whole
  have hat := spot_at p
  have HM0 : Hid (may0 p = decide (p ≠ [] ∧ p.length ≤ 32 ∧ p ≠ [46] ∧ p ≠ [46, 46])) := rfl
  have HS : Hid ((mkS p).size = p.length) := mkS_size p
  have HLS : Hid ((mkS p).data.toList = p) := mkS_list p
  have HPC0 : Hid ((pcs p).all (fun p => !badN p) = (pcs ((mkS p).data.toList.drop 0)).all (fun p => !badN p)) := by rw [Hid, mkS_list]; rfl
  have hsz0 : ((mkS p).size : Int) = (p.length : Int) := by rw [mkS_size]
  obtain ⟨⟨e1, e2⟩, he⟩ : ∃ q, spotF p = q := ⟨_, rfl⟩
  rw [he] at HCK KM hat
  obtain ⟨⟨b1, b2⟩, hb⟩ : ∃ q, pathF p = q := ⟨_, rfl⟩
  rw [hb] at HPT KW
  simp only at KM hat KW
  unfold spotV at HCK HPT
  generalize (pcs p).all (fun p => !badN p) = pa at *
  generalize runesBytes (runesL p) = rb at *
  clear he hb hrw
  have hfb : ∀ W, Sem.run Tryd.prog (Instr.field 26 (.agg #[.int .i64 b1, .int .i64 b2]) 0) W = .ok (.int .i64 b1) W := fun _ => rfl
  go_enter Tryd.func3, Tryd.ntmps3
  go_wp2_with fail
  refine (wakes4_calls _).mono ?_
  rintro e w1 ⟨rfl, hc1⟩
  have HC1 := Lib.hid hc1
  clear hc1
  go_wp2_with fail
  refine (HPp.out _).mono ?_
  rintro e w2 ⟨rfl, rfl⟩
  go_upto_region 4 with fail
  go_cut [3] (fun s3 wx => s3 = .bool (may0 p) ∧ wx = w1)
  case first =>
    by_cases h0 : p = []
    · have HN : Hid (may0 p = false) := by rw [Hid, HM0.out]; exact decide_eq_false (fun h => h.1 h0)
      have hp0 : ¬ (0 : Int) < ((mkS p).size : Int) := by rw [mkS_size, h0]; decide
      have hp0n : ¬ 0 < (mkS p).size := by omega
      have hp0d : decide ((0 : Int) < ((mkS p).size : Int)) = false := decide_eq_false hp0
      clear h0
      go_wp2_with fail
      go_meet
      exact ⟨by rw [HN.out], rfl⟩
    · have hp1 : (0 : Int) < ((mkS p).size : Int) := by have := List.length_pos_iff.2 h0; omega
      have hp1n : 0 < (mkS p).size := by omega
      by_cases h1 : p.length ≤ 32
      · have hp2 : ((mkS p).size : Int) ≤ 32 := by omega
        by_cases h2 : p = [46]
        · have HN : Hid (may0 p = false) := by rw [Hid, HM0.out]; exact decide_eq_false (fun h => h.2.2.1 h2)
          have n2 : ((mkS p).toList == [46]) = true := by rw [Lib.toList_data, mkS_list, h2]; rfl
          clear h0 h1 h2
          go_wp2_with fail
          go_meet
          exact ⟨by rw [HN.out], rfl⟩
        · have n2 : ((mkS p).toList == [46]) = false := bytes_ne (by rw [mkS_list]; exact h2)
          by_cases h3 : p = [46, 46]
          · have HN : Hid (may0 p = false) := by rw [Hid, HM0.out]; exact decide_eq_false (fun h => h.2.2.2 h3)
            have n3 : ((mkS p).toList == [46, 46]) = true := by rw [Lib.toList_data, mkS_list, h3]; rfl
            clear h0 h1 h2 h3
            go_wp2_with fail
            go_meet
            exact ⟨by rw [HN.out], rfl⟩
          · have n3 : ((mkS p).toList == [46, 46]) = false := bytes_ne (by rw [mkS_list]; exact h3)
            have HN : Hid (may0 p = true) := by rw [Hid, HM0.out]; exact decide_eq_true ⟨h0, h1, h2, h3⟩
            clear h0 h1 h2 h3
            go_wp2_with fail
            go_meet
            exact ⟨by rw [HN.out], rfl⟩
      · have HN : Hid (may0 p = false) := by rw [Hid, HM0.out]; exact decide_eq_false (fun h => h1 h.2.1)
        have hp2 : ¬ ((mkS p).size : Int) ≤ 32 := by omega
        have hp2d : decide (((mkS p).size : Int) ≤ 32) = false := decide_eq_false hp2
        clear h0 h1
        go_wp2_with fail
        go_meet
        exact ⟨by rw [HN.out], rfl⟩
  case rest =>
  obtain ⟨rfl, hwx⟩ := hcut
  have hwx2 := hwx.symm
  clear hwx
  subst hwx2
  generalize may0 p = m0 at *
  generalize hsx : mkS p = s at *
  have HSZ := Lib.hid (size_list s)
  clear hsx
  go_wp2
  go_loopw [3] (fun mv wr => ∃ (pos : Nat) (mb : Bool), pos ≤ s.size ∧ mv = .bool mb ∧ Hid (wr.heap[w1.heap.size]? = some (.stringIter s pos)) ∧ Hid ((m0 && pa) = (mb && (pcs (s.data.toList.drop pos)).all fun p => !badN p)) ∧ Hid (Chg No w wr)) (fun _ wr => s.size - wr.iterPos w1.heap.size)
  case atStart => exact ⟨0, m0, Nat.zero_le _, rfl, World.iter_heap _ _ _, by rw [Hid, HPC0.out], HC1.out.alloc _⟩
  case round =>
    obtain ⟨pos, mb, hpos, rfl, HI, HU, HC⟩ := hrel
    by_cases hp : pos < s.size
    · have hl := drop_ne hp
      obtain ⟨f1, f2, f3⟩ := decL_facts _ hl
      have HPC := Lib.hid (pcs_cons _ hl)
      have hnx := fun ty => Lib.run_next_any_at (P := Tryd.prog) wr (w1.heap.size) s pos ty HI.out hp
      rw [decode_drop] at hnx
      have HBK : Hid (brk (s.data.toList.drop pos) = ((decL (s.data.toList.drop pos)).1 == 65533 && !([239, 191, 189] : List UInt8).isPrefixOf (s.data.toList.drop pos))) := rfl
      have HPF : Hid (([239, 191, 189] : List UInt8).isPrefixOf (s.data.toList.drop pos) = true → 3 ≤ s.size - pos) := by
        intro h
        have := (List.isPrefixOf_iff_prefix.1 h).length_le
        rw [List.length_drop, size_list] at this
        exact this
      have HX3 : Hid ((((s.extract pos (pos + 3)).toList == [239, 191, 189])) = ([239, 191, 189] : List UInt8).isPrefixOf (s.data.toList.drop pos)) := by rw [Hid, ext3_list, take3_pre]
      rw [List.length_drop, HSZ.out] at f2
      rw [List.drop_drop] at HPC
      generalize ([239, 191, 189] : List UInt8).isPrefixOf (s.data.toList.drop pos) = pf at *
      generalize decL (s.data.toList.drop pos) = D at *
      obtain ⟨r, k⟩ := D
      simp only at f1 f2 f3 hnx HPC HBK
      have HC1 : Hid (Chg No w (wr.iterAt (w1.heap.size) s (pos + k))) := Chg.iterAt HC.out (by have := HC1.out.size; omega) _ _
      have HI1 : Hid ((wr.iterAt (w1.heap.size) s (pos + k)).heap[w1.heap.size]? = some (.stringIter s (pos + k))) := Lib.iterAt_heap wr (w1.heap.size) s pos (pos + k) HI.out
      have hip : wr.iterPos (w1.heap.size) = pos := iterPos_of HI.out
      have hip2 : (wr.iterAt (w1.heap.size) s (pos + k)).iterPos (w1.heap.size) = pos + k := iterPos_of HI1.out
      have HNX : Hid ((m0 && pa) = (mb && (!badN (r, brk (s.data.toList.drop pos), (s.data.toList.drop pos).take k) && (pcs (s.data.toList.drop (pos + k))).all fun p => !badN p))) := by rw [Hid, HU.out, HPC.out, List.all_cons]
      clear HU HPC
      generalize brk (s.data.toList.drop pos) = bk at *
      generalize (s.data.toList.drop pos).take k = bs at *
      generalize hqq : (pcs (s.data.toList.drop (pos + k))).all (fun p => !badN p) = q at *
      have HQQ := Lib.hid hqq
      clear hqq
      clear hl
      generalize wr.iterAt (w1.heap.size) s (pos + k) = wn at *
      have hps : (pos : Int) ≤ (s.size : Int) := by omega
  
      by_cases hr : r = 65533
      · have hb2 : ((r : Int) == 65533) = true := by rw [hr]; rfl
        have hb3 : ¬ (r : Int) < 32 := by omega
        have hb4 : ((r : Int) == 127) = false := by rw [hr]; rfl
        have hb5 : ((r : Int) == 47) = false := by rw [hr]; rfl
        have HR := Lib.hid hr
        clear hr
        by_cases h3 : s.size - pos < 3
        · have h3i : (s.size : Int) - (pos : Int) < 3 := by omega
          have HPF0 : Hid (pf = false) := by
            cases pf with
            | false => rfl
            | true => have := HPF.out rfl; omega
          have HB : Hid (badN (r, bk, bs) = true) := by rw [Hid, HBK.out, HPF0.out, HR.out]; rfl
          have HQ : Hid ((m0 && pa) = (false && q)) := by rw [Hid, HNX.out, HB.out]; cases mb <;> rfl
          go_wp2
          go_roundw
          case rel => exact ⟨pos + k, false, by omega, rfl, HI1.out, by rw [Hid, HQQ.out]; exact HQ.out, HC1.out⟩
          case measure => rw [hip, hip2]; omega
        · have h3i : ¬ (s.size : Int) - (pos : Int) < 3 := by omega
          have h3d : decide ((s.size : Int) - (pos : Int) < 3) = false := decide_eq_false h3i
          have h3j : (pos : Int) + 3 ≤ (s.size : Int) := by omega
          have hx3 := HX3.out
          cases pf with
          | false =>
            have HB : Hid (badN (r, bk, bs) = true) := by rw [Hid, HBK.out, HR.out]; rfl
            have HQ : Hid ((m0 && pa) = (false && q)) := by rw [Hid, HNX.out, HB.out]; cases mb <;> rfl
            go_wp2
            go_roundw
            case rel => exact ⟨pos + k, false, by omega, rfl, HI1.out, by rw [Hid, HQQ.out]; exact HQ.out, HC1.out⟩
            case measure => rw [hip, hip2]; omega
          | true =>
            have HB : Hid (badN (r, bk, bs) = false) := by rw [Hid, HBK.out, HR.out]; rfl
            have HQ : Hid ((m0 && pa) = (mb && q)) := by rw [Hid, HNX.out, HB.out]; simp
            go_wp2
            go_roundw
            case rel => exact ⟨pos + k, mb, by omega, rfl, HI1.out, by rw [Hid, HQQ.out]; exact HQ.out, HC1.out⟩
            case measure => rw [hip, hip2]; omega
      · have hb2 : ((r : Int) == 65533) = false := by simp; omega
        have HBF : Hid (bk = false) := by
          rw [Hid, HBK.out]
          have : (r == 65533) = false := by simpa using hr
          rw [this]; rfl
        by_cases h32 : r < 32
        · have hb3 : (r : Int) < 32 := by omega
          have HB : Hid (badN (r, bk, bs) = true) := by simp [Hid, badN, ctlN, h32]
          have HQ : Hid ((m0 && pa) = (false && q)) := by rw [Hid, HNX.out, HB.out]; cases mb <;> rfl
          clear hr
          go_wp2
          go_roundw
          case rel => exact ⟨pos + k, false, by omega, rfl, HI1.out, by rw [Hid, HQQ.out]; exact HQ.out, HC1.out⟩
          case measure => rw [hip, hip2]; omega
        · have hb3 : ¬ (r : Int) < 32 := by omega
          have hb3d : decide ((r : Int) < 32) = false := decide_eq_false hb3
          by_cases h127 : r = 127
          · have hb4 : ((r : Int) == 127) = true := by rw [h127]; rfl
            have HB : Hid (badN (r, bk, bs) = true) := by simp [Hid, badN, ctlN, h127]
            have HQ : Hid ((m0 && pa) = (false && q)) := by rw [Hid, HNX.out, HB.out]; cases mb <;> rfl
            clear hr h127
            go_wp2
            go_roundw
            case rel => exact ⟨pos + k, false, by omega, rfl, HI1.out, by rw [Hid, HQQ.out]; exact HQ.out, HC1.out⟩
            case measure => rw [hip, hip2]; omega
          · have hb4 : ((r : Int) == 127) = false := by simp; omega
            by_cases h47 : r = 47
            · have hb5 : ((r : Int) == 47) = true := by rw [h47]; rfl
              have HB : Hid (badN (r, bk, bs) = true) := by simp [Hid, badN, ctlN, h47]
              have HQ : Hid ((m0 && pa) = (false && q)) := by rw [Hid, HNX.out, HB.out]; cases mb <;> rfl
              clear hr h127 h47
              go_wp2
              go_roundw
              case rel => exact ⟨pos + k, false, by omega, rfl, HI1.out, by rw [Hid, HQQ.out]; exact HQ.out, HC1.out⟩
              case measure => rw [hip, hip2]; omega
            · have hb5 : ((r : Int) == 47) = false := by simp; omega
              have HB : Hid (badN (r, bk, bs) = false) := by rw [Hid, HBF.out]; simp [badN, ctlN]; omega
              have HQ : Hid ((m0 && pa) = (mb && q)) := by rw [Hid, HNX.out, HB.out]; simp
              clear hr h127 h47
              go_wp2
              go_roundw
              case rel => exact ⟨pos + k, mb, by omega, rfl, HI1.out, by rw [Hid, HQQ.out]; exact HQ.out, HC1.out⟩
              case measure => rw [hip, hip2]; omega
    · have hnx := fun ty => Lib.run_next_end_at (P := Tryd.prog) wr w1.heap.size s pos ty HI.out hp
      have HMB : Hid ((e1 == 0) = mb) := by
        rw [Hid, KM.out, HU.out, List.drop_eq_nil_of_le (by rw [HSZ.out]; omega), pcs_nil]
        simp
      have hmb := HMB.out
      have ha0 : ¬ e2 < 0 := by omega
      have ha1 : ¬ (s.size : Int) < e2 := by omega
      have ha0d : decide (e2 < 0) = false := decide_eq_false ha0
      have ha1d : decide ((s.size : Int) < e2) = false := decide_eq_false ha1
      go_wp2_with fail
      refine (HCK.out _).mono ?_
      rintro e w4 ⟨rfl, hc4⟩
      have HC4 := Lib.hid (HC.out.no hc4)
      have HB4 := Lib.hid (heap_alloc_new w4 (.cells #[.int .i64 e1, .int .i64 e2] 26))
      obtain ⟨u0, u1⟩ := heap2 HB4.out
      have HC5 : Hid (Chg No w (w4.alloc (.cells #[.int .i64 e1, .int .i64 e2] 26))) := HC4.out.alloc _
      clear hc4 HB4 hat hnx
      have hc5 := hcv (w4.alloc (.cells #[.int .i64 e1, .int .i64 e2] 26))
      have hb5 := hbk (w4.alloc (.cells #[.int .i64 e1, .int .i64 e2] 26))
      have HC6 : Hid (Chg No w (RW (w4.alloc (.cells #[.int .i64 e1, .int .i64 e2] 26)))) := HC5.out.no (HRW.out _)
      rw [World.size_alloc] at hc5 hb5
      clear hcv hbk HRW
      by_cases h0 : b1 = 0
      · have hb : (b1 == 0) = true := by rw [h0]; rfl
        have hkw := KW.out h0
        subst hkw
        clear h0
        go_wp2_with fail
        refine (HPT.out _).mono ?_
        rintro e w7 ⟨rfl, hc7⟩
        have HC7 := Lib.hid (HC6.out.no hc7)
        clear hc7
        go_wp2_with fail
        refine (wakes4_calls _).mono ?_
        rintro e w8 ⟨rfl, hc8⟩
        go_wp2
        go_ret
        exact ⟨rfl, HC7.out.no hc8⟩
      · have hb : (b1 == 0) = false := by simpa using h0
        clear h0
        go_wp2_with fail
        refine (HPT.out _).mono ?_
        rintro e w7 ⟨rfl, hc7⟩
        have HC7 := Lib.hid (HC6.out.no hc7)
        clear hc7
        go_wp2_with fail
        refine (wakes4_calls _).mono ?_
        rintro e w8 ⟨rfl, hc8⟩
        go_wp2
        go_ret
        exact ⟨rfl, HC7.out.no hc8⟩
theorem nameGo_walk (w : World) (s1 : ByteArray) (hs1 : s1.size ≤ 140737488351232) : Calls Tryd.prog 3 #[.string s1] w fun e w' => e = .returned (.bool true) ∧ Below w.heap.size w w' :=
  (nameGo_core w s1 hs1).mono fun _ _ h => ⟨h.1, h.2.below⟩
end Go.Proofs.YtkjbbidnpnecjaaDoor
