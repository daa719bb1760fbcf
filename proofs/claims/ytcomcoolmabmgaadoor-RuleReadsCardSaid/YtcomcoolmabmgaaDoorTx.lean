/-
  strings.HasPrefix; the reference's Spot: what is wrong with a name.
-/
import Derived.Test.YtcomcoolmabmgaaDoorN3
import Derived.Lib.Strings
import Derived.Lib.Slices
import Derived.Lib.Walk
import Derived.Laws.RangeAny
namespace Go.Proofs.YtcomcoolmabmgaaDoor
open Go.RowKit
set_option linter.unusedVariables false
set_option linter.unusedSimpArgs false
set_option maxRecDepth 100000

set_option maxHeartbeats 1000000 in
theorem hasprefix_calls (s p : ByteArray) (w : World) :
    Calls Tryd.prog 58 #[.string s, .string p] w fun e w' => e = .returned (.bool (Lib.hasPrefix s.data.toList p.data.toList)) ∧ w = w' := by
  rw [← Lib.hasPrefix_of_take, ← Lib.size_eq, ← Lib.size_eq]
  go_enter Tryd.func58, Tryd.ntmps58
  go_wp2
  · rename_i h
    go_ret
    refine ⟨?_, rfl⟩
    show Ending.returned (Value.bool ((s.extract 0 p.size).toList == p.toList)) = _
    rw [Lib.extract_toList, Lib.toList_data]
    simp [h]
  · rename_i h
    go_ret
    refine ⟨?_, rfl⟩
    show Ending.returned (Value.bool false) = _
    simp [h]
theorem fffd_calls (s : ByteArray) (i : Nat) (h : (decL (s.data.toList.drop i)).1 = 65533) (w : World) :
    Calls Tryd.prog 58 #[.string (s.extract i s.size), .string ⟨#[239, 191, 189]⟩] w fun e w' => e = .returned (.bool (!brk (s.data.toList.drop i))) ∧ w = w' := by
  have := hasprefix_calls (s.extract i s.size) ⟨#[239, 191, 189]⟩ w
  have e : (!brk (s.data.toList.drop i)) = Lib.hasPrefix (s.extract i s.size).data.toList [239, 191, 189] := by
    rw [extract_list]
    unfold brk Lib.hasPrefix
    rw [h]
    simp
  rw [e]
  exact this


set_option maxHeartbeats 3200000 in
theorem refspot_calls (w : World) (s : ByteArray) (hs : s.size ≤ 9223372036854775807) :
    Calls Tryd.prog 82 #[.string s] w fun e w' => e = .returned (spotV (spotF s.data.toList)) ∧ Chg No w w' := by
  have HS := Lib.hid (size_list s)
  by_cases h0 : s.data.toList = [] ∨ s.data.toList = [46] ∨ s.data.toList = [46, 46]
  · have HF : Hid (spotF s.data.toList = (140, 0)) := by rw [Hid, spotF, if_pos h0]
    have HE : s = ⟨#[]⟩ ∨ s = ⟨#[46]⟩ ∨ s = ⟨#[46, 46]⟩ := by
      rw [← mkS_self s]
      rcases h0 with h | h | h <;> rw [h] <;> simp [mkS]
    clear h0
    rcases HE with rfl | rfl | rfl
    · go_enter Tryd.func82, Tryd.ntmps82
      go_wp2
      exact bodyPost_ret (v := spotV (140, 0)) (by simp [results, Tryd.results82, go_sem, spotV]) rfl ⟨by rw [HF.out], (Chg.refl No w).alloc _⟩
    · go_enter Tryd.func82, Tryd.ntmps82
      go_wp2
      exact bodyPost_ret (v := spotV (140, 0)) (by simp [results, Tryd.results82, go_sem, spotV]) rfl ⟨by rw [HF.out], (Chg.refl No w).alloc _⟩
    · go_enter Tryd.func82, Tryd.ntmps82
      go_wp2
      exact bodyPost_ret (v := spotV (140, 0)) (by simp [results, Tryd.results82, go_sem, spotV]) rfl ⟨by rw [HF.out], (Chg.refl No w).alloc _⟩
  · have n1 := bytes_ne (fun h => h0 (.inl h))
    have n2 := bytes_ne (fun h => h0 (.inr (.inl h)))
    have n3 := bytes_ne (fun h => h0 (.inr (.inr h)))
    by_cases h32 : 32 < s.size
    · have HF : Hid (spotF s.data.toList = (3, 32)) := by rw [Hid, spotF, if_neg h0, if_pos (by rw [HS.out]; exact h32)]
      have b32 : (32 : Int) < (s.size : Int) := by omega
      clear h0
      go_enter Tryd.func82, Tryd.ntmps82
      go_wp2
      exact bodyPost_ret (v := spotV (3, 32)) (by simp [results, Tryd.results82, go_sem, spotV]) rfl ⟨by rw [HF.out], (Chg.refl No w).alloc _⟩
    · have HF := Lib.hid (show spotF s.data.toList = _ by rw [spotF, if_neg h0, if_neg (by rw [HS.out]; exact h32)])
      have b32 : ¬ (32 : Int) < (s.size : Int) := by omega
      clear h0
      go_enter Tryd.func82, Tryd.ntmps82
      go_wp2
      go_loopw [] (fun wr => ∃ pos : Nat, pos ≤ s.size ∧ Hid (wr.heap[(w.heap.size + 1)]? = some (.stringIter s pos)) ∧ Hid (wrongAt 0 (pcs s.data.toList) = wrongAt pos (pcs (s.data.toList.drop pos))) ∧ Hid (wr.heap[w.heap.size]? = some (.cells #[.int .i64 0, .int .i64 0] 26)) ∧ Hid (Chg No w wr)) (fun wr => s.size - wr.iterPos (w.heap.size + 1))
      case atStart =>
        refine ⟨0, Nat.zero_le _, ?_, rfl, (Chg.refl No (w.alloc (.cells #[.int .i64 0, .int .i64 0] 26))).alloc _ |>.heap (heap_alloc_new w _) (fun x => x), ((Chg.refl No w).alloc _).alloc _⟩
        have := World.iter_heap (w.alloc (.cells #[.int .i64 0, .int .i64 0] 26)) s 0
        rwa [World.size_alloc] at this
      case round =>
        obtain ⟨pos, hpos, HI, HU, HX, HC⟩ := hrel
        by_cases hp : pos < s.size
        · have hl := drop_ne hp
          obtain ⟨f1, f2, f3⟩ := decL_facts _ hl
          have HPC := Lib.hid (wrong_cons pos _ hl)
          have hnx := fun ty => Lib.run_next_any_at (P := Tryd.prog) wr (w.heap.size + 1) s pos ty HI.out hp
          rw [decode_drop] at hnx
          have HFF := Lib.hid (fun h w => fffd_calls s pos h w)
          have HBR : Hid ((decL (s.data.toList.drop pos)).1 ≠ 65533 → brk (s.data.toList.drop pos) = false) := fun h => by unfold brk; simp [h]
          rw [List.length_drop, HS.out] at f2
          rw [List.drop_drop] at HPC
          generalize decL (s.data.toList.drop pos) = D at *
          obtain ⟨r, k⟩ := D
          simp only at f1 f2 f3 hnx HPC HFF HBR
          have HC1 : Hid (Chg No w (wr.iterAt (w.heap.size + 1) s (pos + k))) := Chg.iterAt HC.out (by omega) _ _
          have HI1 : Hid ((wr.iterAt (w.heap.size + 1) s (pos + k)).heap[(w.heap.size + 1)]? = some (.stringIter s (pos + k))) := Lib.iterAt_heap wr (w.heap.size + 1) s pos (pos + k) HI.out
          have hip : wr.iterPos (w.heap.size + 1) = pos := iterPos_of HI.out
          have hip2 : (wr.iterAt (w.heap.size + 1) s (pos + k)).iterPos (w.heap.size + 1) = pos + k := iterPos_of HI1.out
          have HX1 : Hid ((wr.iterAt (w.heap.size + 1) s (pos + k)).heap[w.heap.size]? = some (.cells #[.int .i64 0, .int .i64 0] 26)) := (Chg.iterOne wr (w.heap.size + 1) s (pos + k)).heap HX.out (fun h => by have h : w.heap.size = w.heap.size + 1 := h; omega)
          generalize brk (s.data.toList.drop pos) = bk at *
          generalize (s.data.toList.drop pos).take k = bs at *
          clear hl
          generalize wr.iterAt (w.heap.size + 1) s (pos + k) = wn at *
          have hps : (pos : Int) ≤ (s.size : Int) := by omega
          have c0 := cellAt HX1.out 0 _ rfl
          have c1 := cellAt HX1.out 1 _ rfl
          have f0 := frzAt HX1.out 0
          have f1' := frzAt HX1.out 1
          by_cases hr : r = 65533
          · have hb2 : ((r : Int) == 65533) = true := by rw [hr]; rfl
            have HFR := Lib.hid (fun w => HFF.out hr w)
            have HR := Lib.hid hr
            have hb3 : ¬ (r : Int) < 32 := by omega
            have hb4 : ((r : Int) == 127) = false := by rw [hr]; rfl
            have hb5 : ((r : Int) == 47) = false := by rw [hr]; rfl
            clear hr HFF HBR
            cases bk with
            | true =>
              go_wp2_with fail
              refine (HFR.out _).mono ?_
              rintro e w' ⟨rfl, rfl⟩
              have HW : Hid (wrongAt 0 (pcs s.data.toList) = some pos) := by rw [Hid, HU.out, HPC.out]; simp [badN]
              have e0 := World.cell?_setCell_same wn ⟨w.heap.size, 0, none⟩ (.int .i64 140) c0
              go_wp2
              exact bodyPost_ret (v := spotV (140, (pos : Int))) (by simp [results, Tryd.results82, go_sem, spotV, c0, c1]) rfl ⟨by rw [HF.out, HW.out], (HC1.out.setCell (.inl (Nat.le_refl _)) _).setCell (.inl (Nat.le_refl _)) _⟩
            | false =>
              go_wp2_with fail
              refine (HFR.out _).mono ?_
              rintro e w' ⟨rfl, rfl⟩
              have HN : Hid (wrongAt 0 (pcs s.data.toList) = wrongAt (pos + k) (pcs (s.data.toList.drop (pos + k)))) := by rw [Hid, HU.out, HPC.out]; simp [badN, ctlN, HR.out]
              go_wp2
              go_roundw
              case rel => exact ⟨pos + k, by omega, HI1.out, HN.out, HX1.out, HC1.out⟩
              case measure => rw [hip, hip2]; omega
          · have hb2 : ((r : Int) == 65533) = false := by simp; omega
            have HBK := Lib.hid (HBR.out hr)
            clear HFF HBR
            by_cases hc : ctlN r = true
            · have HCT := Lib.hid hc
              by_cases h32 : r < 32
              · have hb3 : (r : Int) < 32 := by omega
                clear hc hr
                have HW : Hid (wrongAt 0 (pcs s.data.toList) = some pos) := by rw [Hid, HU.out, HPC.out]; simp [badN, HCT.out]
                have e0 := World.cell?_setCell_same wn ⟨w.heap.size, 0, none⟩ (.int .i64 140) c0
                go_wp2
                exact bodyPost_ret (v := spotV (140, (pos : Int))) (by simp [results, Tryd.results82, go_sem, spotV, c0, c1]) rfl ⟨by rw [HF.out, HW.out], (HC1.out.setCell (.inl (Nat.le_refl _)) _).setCell (.inl (Nat.le_refl _)) _⟩
              · have hb3 : ¬ (r : Int) < 32 := by omega
                by_cases h127 : r = 127
                · have hb4 : ((r : Int) == 127) = true := by rw [h127]; rfl
                  clear hc hr
                  have HW : Hid (wrongAt 0 (pcs s.data.toList) = some pos) := by rw [Hid, HU.out, HPC.out]; simp [badN, HCT.out]
                  have e0 := World.cell?_setCell_same wn ⟨w.heap.size, 0, none⟩ (.int .i64 140) c0
                  go_wp2
                  exact bodyPost_ret (v := spotV (140, (pos : Int))) (by simp [results, Tryd.results82, go_sem, spotV, c0, c1]) rfl ⟨by rw [HF.out, HW.out], (HC1.out.setCell (.inl (Nat.le_refl _)) _).setCell (.inl (Nat.le_refl _)) _⟩
                · have hb4 : ((r : Int) == 127) = false := by simp; omega
                  have hb5 : ((r : Int) == 47) = true := by
                    simp only [ctlN, Bool.or_eq_true, decide_eq_true_eq, beq_iff_eq] at hc
                    rw [beq_iff_eq]; omega
                  clear hc hr h127
                  have HW : Hid (wrongAt 0 (pcs s.data.toList) = some pos) := by rw [Hid, HU.out, HPC.out]; simp [badN, HCT.out]
                  have e0 := World.cell?_setCell_same wn ⟨w.heap.size, 0, none⟩ (.int .i64 140) c0
                  go_wp2
                  exact bodyPost_ret (v := spotV (140, (pos : Int))) (by simp [results, Tryd.results82, go_sem, spotV, c0, c1]) rfl ⟨by rw [HF.out, HW.out], (HC1.out.setCell (.inl (Nat.le_refl _)) _).setCell (.inl (Nat.le_refl _)) _⟩
            · have HCT : Hid (ctlN r = false) := by simpa [Hid] using hc
              simp only [ctlN, Bool.or_eq_true, decide_eq_true_eq, beq_iff_eq, not_or] at hc
              have hb3 : ¬ (r : Int) < 32 := by omega
              have hb4 : ((r : Int) == 127) = false := by rw [beq_eq_false_iff_ne]; omega
              have hb5 : ((r : Int) == 47) = false := by rw [beq_eq_false_iff_ne]; omega
              clear hc hr
              have HN : Hid (wrongAt 0 (pcs s.data.toList) = wrongAt (pos + k) (pcs (s.data.toList.drop (pos + k)))) := by rw [Hid, HU.out, HPC.out]; simp [badN, HCT.out, HBK.out]
              go_wp2
              go_roundw
              case rel => exact ⟨pos + k, by omega, HI1.out, HN.out, HX1.out, HC1.out⟩
              case measure => rw [hip, hip2]; omega
        · have hnx := fun ty => Lib.run_next_end_at (P := Tryd.prog) wr (w.heap.size + 1) s pos ty HI.out hp
          have HE : Hid (s.data.toList.drop pos = []) := by rw [Hid]; exact List.drop_of_length_le (by rw [HS.out]; omega)
          have c0 := cellAt HX.out 0 _ rfl
          have c1 := cellAt HX.out 1 _ rfl
          have f0 := frzAt HX.out 0
          have f1 := frzAt HX.out 1
          have HW : Hid (wrongAt 0 (pcs s.data.toList) = none) := by rw [Hid, HU.out, HE.out]; rfl
          go_wp2
          exact bodyPost_ret (v := spotV (0, 0)) (by simp [results, Tryd.results82, go_sem, spotV, c0, c1]) rfl ⟨by rw [HF.out, HW.out], (HC.out.setCell (.inl (Nat.le_refl _)) _).setCell (.inl (Nat.le_refl _)) _⟩
end Go.Proofs.YtcomcoolmabmgaaDoor
