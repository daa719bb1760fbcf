/-
  The reference's Text: is a text right?
-/
import Derived.Test.YtkmnkbmmgopldaaTx
import Derived.Test.YtkmnkbmmgopldaaB2
namespace Go.Proofs.Ytkmnkbmmgopldaa
open Go.RowKit
set_option linter.unusedVariables false
set_option linter.unusedSimpArgs false
set_option maxRecDepth 100000

set_option maxHeartbeats 1600000 in
theorem reftext6_calls (w : World) (s : ByteArray) (hs : s.size ≤ 9223372036854775807) :
    Calls Try.prog 80 #[.string s] w fun e w' => e = .returned (.bool (rightF s.data.toList)) ∧ Chg No w w' := by
  have HS := Lib.hid (size_list s)
  go_enter Try.func80, Try.ntmps80
  go_wp2
  go_loopw [] (fun wr => ∃ pos : Nat, pos ≤ s.size ∧ Hid (wr.heap[w.heap.size]? = some (.stringIter s pos)) ∧ Hid (rightF s.data.toList = (pcs (s.data.toList.drop pos)).all okP) ∧ Hid (Chg No w wr)) (fun wr => s.size - wr.iterPos w.heap.size)
  case atStart => exact ⟨0, Nat.zero_le _, World.iter_heap _ _ _, rfl, (Chg.refl No w).alloc _⟩
  case round =>
    obtain ⟨pos, hpos, HI, HU, HC⟩ := hrel
    by_cases hp : pos < s.size
    · have hl := drop_ne hp
      obtain ⟨f1, f2, f3⟩ := decL_facts _ hl
      have HPC := Lib.hid (pcs_cons _ hl)
      have hnx := fun ty => Lib.run_next_any_at (P := Try.prog) wr w.heap.size s pos ty HI.out hp
      rw [decode_drop] at hnx
      have HFF := Lib.hid (fun h w => fffd_calls s pos h w)
      have HBR : Hid ((decL (s.data.toList.drop pos)).1 ≠ 65533 → brk (s.data.toList.drop pos) = false) := fun h => by unfold brk; simp [h]
      rw [List.length_drop, HS.out] at f2
      rw [List.drop_drop] at HPC
      generalize decL (s.data.toList.drop pos) = D at *
      obtain ⟨r, k⟩ := D
      simp only at f1 f2 f3 hnx HPC HFF HBR
      have HC1 : Hid (Chg No w (wr.iterAt w.heap.size s (pos + k))) := Chg.iterAt HC.out (by omega) _ _
      have HI1 : Hid ((wr.iterAt w.heap.size s (pos + k)).heap[w.heap.size]? = some (.stringIter s (pos + k))) := Lib.iterAt_heap wr w.heap.size s pos (pos + k) HI.out
      have hip : wr.iterPos w.heap.size = pos := iterPos_of HI.out
      have hip2 : (wr.iterAt w.heap.size s (pos + k)).iterPos w.heap.size = pos + k := iterPos_of HI1.out
      generalize brk (s.data.toList.drop pos) = bk at *
      generalize (s.data.toList.drop pos).take k = bs at *
      clear hl
      generalize wr.iterAt w.heap.size s (pos + k) = wn at *
      have hps : (pos : Int) ≤ (s.size : Int) := by omega
      by_cases hr0 : r = 0
      · have hb : ((r : Int) == 0) = true := by rw [hr0]; rfl
        have H0 := Lib.hid hr0
        clear hr0
        go_wp2
        go_ret
        exact ⟨by rw [HU.out, HPC.out]; simp [okP, H0.out], HC1.out⟩
      · have hb : ((r : Int) == 0) = false := by simp; omega
        have hbn : (r != 0) = true := by simpa using hr0
        by_cases hr : r = 65533
        · have hb2 : ((r : Int) == 65533) = true := by rw [hr]; rfl
          have HFR := Lib.hid (fun w => HFF.out hr w)
          have HR := Lib.hid hr
          clear hr HFF HBR
          cases bk with
          | true =>
            go_wp2_with fail
            refine (HFR.out _).mono ?_
            rintro e w' ⟨rfl, rfl⟩
            go_wp2
            go_ret
            exact ⟨by rw [HU.out, HPC.out]; simp [okP], HC1.out⟩
          | false =>
            go_wp2_with fail
            refine (HFR.out _).mono ?_
            rintro e w' ⟨rfl, rfl⟩
            have HN : Hid (rightF s.data.toList = (pcs (s.data.toList.drop (pos + k))).all okP) := by rw [Hid, HU.out, HPC.out]; simp [okP, hbn]
            go_wp2
            go_roundw
            case rel => exact ⟨pos + k, by omega, HI1.out, HN.out, HC1.out⟩
            case measure => rw [hip, hip2]; omega
        · have hb2 : ((r : Int) == 65533) = false := by simp; omega
          have HBK := Lib.hid (HBR.out hr)
          clear HFF HBR
          clear hr
          have HN : Hid (rightF s.data.toList = (pcs (s.data.toList.drop (pos + k))).all okP) := by rw [Hid, HU.out, HPC.out]; simp [okP, hbn, HBK.out]
          go_wp2
          go_roundw
          case rel => exact ⟨pos + k, by omega, HI1.out, HN.out, HC1.out⟩
          case measure => rw [hip, hip2]; omega
    · have hnx := fun ty => Lib.run_next_end_at (P := Try.prog) wr w.heap.size s pos ty HI.out hp
      have HE : Hid (s.data.toList.drop pos = []) := by rw [Hid]; exact List.drop_of_length_le (by rw [HS.out]; omega)
      go_wp2
      go_ret
      exact ⟨by rw [HU.out, HE.out]; rfl, HC.out⟩
end Go.Proofs.Ytkmnkbmmgopldaa
