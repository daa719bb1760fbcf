/-
  right: is a text right?
-/
import Derived.Test.YtkmnkbmmgopldaaN1
import Derived.Test.YtkmnkbmmgopldaaB1
import Derived.Laws.RangeAny
namespace Go.Proofs.Ytkmnkbmmgopldaa
open Go.RowKit
set_option linter.unusedVariables false
set_option linter.unusedSimpArgs false

def okP (p : Nat × Bool × List UInt8) : Bool := p.1 != 0 && !p.2.1
def rightF (l : List UInt8) : Bool := (pcs l).all okP
theorem fffd_k (l : List UInt8) (h : l ≠ []) (hr : (decL l).1 = 65533) : (decL l).2 ≤ 3 ∧ (brk l = false → (decL l).2 = 3) := by
  have hb := brk_short l h
  cases hk : brk l with
  | true =>
    have h1 := brk_one l hk
    rw [h1]
    exact ⟨by decide, fun h => by simp at h⟩
  | false =>
    have : ([239, 191, 189] : List UInt8).isPrefixOf l = true := by
      unfold brk at hk
      rw [hr] at hk
      simpa using hk
    rw [pre_fffd this]
    exact ⟨by decide, fun _ => rfl⟩

set_option maxRecDepth 100000 in
set_option maxHeartbeats 1600000 in
theorem right_calls (w : World) (s : ByteArray) (hs : s.size ≤ 9223372036854775807) :
    Calls Try.prog 74 #[.string s] w fun e w' => e = .returned (.bool (rightF s.data.toList)) ∧ Chg No w w' := by
  have hsl := size_list s
  have HS := Lib.hid hsl
  clear hsl
  go_enter Try.func74, Try.ntmps74
  go_wp2
  go_loopw [3, 4] (fun a b wr => ∃ pos ah la : Nat, pos ≤ s.size ∧ la ≤ pos ∧ a = .int .i32 (ah : Int) ∧ b = .int .i64 (la : Int) ∧ (ah = 65533 → pos - la ≤ 3) ∧ Hid (wr.heap[w.heap.size]? = some (.stringIter s pos)) ∧ Hid (rightF s.data.toList = (!(ah == 65533 && decide (pos - la < 3)) && (pcs (s.data.toList.drop pos)).all okP)) ∧ Hid (Chg No w wr)) (fun _ _ wr => s.size - wr.iterPos w.heap.size)
  case atStart => exact ⟨0, 32, 0, Nat.zero_le _, Nat.le_refl _, rfl, rfl, by decide, World.iter_heap _ _ _, rfl, (Chg.refl No w).alloc _⟩
  case round =>
    obtain ⟨pos, ah, la, hpos, hla, rfl, rfl, hah3, HI, HU2, HC⟩ := hrel
    by_cases hp : pos < s.size
    · have hl := drop_ne hp
      obtain ⟨f1, f2, f3⟩ := decL_facts _ hl
      have HPC := Lib.hid (pcs_cons _ hl)
      have hnx := fun ty => Lib.run_next_any_at (P := Try.prog) wr w.heap.size s pos ty HI.out hp
      rw [decode_drop] at hnx
      have hbs := brk_short _ hl
      have hf3 := fffd_k _ hl
      rw [List.length_drop, HS.out] at f2
      rw [List.drop_drop] at HPC
      generalize decL (s.data.toList.drop pos) = D at *
      obtain ⟨r, k⟩ := D
      simp only at f1 f2 f3 hnx HPC hbs hf3
      have HC1 : Hid (Chg No w (wr.iterAt w.heap.size s (pos + k))) := Chg.iterAt HC.out (Nat.le_refl _) _ _
      have HI1 : Hid ((wr.iterAt w.heap.size s (pos + k)).heap[w.heap.size]? = some (.stringIter s (pos + k))) := Lib.iterAt_heap wr w.heap.size s pos (pos + k) HI.out
      have hip : wr.iterPos w.heap.size = pos := iterPos_of HI.out
      have hip2 : (wr.iterAt w.heap.size s (pos + k)).iterPos w.heap.size = pos + k := iterPos_of HI1.out
      have HB := Lib.hid hbs
      have HF := Lib.hid hf3
      clear hbs hf3
      generalize brk (s.data.toList.drop pos) = bk at *
      generalize (s.data.toList.drop pos).take k = bs at *
      clear hl
      generalize wr.iterAt w.heap.size s (pos + k) = wn at *
      by_cases hr0 : r = 0
      · have hb : ((r : Int) == 0) = true := by rw [hr0]; rfl
        have H0 := Lib.hid hr0
        clear hr0
        go_wp2
        go_ret
        exact ⟨by rw [HU2.out, HPC.out]; simp [okP, H0.out], HC1.out⟩
      · have hb : ((r : Int) == 0) = false := by simp; omega
        by_cases ha : ah = 65533 ∧ pos - la < 3
        · have hb2 : ((ah : Int) == 65533) = true := by rw [ha.1]; rfl
          have hb3 : ((pos : Int) - (la : Int)) < 3 := by omega
          have H2 := Lib.hid ha
          clear ha hr0
          go_wp2
          go_ret
          exact ⟨by rw [HU2.out]; simp [H2.out.1, H2.out.2], HC1.out⟩
        · have HG : Hid ((ah == 65533 && decide (pos - la < 3)) = false) := by
            rw [Hid]
            simp only [Bool.and_eq_false_iff, beq_eq_false_iff_ne, decide_eq_false_iff_not]
            by_cases h1 : ah = 65533
            · exact .inr fun h2 => ha ⟨h1, h2⟩
            · exact .inl h1
          have HN : Hid (rightF s.data.toList = (!(r == 65533 && decide (pos + k - pos < 3)) && (pcs (s.data.toList.drop (pos + k))).all okP)) := by
            rw [Hid, HU2.out, HG.out, HPC.out, List.all_cons]
            have h1 : okP (r, bk, bs) = !(r == 65533 && decide (pos + k - pos < 3)) := by
              have : (r != 0) = true := by simpa using hr0
              rw [okP, this, HB.out, Nat.add_sub_cancel_left]
              rfl
            rw [h1]
            rfl
          have hk3 : r = 65533 → pos + k - pos ≤ 3 := fun h => by have := (HF.out h).1; omega
          by_cases h1 : ah = 65533
          · have hb2 : ((ah : Int) == 65533) = true := by rw [h1]; rfl
            have hb3 : ¬ ((pos : Int) - (la : Int)) < 3 := by omega
            clear ha hr0 h1 HF
            go_wp2
            go_roundw
            case rel => exact ⟨pos + k, r, pos, by omega, by omega, rfl, rfl, hk3, HI1.out, HN.out, HC1.out⟩
            case measure => rw [hip, hip2]; omega
          · have hb2 : ((ah : Int) == 65533) = false := by simp; omega
            clear ha hr0 h1 HF
            go_wp2
            go_roundw
            case rel => exact ⟨pos + k, r, pos, by omega, by omega, rfl, rfl, hk3, HI1.out, HN.out, HC1.out⟩
            case measure => rw [hip, hip2]; omega
    · have hnx := fun ty => Lib.run_next_end_at (P := Try.prog) wr w.heap.size s pos ty HI.out hp
      have HE : Hid (s.data.toList.drop pos = []) := by rw [Hid]; exact List.drop_of_length_le (by rw [HS.out]; omega)
      have hps : pos = s.size := by omega
      subst hps
      by_cases h1 : ah = 65533
      · have hb2 : ((ah : Int) != 65533) = false := by rw [h1]; rfl
        have h13 := hah3 h1
        have H1 := Lib.hid h1
        clear h1 hah3
        by_cases h3 : s.size - la = 3
        · have hb3 : ((s.size : Int) - (la : Int) == 3) = true := by rw [beq_iff_eq]; omega
          have H3 := Lib.hid h3
          clear h3
          go_wp2
          go_ret
          exact ⟨by rw [HU2.out, HE.out, H1.out, H3.out]; rfl, HC.out⟩
        · have hb3 : ((s.size : Int) - (la : Int) == 3) = false := by rw [beq_eq_false_iff_ne]; omega
          have H3 : Hid (decide (s.size - la < 3) = true) := by simp [Hid]; omega
          clear h3
          go_wp2
          go_ret
          exact ⟨by rw [HU2.out, HE.out, H1.out, H3.out]; rfl, HC.out⟩
      · have hb2 : ((ah : Int) != 65533) = true := by simp; omega
        have H2 : Hid ((ah == 65533) = false) := by rw [Hid, beq_eq_false_iff_ne]; exact h1
        clear h1 hah3
        go_wp2
        go_ret
        exact ⟨by rw [HU2.out, HE.out, H2.out]; rfl, HC.out⟩
end Go.Proofs.Ytkmnkbmmgopldaa
