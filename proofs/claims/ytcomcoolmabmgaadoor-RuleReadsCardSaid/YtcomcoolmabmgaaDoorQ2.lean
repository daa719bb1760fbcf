/-
  The pieces of a text; Plain.
-/
import Derived.Test.YtcomcoolmabmgaaDoorPcs
import Derived.Test.YtcomcoolmabmgaaDoorQ1
import Derived.Laws.RangeAny
namespace Go.Proofs.YtcomcoolmabmgaaDoor
open Go.RowKit
set_option linter.unusedVariables false
set_option linter.unusedSimpArgs false

/-- May a piece not stand in a plain word? -/
def badP (p : Nat × Bool × List UInt8) : Bool := ctl p.1 || p.2.1 || p.1 == 32 || p.1 == 34 || p.1 == 92
def plainF (l : List UInt8) : Bool := match l with
  | [] => false
  | a :: t => a != 35 && (pcs (a :: t)).all fun p => !badP p

set_option maxRecDepth 100000 in
set_option maxHeartbeats 1600000 in
theorem plain_calls (w : World) (s : ByteArray) (hs : s.size ≤ 9223372036854775807) :
    Calls Tryd.prog 39 #[.string s] w fun e w' => e = .returned (.bool (plainF s.data.toList)) ∧ Chg No w w' := by
  have hsl := size_list s
  by_cases h0 : s.size = 0
  · have : s = ⟨#[]⟩ := by
      obtain ⟨⟨l⟩⟩ := s
      cases l with
      | nil => rfl
      | cons a t => simp [ByteArray.size] at h0
    subst this
    clear h0 hsl hs
    go_enter Tryd.func39, Tryd.ntmps39
    go_wp2
    go_ret
    exact ⟨rfl, Chg.refl _ _⟩
  · have i0 : (0 : Int) < (s.size : Int) := by omega
    have HS := Lib.hid hsl
    have HP : Hid (plainF s.data.toList = (s[0]'(by omega) != 35 && (pcs s.data.toList).all fun p => !badP p)) := by
      obtain ⟨⟨l⟩⟩ := s
      cases l with
      | nil => simp [ByteArray.size] at h0
      | cons a t => rfl
    have hn : ¬ s.toList = [] := by
      rw [Lib.toList_data]
      intro h
      rw [h] at hsl
      simp at hsl
      omega
    have hem : s.toList.isEmpty = false := by simpa using hn
    have hlt : 0 < s.size := by omega
    by_cases h35 : s[0]'hlt = 35
    · have hb : (((s[0]'hlt).toNat : Int) == 35) = true := by rw [h35]; rfl
      have HU : Hid (plainF s.data.toList = false) := by rw [Hid, HP.out, h35]; rfl
      clear HP hsl h35
      go_enter Tryd.func39, Tryd.ntmps39
      go_wp2
      go_ret
      exact ⟨by rw [HU.out]; rfl, Chg.refl _ _⟩
    · have hb : (((s[0]'hlt).toNat : Int) == 35) = false := by
        rw [beq_eq_false_iff_ne]
        intro h
        exact h35 (UInt8.toNat_inj.1 (by show _ = 35; omega))
      have HU : Hid (plainF s.data.toList = (pcs s.data.toList).all fun p => !badP p) := by
        rw [Hid, HP.out]
        have : (s[0]'hlt != 35) = true := by simpa using h35
        rw [this, Bool.true_and]
      clear HP hsl h35
      go_enter Tryd.func39, Tryd.ntmps39
      go_wp2
      go_loopw [] (fun wr => ∃ pos, pos ≤ s.size ∧ Hid (wr.heap[w.heap.size]? = some (.stringIter s pos)) ∧ Hid (plainF s.data.toList = (pcs (s.data.toList.drop pos)).all fun p => !badP p) ∧ Hid (Chg No w wr)) (fun wr => s.size - wr.iterPos w.heap.size)
      case atStart => exact ⟨0, Nat.zero_le _, World.iter_heap _ _ _, HU.out, (Chg.refl No w).alloc _⟩
      case round =>
        obtain ⟨pos, hpos, HI, HU2, HC⟩ := hrel
        by_cases hp : pos < s.size
        · have hl := drop_ne hp
          obtain ⟨f1, f2, f3⟩ := decL_facts _ hl
          have HPC := Lib.hid (pcs_cons _ hl)
          have hnx := fun ty => Lib.run_next_any_at (P := Tryd.prog) wr w.heap.size s pos ty HI.out hp
          rw [decode_drop] at hnx
          have HCT : Hid (∀ w1, Calls Tryd.prog 42 #[.int .i32 (((decL (s.data.toList.drop pos)).1 : Nat) : Int)] w1 fun e w' => e = .returned (.bool (ctl (decL (s.data.toList.drop pos)).1)) ∧ w1 = w') := fun w1 => control_calls w1 _
          have HBR : Hid (∀ w1, Calls Tryd.prog 40 #[.string s, .int .i64 (pos : Int), .int .i32 (((decL (s.data.toList.drop pos)).1 : Nat) : Int)] w1 fun e w' => e = .returned (.bool (brk (s.data.toList.drop pos))) ∧ w1 = w') := fun w1 => broken_calls w1 s hs pos hpos
          rw [List.length_drop, HS.out] at f2
          rw [List.drop_drop] at HPC
          generalize decL (s.data.toList.drop pos) = D at *
          obtain ⟨r, k⟩ := D
          simp only at f1 f2 f3 hnx HCT HBR HPC
          have HC1 : Hid (Chg No w (wr.iterAt w.heap.size s (pos + k))) := Chg.iterAt HC.out (Nat.le_refl _) _ _
          have HI1 : Hid ((wr.iterAt w.heap.size s (pos + k)).heap[w.heap.size]? = some (.stringIter s (pos + k))) := Lib.iterAt_heap wr w.heap.size s pos (pos + k) HI.out
          have hip : wr.iterPos w.heap.size = pos := iterPos_of HI.out
          have hip2 : (wr.iterAt w.heap.size s (pos + k)).iterPos w.heap.size = pos + k := iterPos_of HI1.out
          generalize brk (s.data.toList.drop pos) = bk at *
          generalize (s.data.toList.drop pos).take k = bs at *
          clear hl
          generalize wr.iterAt w.heap.size s (pos + k) = wn at *
          generalize hct : ctl r = ct at *
          have HCTR := Lib.hid hct
          clear hct
          cases ct with
          | true =>
            go_wp2_with (first | (go_at_call 42; refine (HCT.out _).mono ?_; rintro e w' ⟨rfl, rfl⟩) | (go_at_call 40; refine (HBR.out _).mono ?_; rintro e w' ⟨rfl, rfl⟩))
            go_ret
            exact ⟨by rw [HU2.out, HPC.out]; simp [badP, HCTR.out], HC1.out⟩
          | false =>
            cases bk with
            | true =>
              go_wp2_with (first | (go_at_call 42; refine (HCT.out _).mono ?_; rintro e w' ⟨rfl, rfl⟩) | (go_at_call 40; refine (HBR.out _).mono ?_; rintro e w' ⟨rfl, rfl⟩))
              go_ret
              exact ⟨by rw [HU2.out, HPC.out]; simp [badP, HCTR.out], HC1.out⟩
            | false =>
              by_cases h32 : r = 32
              · have hb : ((r : Int) == 32) = true := by rw [h32]; rfl
                have H32 := Lib.hid h32
                clear h32
                go_wp2_with (first | (go_at_call 42; refine (HCT.out _).mono ?_; rintro e w' ⟨rfl, rfl⟩) | (go_at_call 40; refine (HBR.out _).mono ?_; rintro e w' ⟨rfl, rfl⟩))
                go_ret
                exact ⟨by rw [HU2.out, HPC.out]; simp [badP, H32.out], HC1.out⟩
              · have hb32 : ((r : Int) == 32) = false := by simp; omega
                by_cases h34 : r = 34
                · have hb : ((r : Int) == 34) = true := by rw [h34]; rfl
                  have H34 := Lib.hid h34
                  clear h34
                  go_wp2_with (first | (go_at_call 42; refine (HCT.out _).mono ?_; rintro e w' ⟨rfl, rfl⟩) | (go_at_call 40; refine (HBR.out _).mono ?_; rintro e w' ⟨rfl, rfl⟩))
                  go_ret
                  exact ⟨by rw [HU2.out, HPC.out]; simp [badP, H34.out], HC1.out⟩
                · have hb34 : ((r : Int) == 34) = false := by simp; omega
                  by_cases h92 : r = 92
                  · have hb : ((r : Int) == 92) = true := by rw [h92]; rfl
                    have H92 := Lib.hid h92
                    clear h92
                    go_wp2_with (first | (go_at_call 42; refine (HCT.out _).mono ?_; rintro e w' ⟨rfl, rfl⟩) | (go_at_call 40; refine (HBR.out _).mono ?_; rintro e w' ⟨rfl, rfl⟩))
                    go_ret
                    exact ⟨by rw [HU2.out, HPC.out]; simp [badP, H92.out], HC1.out⟩
                  · have hb92 : ((r : Int) == 92) = false := by simp; omega
                    have HG : Hid (badP (r, false, bs) = false) := by simp [Hid, badP, HCTR.out, h32, h34, h92]
                    clear h32 h34 h92
                    go_wp2_with (first | (go_at_call 42; refine (HCT.out _).mono ?_; rintro e w' ⟨rfl, rfl⟩) | (go_at_call 40; refine (HBR.out _).mono ?_; rintro e w' ⟨rfl, rfl⟩))
                    go_roundw
                    case rel => exact ⟨pos + k, by omega, HI1.out, by rw [Hid, HU2.out, HPC.out, List.all_cons, HG.out]; rfl, HC1.out⟩
                    case measure => rw [hip, hip2]; omega
        · have hnx := fun ty => Lib.run_next_end_at (P := Tryd.prog) wr w.heap.size s pos ty HI.out hp
          have HE : Hid (s.data.toList.drop pos = []) := by rw [Hid]; exact List.drop_of_length_le (by rw [HS.out]; omega)
          go_wp2
          go_ret
          exact ⟨by rw [HU2.out, HE.out]; rfl, HC.out⟩
end Go.Proofs.YtcomcoolmabmgaaDoor
