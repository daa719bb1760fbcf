/-
  The reference's Plain.
-/
import Derived.Test.YtcomcoolmabmgaaDoorQ6
namespace Go.Proofs.YtcomcoolmabmgaaDoor
open Go.RowKit
set_option linter.unusedVariables false
set_option linter.unusedSimpArgs false

set_option maxRecDepth 100000 in
set_option maxHeartbeats 1600000 in
theorem rplain_calls (w : World) (s : ByteArray) (hs : s.size ≤ 9223372036854770000) :
    Calls Tryd.prog 48 #[.string s] w fun e w' => e = .returned (.bool (plainF s.data.toList)) ∧ Chg No w w' := by
  have hsl := size_list s
  by_cases h0 : s.size = 0
  · have : s = ⟨#[]⟩ := by
      obtain ⟨⟨l⟩⟩ := s
      cases l with
      | nil => rfl
      | cons a t => simp [ByteArray.size] at h0
    subst this
    clear h0 hsl hs
    go_enter Tryd.func48, Tryd.ntmps48
    go_wp2
    go_ret
    exact ⟨rfl, Chg.refl _ _⟩
  · have i0 : (0 : Int) < (s.size : Int) := by omega
    have hz0 : ((s.size : Int) == 0) = false := by rw [beq_eq_false_iff_ne]; omega
    have hlt : 0 < s.size := by omega
    have HS := Lib.hid hsl
    have HP : Hid (plainF s.data.toList = (s[0]'hlt != 35 && (pcs s.data.toList).all fun p => !badP p)) := by
      obtain ⟨⟨l⟩⟩ := s
      cases l with
      | nil => simp [ByteArray.size] at h0
      | cons a t => rfl
    by_cases h35 : s[0]'hlt = 35
    · have hb : (((s[0]'hlt).toNat : Int) == 35) = true := by rw [h35]; rfl
      have HU : Hid (plainF s.data.toList = false) := by rw [Hid, HP.out, h35]; rfl
      clear HP hsl h35
      go_enter Tryd.func48, Tryd.ntmps48
      go_wp2
      go_ret
      exact ⟨by rw [HU.out]; rfl, Chg.refl _ _⟩
    · have hb : (((s[0]'hlt).toNat : Int) == 35) = false := by
        rw [beq_eq_false_iff_ne]
        intro h
        exact h35 (UInt8.toNat_inj.1 (by show _ = 35; omega))
      have HU : Hid (plainF s.data.toList = (pcs s.data.toList).all fun p => !badP p) := by
        rw [Hid, HP.out]
        have : (s[0]'hlt != 35) = true := by simpa using h35
        rw [this, Bool.true_and]
      clear HP hsl h35
      go_enter Tryd.func48, Tryd.ntmps48
      go_wp2
      go_loopw [3] (fun a wr => ∃ pos : Nat, pos ≤ s.size ∧ a = .int .i64 (pos : Int) ∧ Hid (plainF s.data.toList = (pcs (s.data.toList.drop pos)).all fun p => !badP p) ∧ Hid (Chg No w wr)) (fun a _ => s.size - (intOf a).toNat)
      case atStart => exact ⟨0, Nat.zero_le _, rfl, HU.out, Chg.refl No w⟩
      case round =>
        obtain ⟨pos, hpos, rfl, HU2, HC⟩ := hrel
        by_cases hp : pos < s.size
        · have hl := drop_ne hp
          obtain ⟨f1, f2, f3⟩ := decL_facts _ hl
          have HPC := Lib.hid (pcs_cons _ hl)
          have HPI : Hid (∀ w1, Calls Tryd.prog 64 #[.string s, .int .i64 (pos : Int)] w1 fun e w' => e = .returned (.tuple #[.int .i64 ((decL (s.data.toList.drop pos)).2 : Int), .bool (brk (s.data.toList.drop pos)), .int .i32 ((decL (s.data.toList.drop pos)).1 : Int)]) ∧ Chg No w1 w') := fun w1 => piece_calls w1 s (by omega) pos hp
          have HCT : Hid (∀ w1, Calls Tryd.prog 65 #[.int .i32 (((decL (s.data.toList.drop pos)).1 : Nat) : Int)] w1 fun e w' => e = .returned (.bool (ctl (decL (s.data.toList.drop pos)).1)) ∧ w1 = w') := fun w1 => rcontrol_calls w1 _
          rw [List.length_drop, HS.out] at f2
          rw [List.drop_drop] at HPC
          generalize decL (s.data.toList.drop pos) = D at *
          obtain ⟨r, k⟩ := D
          simp only at f1 f2 f3 HPI HCT HPC
          generalize brk (s.data.toList.drop pos) = bk at *
          generalize (s.data.toList.drop pos).take k = bs at *
          clear hl
          generalize hct : ctl r = ct at *
          have HCTR := Lib.hid hct
          clear hct
          cases bk with
          | true =>
            go_wp2_with fail
            refine (HPI.out _).mono ?_
            rintro e w' ⟨rfl, hc⟩
            have HC1 : Hid (Chg No w w') := HC.out.no hc
            clear hc
            go_wp2_with (go_at_call 65; refine (HCT.out _).mono ?_; rintro e w' ⟨rfl, rfl⟩)
            go_ret
            exact ⟨by rw [HU2.out, HPC.out]; simp [badP, HCTR.out], HC1.out⟩
          | false =>
            cases ct with
            | true =>
              go_wp2_with fail
              refine (HPI.out _).mono ?_
              rintro e w' ⟨rfl, hc⟩
              have HC1 : Hid (Chg No w w') := HC.out.no hc
              clear hc
              go_wp2_with (go_at_call 65; refine (HCT.out _).mono ?_; rintro e w' ⟨rfl, rfl⟩)
              go_ret
              exact ⟨by rw [HU2.out, HPC.out]; simp [badP, HCTR.out], HC1.out⟩
            | false =>
              by_cases h32 : r = 32
              · have hb : ((r : Int) == 32) = true := by rw [h32]; rfl
                have H32 := Lib.hid h32
                clear h32
                go_wp2_with fail
                refine (HPI.out _).mono ?_
                rintro e w' ⟨rfl, hc⟩
                have HC1 : Hid (Chg No w w') := HC.out.no hc
                clear hc
                go_wp2_with (go_at_call 65; refine (HCT.out _).mono ?_; rintro e w' ⟨rfl, rfl⟩)
                go_ret
                exact ⟨by rw [HU2.out, HPC.out]; simp [badP, H32.out], HC1.out⟩
              · have hb32 : ((r : Int) == 32) = false := by simp; omega
                by_cases h34 : r = 34
                · have hb : ((r : Int) == 34) = true := by rw [h34]; rfl
                  have H34 := Lib.hid h34
                  clear h34
                  go_wp2_with fail
                  refine (HPI.out _).mono ?_
                  rintro e w' ⟨rfl, hc⟩
                  have HC1 : Hid (Chg No w w') := HC.out.no hc
                  clear hc
                  go_wp2_with (go_at_call 65; refine (HCT.out _).mono ?_; rintro e w' ⟨rfl, rfl⟩)
                  go_ret
                  exact ⟨by rw [HU2.out, HPC.out]; simp [badP, H34.out], HC1.out⟩
                · have hb34 : ((r : Int) == 34) = false := by simp; omega
                  by_cases h92 : r = 92
                  · have hb : ((r : Int) == 92) = true := by rw [h92]; rfl
                    have H92 := Lib.hid h92
                    clear h92
                    go_wp2_with fail
                    refine (HPI.out _).mono ?_
                    rintro e w' ⟨rfl, hc⟩
                    have HC1 : Hid (Chg No w w') := HC.out.no hc
                    clear hc
                    go_wp2_with (go_at_call 65; refine (HCT.out _).mono ?_; rintro e w' ⟨rfl, rfl⟩)
                    go_ret
                    exact ⟨by rw [HU2.out, HPC.out]; simp [badP, H92.out], HC1.out⟩
                  · have hb92 : ((r : Int) == 92) = false := by simp; omega
                    have HG : Hid (badP (r, false, bs) = false) := by simp [Hid, badP, HCTR.out, h32, h34, h92]
                    clear h32 h34 h92
                    go_wp2_with fail
                    refine (HPI.out _).mono ?_
                    rintro e w' ⟨rfl, hc⟩
                    have HC1 : Hid (Chg No w w') := HC.out.no hc
                    clear hc
                    go_wp2_with (go_at_call 65; refine (HCT.out _).mono ?_; rintro e w' ⟨rfl, rfl⟩)
                    go_roundw
                    case rel => exact ⟨pos + k, by omega, by go_num, by rw [Hid, HU2.out, HPC.out, List.all_cons, HG.out]; rfl, HC1.out⟩
                    case measure => simp [intOf]; omega
        · have HE : Hid (s.data.toList.drop pos = []) := by rw [Hid]; exact List.drop_of_length_le (by rw [HS.out]; omega)
          go_wp2
          go_ret
          exact ⟨by rw [HU2.out, HE.out]; rfl, HC.out⟩
end Go.Proofs.YtcomcoolmabmgaaDoor
