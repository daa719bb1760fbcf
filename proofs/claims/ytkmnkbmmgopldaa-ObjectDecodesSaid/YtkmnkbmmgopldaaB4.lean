/-
  Encode: the closure that puts words.
-/
import Derived.Test.YtkmnkbmmgopldaaB3
import Derived.Test.YtkmnkbmmgopldaaBox
namespace Go.Proofs.Ytkmnkbmmgopldaa
open Go.RowKit
set_option linter.unusedVariables false
set_option linter.unusedSimpArgs false
set_option maxRecDepth 100000

theorem wides_len (xs : List Nat) : (xs.flatMap wide).length = 8 * xs.length := by
  induction xs with
  | nil => rfl
  | cons a t ih => rw [List.flatMap_cons, List.length_append, wide_len, ih, List.length_cons]; omega

set_option maxHeartbeats 1600000 in
theorem word_cl (w : World) (g base : Nat) (v : Value) (bs : List UInt8) (A : Option Addr) (n c : Nat) (xs : List Nat) (hb : base ≤ w.heap.size) (hg : Box 38 w g v) (ho : OwnB w base v bs)
    (hs : ∀ W, Chg (One g) w W → Sl u64v W (.slice A n c) xs) (hx : ∀ x ∈ xs, x < 18446744073709551616) (hn : n ≤ 1000) (hm : bs.length ≤ 1000000) :
    Calls Try.prog 53 #[.slice A n c, .pointer (some ⟨g, 0, none⟩)] w fun e w' => e = .returned (.tuple #[]) ∧ ∃ v', Box 38 w' g v' ∧ OwnB w' base v' (bs ++ xs.flatMap wide) ∧ Chg (One g) w w' := by
  have HL := Lib.hid (hs w (Chg.refl _ _)).len
  have H := Lib.hid hs
  have HO := Lib.hid ho
  have HG := Lib.hid hg
  have HX := Lib.hid hx
  clear hs hg ho hx
  go_enter Try.func53, Try.ntmps53
  go_wp2
  go_loopw [7] (fun i wr => ∃ k : Nat, k ≤ n ∧ i = .int .i64 (k : Int) ∧ Hid (∃ v', Box 38 wr g v' ∧ OwnB wr base v' (bs ++ (xs.take k).flatMap wide)) ∧ Hid (Chg (One g) w wr)) (fun i _ => n - (intOf i).toNat)
  case atStart => exact ⟨0, Nat.zero_le _, rfl, ⟨v, HG.out, by simpa using HO.out⟩, Chg.refl _ _⟩
  case round =>
    obtain ⟨k, hk, rfl, HB, HC⟩ := hrel
    by_cases hlt : k < n
    · have hH := H.out _ HC.out
      obtain ⟨b, o, rfl, hcell⟩ := hH.addr (by rw [HL.out]; omega)
      have hc := hcell k (by rw [HL.out]; exact hlt)
      have HT : Hid (xs.take (k + 1) = xs.take k ++ [xs[k]'(by rw [HL.out]; exact hlt)]) := by rw [Hid, List.take_succ_eq_append_getElem]
      have hxl := HX.out _ (List.getElem_mem (by rw [HL.out]; exact hlt) : xs[k]'(by rw [HL.out]; exact hlt) ∈ xs)
      generalize xs[k]'(by rw [HL.out]; exact hlt) = x at *
      unfold u64v at hc
      obtain ⟨v1, hb1, ho1⟩ := HB.out
      have hlen : (bs ++ (xs.take k).flatMap wide).length ≤ 1008000 := by
        rw [List.length_append, wides_len, List.length_take]; omega
      generalize hys : bs ++ (xs.take k).flatMap wide = ys at *
      have HYS := Lib.hid hys
      obtain ⟨A1, n1, c1, rfl, HL1, HO1⟩ := ho1.form
      have HB1 := Lib.hid hb1
      have hcc := hb1.c
      have hn1 : n1 ≤ 1008000 := by rw [← HL1.out]; exact hlen
      clear hcell hH hys ho1 hlen hb1
      go_wp2_with fail
      refine (putword_calls _ A1 n1 c1 ys HO1.out.bytes HL1.out x _ rfl hxl (by omega)).mono ?_
      rintro e w1 ⟨v2, rfl, ho2, hc2⟩
      obtain ⟨A2, n2, c2, rfl, -, -⟩ := ho2.form
      have hb2 : Box 38 w1 g (.slice A1 n1 c1) := HB1.out.no hc2
      have hcc2 := hb2.c
      have hfr2 := hb2.fr
      have ho3 : OwnB w1 base (.slice A2 n2 c2) (ys ++ wide x) := ho2.mono (Nat.le_trans hb HC.out.size)
      have HO3 : Hid (OwnB (w1.setCell ⟨g, 0, none⟩ (.slice A2 n2 c2)) base (.slice A2 n2 c2) (ys ++ wide x)) := ho3.chg (Chg.put w1 g 0 _) (ho3.apart hb2 (by decide))
      have HB3 : Hid (Box 38 (w1.setCell ⟨g, 0, none⟩ (.slice A2 n2 c2)) g (.slice A2 n2 c2)) := hb2.set _
      have HC3 : Hid (Chg (One g) w (w1.setCell ⟨g, 0, none⟩ (.slice A2 n2 c2))) := (HC.out.no hc2).one (Chg.put w1 g 0 _) (.inr rfl)
      have HT3 : Hid (bs ++ (xs.take (k + 1)).flatMap wide = ys ++ wide x) := by rw [Hid, HT.out, List.flatMap_append, ← HYS.out]; simp
      clear ho2 hc2 hb2 ho3 hcc HO1 HB1
      go_wp2
      go_roundw
      case rel => exact ⟨k + 1, by omega, by simp, ⟨_, HB3.out, by rw [HT3.out]; exact HO3.out⟩, HC3.out⟩
      case measure => simp [intOf]; omega
    · have hkn : k = n := by omega
      subst hkn
      obtain ⟨v1, hb1, ho1⟩ := HB.out
      have HB1 := Lib.hid hb1
      have HO1 := Lib.hid ho1
      clear hb1 ho1
      go_wp2
      go_end0
      refine ⟨rfl, v1, HB1.out, ?_, HC.out⟩
      have := HO1.out
      rwa [List.take_of_length_le (by rw [HL.out]; exact Nat.le_refl _)] at this
end Go.Proofs.Ytkmnkbmmgopldaa
