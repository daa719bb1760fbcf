/-
  wakes, on; a new disk and its journal.
-/
import Derived.Test.YtbbfjnfmfigcfaaJ13
import Derived.Lib.SmallJoins
namespace Go.Proofs.Ytbbfjnfmfigcfaa
open Go.RowKit Go.Shelf
set_option linter.unusedVariables false
set_option linter.unusedSimpArgs false
set_option maxRecDepth 100000

theorem Chg.newer {S : Nat → Prop} {w a b : World} (h : Chg No w a) (k : Chg S a b) (hs : ∀ i, S i → w.heap.size ≤ i) : Chg No w b := h.trans k (fun i hi hx => by have := hs i hx; omega)
theorem Bytes.litMark {w : World} {xs : List UInt8} {t : TypeId} {m : Nat × Nat} (n c : Nat) (hn : n = xs.length) (hc : n ≤ c) (hm : c ≤ maxLen) : Bytes (w.alloc (.cells (u8s xs).toArray t m)) (.slice (some ⟨w.heap.size, 0, none⟩) n c) xs := by
  subst hn
  refine ⟨_, _, rfl, hc, hm, fun _ => ⟨w.heap.size, 0, rfl, fun j u hj => ?_⟩⟩
  rw [Nat.zero_add]
  unfold World.cell? World.alloc
  simpa using hj
/-- A journal opened on a new disk. -/
theorem fresh_open (w : World) (base d m nw : Nat) (k : ByteArray) (h : DiskAt w d m nw none) (hd : base ≤ d) (hm : base ≤ m) (hw : nw < 9223372036850000000) (hb : base ≤ w.heap.size) :
    Calls Try.prog 11 #[.pointer (some ⟨d, 0, none⟩), .string k] w fun e w' => ∃ j S, e = .returned (.tuple #[.pointer (some ⟨j, 0, none⟩), .int .i64 0]) ∧ JD w' S base j d m nw k false [] ∧ Chg (DM d m) w w' ∧ w.heap.size ≤ j := by
  refine (open_calls w base d m nw k false none 0 0 [] [] false (Rds.stop (by simp [stepF])) h (World.ownsRow_nil _ _ _ _) rfl (fun _ => ⟨rfl, rfl, rfl⟩) (by omega) hw ⟨hd, hm⟩ hb).mono ?_
  rintro e w' ⟨-, h2⟩
  obtain ⟨j, he, nw', -, hn, hJ, hc, hj⟩ := h2 rfl
  obtain rfl := (hn rfl).1
  exact ⟨j, _, he, hJ, hc, hj⟩
theorem JD.boundary {S : Nat → Prop} {w : World} {base j d m wr : Nat} {k : ByteArray} {th : Bool} {ps : List (List UInt8)} (h : JD w S base j d m wr k th ps) {b : Nat} (hb : w.heap.size ≤ b) : ¬ S b := fun hs => by have := (h.lt b hs).2; omega
theorem recF_small (p : List UInt8) (h : p.length < 128) : (recF p).length = p.length + 9 := by
  unfold recF
  rw [List.length_append, List.length_append, leb_small _ h, wide_len]
  simp; omega

set_option maxHeartbeats 3200000 in
theorem wakes_calls (w : World) : Calls Try.prog 8 #[] w fun e w' => e = .returned (.bool true) ∧ Chg No w w' := by
  have kc := fun (w : World) (C : Array Value) (n c : Nat) => Lib.run_convert_bytes_const (P := Try.prog) w 22 5 C n c Try.underlying22 Try.underlying5
  go_enter Try.func8, Try.ntmps8
  go_wp2_with fail
  refine (new_calls _).mono ?_
  rintro e w1 ⟨rfl, hD, hc⟩
  have HD := Lib.hid hD
  have HC := Lib.hid hc
  clear hD hc
  have hdw : w.heap.size ≤ w.heap.size + 1 := by omega
  generalize w.heap.size + 1 = d at *
  go_wp2_with fail
  refine (fresh_open w1 w.heap.size d w.heap.size 0 ⟨#[97]⟩ HD.out hdw (Nat.le_refl _) (by omega) HC.out.size).mono ?_
  rintro e w2 ⟨j, S, rfl, hJ, hc2, hj⟩
  have HJ := Lib.hid hJ
  have HC2 : Hid (Chg No w w2) := HC.out.newer hc2 (fun i hi => by rcases hi with rfl | rfl; exact hdw; exact Nat.le_refl _)
  clear hJ hc2 HD HC
  go_wp2_with fail
  refine (jappend_calls _ S w.heap.size j d w.heap.size 0 ⟨#[97]⟩ (fun w => may_one w 97 (by decide)) false [] _ _ _ [97] (HJ.out.no ((Chg.refl No w2).alloc _)) (Bytes.litMark 1 1 rfl (Nat.le_refl _) (by unfold maxLen; omega)) rfl (fun b hb => by cases hb; exact HJ.out.boundary (Nat.le_refl _)) (by omega) (by have := recF_len0 [97]; rw [recF_small [97] (by decide)]; simp [encF]) (by omega)).mono ?_
  rintro e w3 ⟨rfl, hJ3, hc3⟩
  have HJ3 := Lib.hid hJ3
  have HC3 : Hid (Chg No w w3) := (HC2.out.alloc _).newer hc3 (fun i hi => (HJ.out.lt i hi).1)
  clear hJ3 hc3 HC2
  go_wp2_with fail
  refine (jappend_calls w3 _ w.heap.size j d w.heap.size _ ⟨#[97]⟩ (fun w => may_one w 97 (by decide)) true _ none 0 0 [] HJ3.out (Bytes.nil _) rfl (fun b hb => by cases hb) (by omega) (by rw [recF_small [] (by decide)]; simp [encF, recF_small [97] (by decide)]) (by rw [recF_small [97] (by decide)]; simp)).mono ?_
  rintro e w4 ⟨rfl, hJ4, hc4⟩
  have HJ4 := Lib.hid hJ4
  have HC4 : Hid (Chg No w w4) := HC3.out.newer hc4 (fun i hi => (HJ3.out.lt i hi).1)
  clear hJ4 hc4 HC3 HJ HJ3
  have hsz : (encF ([] ++ [[97]] ++ [[]])).length = 19 := by simp [encF, recF_small [97] (by decide), recF_small [] (by decide)]
  have HLEN : Hid (Calls Try.prog 20 #[.pointer (some ⟨j, 0, none⟩)] w4 fun e w' => e = .returned (.int .i64 2) ∧ w' = w4) := jlen_calls w4 _ _ j _ _ _ _ _ _ HJ4.out
  have HSIZ : Hid (Calls Try.prog 13 #[.pointer (some ⟨j, 0, none⟩)] w4 fun e w' => e = .returned (.int .i64 19) ∧ w' = w4) := by
    have h := jsize_calls w4 _ _ j _ _ _ _ _ _ HJ4.out
    rw [hsz] at h
    exact h
  clear hsz
  go_wp2_with (first | (go_at_call 20; refine HLEN.out.mono ?_; rintro e w' ⟨rfl, rfl⟩) | (go_at_call 13; refine HSIZ.out.mono ?_; rintro e w' ⟨rfl, rfl⟩))
  go_ret
  exact ⟨rfl, HC4.out⟩

set_option maxHeartbeats 1600000 in
theorem on_calls (w : World) (A : Option Addr) (n c : Nat) (xs : List UInt8) (hb : Bytes w (.slice A n c) xs) (hl : xs.length = n) (hn : n ≤ 4194304) :
    Calls Try.prog 9 #[.string ⟨#[102]⟩, .slice A n c] w fun e w' => ∃ d m nw AF nf cf, e = .returned (.pointer (some ⟨d, 0, none⟩)) ∧ DiskAt w' d m nw (some (⟨#[102]⟩, .slice AF nf cf)) ∧ OwnB w' w.heap.size (.slice AF nf cf) xs ∧ xs.length = nf ∧ nw < 9223372036840000000 ∧ w.heap.size ≤ d ∧ w.heap.size ≤ m ∧ Chg No w w' := by
  have HB := Lib.hid hb
  have HL := Lib.hid hl
  clear hb hl
  go_enter Try.func9, Try.ntmps9
  go_wp2_with fail
  refine (new_calls _).mono ?_
  rintro e w1 ⟨rfl, hD, hc⟩
  have HD := Lib.hid hD
  have HC := Lib.hid hc
  clear hD hc
  have hdw : w.heap.size ≤ w.heap.size + 1 := by omega
  generalize w.heap.size + 1 = d at *
  rcases Nat.eq_zero_or_pos n with rfl | hpos
  · have hx : xs = [] := List.eq_nil_of_length_eq_zero HL.out
    subst hx
    go_wp2_with fail
    refine (dappend_nil w1 d w.heap.size 0 ⟨#[102]⟩ (fun w => may_one w 102 (by decide)) A c HD.out (by omega)).mono ?_
    rintro e w2 ⟨rfl, hD2, hc2⟩
    have HD2 := Lib.hid hD2
    have HC2 : Hid (Chg No w w2) := HC.out.newer hc2 (fun i hi => by rcases hi with rfl | rfl; exact hdw; exact Nat.le_refl _)
    clear hD2 hc2
    go_wp2
    go_ret
    exact ⟨d, w.heap.size, 0 + 1, none, 0, 0, rfl, HD2.out, World.ownsRow_nil _ _ _ _, rfl, by omega, hdw, Nat.le_refl _, HC2.out⟩
  · go_wp2_with fail
    refine (dappend_first w1 w.heap.size d w.heap.size 0 ⟨#[102]⟩ (fun w => may_one w 102 (by decide)) A n c xs HD.out (by omega) (HB.out.no HC.out) HL.out hn hpos HC.out.size (fun b hb => ?_)).mono ?_
    · obtain ⟨b', o', rfl, hcc⟩ := HB.out.addr (by have := HL.out; omega)
      cases hb
      have : b' < w.heap.size := World.block_lt_of_cell? w _ (hcc 0 (by have := HL.out; omega))
      exact ⟨by show b' ≠ d; omega, by show b' ≠ _; omega, by simp [Value.ownBlock]⟩
    rintro e w2 ⟨rfl, v', hD2, ho2, hc2, -⟩
    obtain ⟨A2, n2, c2, rfl, HL2, HO2⟩ := ho2.form
    have HD2 := Lib.hid hD2
    have HC2 : Hid (Chg No w w2) := HC.out.newer hc2 (fun i hi => by
      rcases hi with rfl | rfl | e
      · exact hdw
      · exact Nat.le_refl _
      · cases e)
    clear hD2 hc2 ho2
    go_wp2
    go_ret
    exact ⟨d, w.heap.size, _, A2, n2, c2, rfl, HD2.out, HO2.out, HL2.out, by omega, hdw, Nat.le_refl _, HC2.out⟩
end Go.Proofs.Ytbbfjnfmfigcfaa
