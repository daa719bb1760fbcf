/-
  commit; Check of a commit.
-/
import Derived.Test.YtkmnkbmmgopldaaB2
import Derived.Test.YtkmnkbmmgopldaaRep2
namespace Go.Proofs.Ytkmnkbmmgopldaa
open Go.RowKit
set_option linter.unusedVariables false
set_option linter.unusedSimpArgs false
set_option maxRecDepth 100000

set_option maxHeartbeats 800000 in
theorem index_calls (w : World) (A : Option Addr) (n c : Nat) (xs : List Nat) (h : Sl u64v w (.slice A n c) xs) (hn : n ≤ 9223372036854775807) :
    Calls Try.prog 82 #[.slice A n c, .int .u64 0] w fun e w' => (∃ k : Int, e = .returned (.int .i64 k) ∧ (0 ≤ k ↔ 0 ∈ xs)) ∧ w' = w := by
  have HL := Lib.hid h.len
  have H := Lib.hid h
  clear h
  go_enter Try.func82, Try.ntmps82
  go_wp2
  go_loopw [8] (fun i wr => ∃ k : Nat, k ≤ n ∧ i = .int .i64 (k : Int) ∧ Hid (0 ∉ xs.take k) ∧ wr = w) (fun i _ => n - (intOf i).toNat)
  case atStart => exact ⟨0, Nat.zero_le _, rfl, by simp [Hid], rfl⟩
  case round =>
    obtain ⟨k, hk, rfl, HN, rfl⟩ := hrel
    by_cases hlt : k < n
    · obtain ⟨b, o, rfl, hcell⟩ := H.out.addr (by rw [HL.out]; omega)
      have hc := hcell k (by rw [HL.out]; exact hlt)
      have HT : Hid (xs.take (k + 1) = xs.take k ++ [xs[k]'(by rw [HL.out]; exact hlt)]) := by rw [Hid, List.take_succ_eq_append_getElem]
      have HM : Hid (xs[k]'(by rw [HL.out]; exact hlt) ∈ xs) := by rw [Hid]; exact List.getElem_mem _
      generalize xs[k]'(by rw [HL.out]; exact hlt) = x at *
      unfold u64v at hc
      clear hcell
      by_cases hx : x = 0
      · subst hx
        go_wp2
        go_ret
        exact ⟨⟨_, rfl, ⟨fun _ => HM.out, fun _ => by omega⟩⟩, rfl⟩
      · have hb : (0 : Int) ≠ (x : Int) := by omega
        have hb2 : ((0 : Int) == (x : Int)) = false := by rw [beq_eq_false_iff_ne]; exact hb
        have HX := Lib.hid hx
        clear hx
        go_wp2
        go_roundw
        case rel => exact ⟨k + 1, by omega, by simp, by rw [Hid, HT.out]; simp only [List.mem_append, List.mem_singleton]; rintro (h | h); exact HN.out h; exact HX.out h.symm, trivial⟩
        case measure => simp [intOf]; omega
    · have hkn : k = n := by omega
      subst hkn
      go_wp2
      go_ret
      refine ⟨⟨_, rfl, ⟨fun h => by omega, fun h => absurd h ?_⟩⟩, rfl⟩
      have := HN.out
      rwa [List.take_of_length_le (by rw [HL.out]; exact Nat.le_refl _)] at this
theorem contains_calls (w : World) (A : Option Addr) (n c : Nat) (xs : List Nat) (h : Sl u64v w (.slice A n c) xs) (hn : n ≤ 9223372036854775807) :
    Calls Try.prog 73 #[.slice A n c, .int .u64 0] w fun e w' => e = .returned (.bool (decide (0 ∈ xs))) ∧ w' = w := by
  go_enter Try.func73, Try.ntmps73
  go_wp2_with fail
  refine (index_calls w A n c xs h hn).mono ?_
  rintro e w1 ⟨⟨k, rfl, hk⟩, rfl⟩
  by_cases h0 : 0 ≤ k
  · have hb : decide (0 ∈ xs) = true := decide_eq_true (hk.1 h0)
    clear h hk
    go_wp2
    go_ret
    exact ⟨by rw [hb]; simp [h0], rfl⟩
  · have hb : decide (0 ∈ xs) = false := decide_eq_false (fun h => h0 (hk.2 h))
    clear h hk
    go_wp2
    go_ret
    exact ⟨by rw [hb]; simp [h0], rfl⟩

def commitF (t : Nat) (ps : List Nat) (a x : List UInt8) : Nat :=
  if t = 0 then 2 else if 8 < ps.length then 3 else if 0 ∈ ps then 2 else if 64 < a.length then 3 else if rightF a = false then 162 else if 1024 < x.length then 3 else if rightF x = false then 162 else 0

set_option maxHeartbeats 1600000 in
theorem commit_calls (w : World) (t : Nat) (A : Option Addr) (n c : Nat) (ps : List Nat) (a : ByteArray) (d : Int) (x : ByteArray) (h : Sl u64v w (.slice A n c) ps) (hn : n ≤ 9223372036854775807) (ha : a.size ≤ 9223372036854775807) (hx : x.size ≤ 9223372036854775807) :
    Calls Try.prog 41 #[.agg #[.int .u64 (t : Int), .slice A n c, .string a, .int .i64 d, .string x]] w fun e w' => e = .returned (.int .i64 (commitF t ps a.data.toList x.data.toList : Nat)) ∧ Chg No w w' := by
  have HL := Lib.hid h.len
  have H := Lib.hid h
  have HA := Lib.hid (size_list a)
  have HX := Lib.hid (size_list x)
  have HC : Hid (∀ w1, Chg No w w1 → Calls Try.prog 73 #[.slice A n c, .int .u64 0] w1 fun e w' => e = .returned (.bool (decide (0 ∈ ps))) ∧ w' = w1) := fun w1 hc => contains_calls w1 A n c ps (H.out.no hc) hn
  have hF : commitF t ps a.data.toList x.data.toList = if t = 0 then 2 else if 8 < n then 3 else if 0 ∈ ps then 2 else if 64 < a.size then 3 else if rightF a.data.toList = false then 162 else if 1024 < x.size then 3 else if rightF x.data.toList = false then 162 else 0 := by
    unfold commitF
    rw [HL.out, HA.out, HX.out]
  have HF := Lib.hid hF
  have HRA : Hid (∀ w1, Calls Try.prog 74 #[.string a] w1 fun e w' => e = .returned (.bool (rightF a.data.toList)) ∧ Chg No w1 w') := fun w1 => right_calls w1 a ha
  have HRX : Hid (∀ w1, Calls Try.prog 74 #[.string x] w1 fun e w' => e = .returned (.bool (rightF x.data.toList)) ∧ Chg No w1 w') := fun w1 => right_calls w1 x hx
  clear h hF
  generalize hra : rightF a.data.toList = ra at *
  generalize hrx : rightF x.data.toList = rx at *
  generalize commitF t ps a.data.toList x.data.toList = F at *
  generalize hz : decide (0 ∈ ps) = z at *
  have HZ := Lib.hid hz
  clear hra hrx hz
  by_cases h1 : t = 0
  · subst h1
    go_enter Try.func41, Try.ntmps41
    go_wp2
    go_ret
    exact ⟨by rw [HF.out]; rfl, (Chg.refl No w).alloc _⟩
  · have b1 : ((t : Int) == 0) = false := by simp; omega
    by_cases h2 : 8 < n
    · have b2 : (8 : Int) < (n : Int) := by omega
      have HF2 : Hid (F = 3) := by rw [Hid, HF.out, if_neg h1, if_pos h2]
      clear h1
      go_enter Try.func41, Try.ntmps41
      go_wp2
      go_ret
      exact ⟨by rw [HF2.out]; rfl, (Chg.refl No w).alloc _⟩
    · have b2 : ¬ (8 : Int) < (n : Int) := by omega
      have HF2 := Lib.hid (show F = _ by rw [HF.out, if_neg h1, if_neg h2])
      clear h1 h2 HF
      go_enter Try.func41, Try.ntmps41
      go_wp2_with fail
      refine (HC.out _ ((Chg.refl No w).alloc _)).mono ?_
      rintro e w1 ⟨rfl, rfl⟩
      cases z with
      | true =>
        have HF3 : Hid (F = 2) := by rw [Hid, HF2.out, if_pos (of_decide_eq_true HZ.out)]
        go_wp2
        go_ret
        exact ⟨by rw [HF3.out]; rfl, (Chg.refl No w).alloc _⟩
      | false =>
        have HF3 := Lib.hid (show F = _ by rw [HF2.out, if_neg (of_decide_eq_false HZ.out)])
        clear HF2
        by_cases h3 : 64 < a.size
        · have b3 : (64 : Int) < (a.size : Int) := by omega
          have HF4 : Hid (F = 3) := by rw [Hid, HF3.out, if_pos h3]
          go_wp2
          go_ret
          exact ⟨by rw [HF4.out]; rfl, (Chg.refl No w).alloc _⟩
        · have b3 : ¬ (64 : Int) < (a.size : Int) := by omega
          have HF4 := Lib.hid (show F = _ by rw [HF3.out, if_neg h3])
          clear h3 HF3
          go_wp2_with fail
          refine (HRA.out _).mono ?_
          rintro e w1 ⟨rfl, hc1⟩
          have HC1 : Hid (Chg No w w1) := ((Chg.refl No w).alloc _).no hc1
          have e1 := fun i u hu => hc1.cell (p := ⟨w.heap.size, i, none⟩) (u := u) hu (fun x => x)
          have f4 := e1 4 (.string x) (by rw [World.cell?, heap_alloc_new]; rfl)
          clear e1 hc1
          cases ra with
          | false =>
            have HF5 : Hid (F = 162) := by rw [Hid, HF4.out]; rfl
            go_wp2
            go_ret
            exact ⟨by rw [HF5.out]; rfl, HC1.out⟩
          | true =>
            have HF5 := Lib.hid (show F = _ by rw [HF4.out, if_neg (by simp)])
            clear HF4
            by_cases h5 : 1024 < x.size
            · have b5 : (1024 : Int) < (x.size : Int) := by omega
              have HF6 : Hid (F = 3) := by rw [Hid, HF5.out, if_pos h5]
              go_wp2
              go_ret
              exact ⟨by rw [HF6.out]; rfl, HC1.out⟩
            · have b5 : ¬ (1024 : Int) < (x.size : Int) := by omega
              have HF6 := Lib.hid (show F = _ by rw [HF5.out, if_neg h5])
              clear h5 HF5
              go_wp2_with fail
              refine (HRX.out _).mono ?_
              rintro e w2 ⟨rfl, hc2⟩
              have HC2 : Hid (Chg No w w2) := HC1.out.no hc2
              clear hc2
              cases rx with
              | false =>
                go_wp2
                go_ret
                exact ⟨by rw [HF6.out]; rfl, HC2.out⟩
              | true =>
                go_wp2
                go_ret
                exact ⟨by rw [HF6.out]; rfl, HC2.out⟩
set_option maxHeartbeats 800000 in
theorem check_commit (w : World) (t : Nat) (A : Option Addr) (n c : Nat) (ps : List Nat) (a : ByteArray) (d : Int) (x : ByteArray) (h : Sl u64v w (.slice A n c) ps) (hn : n ≤ 9223372036854775807) (ha : a.size ≤ 9223372036854775807) (hx : x.size ≤ 9223372036854775807) :
    Calls Try.prog 14 #[commitV (t : Int) (.slice A n c) a d x] w fun e w' => e = .returned (.int .i64 (commitF t ps a.data.toList x.data.toList : Nat)) ∧ Chg No w w' := by
  have fb := fun w => ta_commit_blob w
  have ft := fun w => ta_commit_tree w
  have fc := fun w => ta_commit_commit w
  have HC : Hid (∀ w1, Chg No w w1 → Calls Try.prog 41 #[.agg #[.int .u64 (t : Int), .slice A n c, .string a, .int .i64 d, .string x]] w1 fun e w' => e = .returned (.int .i64 (commitF t ps a.data.toList x.data.toList : Nat)) ∧ Chg No w1 w') := fun w1 hc => commit_calls w1 t A n c ps a d x (h.no hc) hn ha hx
  clear h
  go_enter Try.func14, Try.ntmps14
  go_wp2_with fail
  refine (HC.out _ ((Chg.refl No w).alloc _)).mono ?_
  rintro e w1 ⟨rfl, hc⟩
  go_wp2
  go_ret
  exact ⟨rfl, ((Chg.refl No w).alloc _).no hc⟩
end Go.Proofs.Ytkmnkbmmgopldaa
