/-
  ids, commits: are they the same?
-/
import Derived.Test.YtkmnkbmmgopldaaB8
import Derived.BigQuiet
namespace Go.Proofs.Ytkmnkbmmgopldaa
open Go.RowKit
set_option linter.unusedVariables false
set_option linter.unusedSimpArgs false
set_option maxRecDepth 100000

set_option maxHeartbeats 1600000 in
theorem ids_calls (w : World) (A : Option Addr) (n c : Nat) (xs : List Nat) (A' : Option Addr) (n' c' : Nat) (ys : List Nat) (h : Sl u64v w (.slice A n c) xs) (h' : Sl u64v w (.slice A' n' c') ys) (hn : n ≤ 9223372036854775807) :
    Calls Try.prog 43 #[.slice A n c, .slice A' n' c'] w fun e w' => e = .returned (.bool (decide (xs = ys))) ∧ Chg No w w' := by
  have HL := Lib.hid h.len
  have HL' := Lib.hid h'.len
  have H := Lib.hid h
  have H' := Lib.hid h'
  clear h h'
  by_cases hnn : n = n'
  · subst hnn
    go_enter Try.func43, Try.ntmps43
    go_wp2
    go_loopw [13] (fun i wr => ∃ k : Nat, k ≤ n ∧ i = .int .i64 (k : Int) ∧ Hid (xs.take k = ys.take k) ∧ Hid (Chg No w wr)) (fun i _ => n - (intOf i).toNat)
    case atStart => exact ⟨0, Nat.zero_le _, rfl, rfl, Chg.refl _ _⟩
    case round =>
      obtain ⟨k, hk, rfl, HN, HC⟩ := hrel
      by_cases hlt : k < n
      · obtain ⟨b, o, rfl, hcell⟩ := (H.out.no HC.out).addr (by rw [HL.out]; omega)
        obtain ⟨b', o', rfl, hcell'⟩ := (H'.out.no HC.out).addr (by rw [HL'.out]; omega)
        have hc := hcell k (by rw [HL.out]; exact hlt)
        have hc' := hcell' k (by rw [HL'.out]; exact hlt)
        have hT : xs.take (k + 1) = xs.take k ++ [xs[k]'(by rw [HL.out]; exact hlt)] := by rw [List.take_succ_eq_append_getElem]
        have hT' : ys.take (k + 1) = ys.take k ++ [ys[k]'(by rw [HL'.out]; exact hlt)] := by rw [List.take_succ_eq_append_getElem]
        generalize xs[k]'(by rw [HL.out]; exact hlt) = x at *
        generalize ys[k]'(by rw [HL'.out]; exact hlt) = y at *
        have HT := Lib.hid hT
        have HT' := Lib.hid hT'
        unfold u64v at hc hc'
        clear hcell hcell' hT hT'
        by_cases hx : x = y
        · subst hx
          go_wp2
          go_quiet (fail)
          go_wp2
          go_roundw
          case rel => exact ⟨k + 1, by omega, by simp, by rw [Hid, HT.out, HT'.out, HN.out], by first | exact HC.out | exact HC.out.drewN _⟩
          case measure => simp [intOf]; omega
        · have hb : ((x : Int) != (y : Int)) = true := by simp; omega
          have HF : Hid (decide (xs = ys) = false) := by
            rw [Hid, decide_eq_false_iff_not]
            rintro rfl
            have := HT.out.symm.trans HT'.out
            rw [List.append_cancel_left_eq, List.singleton_inj] at this
            exact hx this
          clear hx
          go_wp2
          go_quiet (fail)
          go_wp2
          go_ret
          exact ⟨by rw [HF.out]; rfl, by first | exact HC.out | exact HC.out.drewN _⟩
      · have hkn : k = n := by omega
        subst hkn
        have HF : Hid (decide (xs = ys) = true) := by
          rw [Hid, decide_eq_true_iff]
          have := HN.out
          rwa [List.take_of_length_le (by rw [HL.out]; exact Nat.le_refl _), List.take_of_length_le (by rw [HL'.out]; exact Nat.le_refl _)] at this
        go_wp2
        go_ret
        exact ⟨by rw [HF.out]; rfl, HC.out⟩
  · have hb : ((n : Int) != (n' : Int)) = true := by simp; omega
    have HF : Hid (decide (xs = ys) = false) := by
      rw [Hid, decide_eq_false_iff_not]
      rintro rfl
      exact hnn (HL.out.symm.trans HL'.out)
    clear hnn
    go_enter Try.func43, Try.ntmps43
    go_wp2
    go_ret
    exact ⟨by rw [HF.out]; rfl, Chg.refl _ _⟩

theorem beq_bytes (a b : ByteArray) : (a.toList == b.toList) = decide (a = b) := by
  rw [Lib.toList_data, Lib.toList_data]
  by_cases h : a = b
  · simp [h]
  · have : ¬ a.data.toList = b.data.toList := fun e => h (by rw [← mkS_self a, e, mkS_self])
    rw [beq_eq_false_iff_ne.2 this, decide_eq_false h]

set_option maxHeartbeats 3200000 in
theorem commits_calls (w : World) (t : Nat) (A : Option Addr) (n c : Nat) (ps : List Nat) (a : ByteArray) (d : Int) (x : ByteArray) (t' : Nat) (A' : Option Addr) (n' c' : Nat) (ps' : List Nat) (a' : ByteArray) (d' : Int) (x' : ByteArray)
    (h : Sl u64v w (.slice A n c) ps) (h' : Sl u64v w (.slice A' n' c') ps') (hn : n ≤ 9223372036854775807) :
    Calls Try.prog 18 #[.agg #[.int .u64 (t : Int), .slice A n c, .string a, .int .i64 d, .string x], .agg #[.int .u64 (t' : Int), .slice A' n' c', .string a', .int .i64 d', .string x']] w fun e w' => e = .returned (.bool (decide (t = t' ∧ ps = ps' ∧ a = a' ∧ d = d' ∧ x = x'))) ∧ Chg No w w' := by
  have HC : Hid (∀ w1, Chg No w w1 → Calls Try.prog 43 #[.slice A n c, .slice A' n' c'] w1 fun e w' => e = .returned (.bool (decide (ps = ps'))) ∧ Chg No w1 w') := fun w1 hc => ids_calls w1 A n c ps A' n' c' ps' (h.no hc) (h'.no hc) hn
  have b3 := beq_bytes a a'
  have b5 := beq_bytes x x'
  clear h h'
  generalize hz : decide (t = t' ∧ ps = ps' ∧ a = a' ∧ d = d' ∧ x = x') = z
  have HZ : Hid (z = (decide (t = t') && (decide (ps = ps') && (decide (a = a') && (decide (d = d') && decide (x = x')))))) := by
    rw [Hid, ← hz]; simp only [Bool.decide_and]
  clear hz
  generalize decide (ps = ps') = z2 at *
  generalize decide (a = a') = z3 at *
  generalize decide (x = x') = z5 at *
  by_cases h1 : t = t'
  · subst h1
    go_enter Try.func18, Try.ntmps18
    go_wp2_with fail
    refine (HC.out _ (((Chg.refl No w).alloc _).alloc _)).mono ?_
    rintro e w1 ⟨rfl, hc1⟩
    have C := fun (i : Nat) (u : Value) (hi : #[Value.int .u64 (t : Int), .slice A n c, .string a, .int .i64 d, .string x][i]? = some u) => hc1.cell (((Chg.refl No (w.alloc (.cells #[.int .u64 (t : Int), .slice A n c, .string a, .int .i64 d, .string x] 27))).alloc (.cells #[.int .u64 (t : Int), .slice A' n' c', .string a', .int .i64 d', .string x'] 27)).cell (cellAt (heap_alloc_new w (.cells #[.int .u64 (t : Int), .slice A n c, .string a, .int .i64 d, .string x] 27)) i u hi) (fun x => x)) (fun x => x)
    have C' := fun (i : Nat) (u : Value) (hi : #[Value.int .u64 (t : Int), .slice A' n' c', .string a', .int .i64 d', .string x'][i]? = some u) => hc1.cell (cellAt (heap_alloc_new (w.alloc (.cells #[.int .u64 (t : Int), .slice A n c, .string a, .int .i64 d, .string x] 27)) (.cells #[.int .u64 (t : Int), .slice A' n' c', .string a', .int .i64 d', .string x'] 27)) i u hi) (fun x => x)
    have c2 := C 2 (.string a) rfl
    have c3 := C 3 (.int .i64 d) rfl
    have c4 := C 4 (.string x) rfl
    have e2 := C' 2 (.string a') rfl
    have e3 := C' 3 (.int .i64 d') rfl
    have e4 := C' 4 (.string x') rfl
    simp only [World.size_alloc] at e2 e3 e4
    have HC1 : Hid (Chg No w w1) := (((Chg.refl No w).alloc _).alloc _).no hc1
    clear C C' hc1
    cases z2 with
    | false =>
      have HZ2 : Hid (z = false) := by rw [Hid, HZ.out]; simp
      go_wp2
      go_ret
      exact ⟨by rw [HZ2.out]; rfl, HC1.out⟩
    | true =>
      cases z3 with
      | false =>
        have HZ2 : Hid (z = false) := by rw [Hid, HZ.out]; simp
        go_wp2
        go_ret
        exact ⟨by rw [HZ2.out]; rfl, HC1.out⟩
      | true =>
        by_cases h4 : d = d'
        · subst h4
          have HZ2 : Hid (z = z5) := by rw [Hid, HZ.out]; simp
          go_wp2
          go_ret
          exact ⟨by rw [HZ2.out]; first | rfl | simp [b5], HC1.out⟩
        · have b4 : (d == d') = false := by simpa using h4
          have HZ2 : Hid (z = false) := by rw [Hid, HZ.out]; simp [h4]
          clear h4
          go_wp2
          go_ret
          exact ⟨by rw [HZ2.out]; rfl, HC1.out⟩
  · have b1 : ((t : Int) == (t' : Int)) = false := by simp; omega
    have HZ2 : Hid (z = false) := by rw [Hid, HZ.out]; simp [h1]
    clear h1
    go_enter Try.func18, Try.ntmps18
    go_wp2
    go_ret
    exact ⟨by rw [HZ2.out]; rfl, ((Chg.refl No w).alloc _).alloc _⟩
end Go.Proofs.Ytkmnkbmmgopldaa
