/-
  Rules: what the statements ask of the layer: wakes, same.
-/
import Derived.Test.YtcomcoolmabmgaaDoorRl5
import Derived.Test.YtcomcoolmabmgaaDoorNm8
namespace Go.Proofs.YtcomcoolmabmgaaDoor
open Go.RowKit Go.Shelf
set_option linter.unusedVariables false
set_option linter.unusedSimpArgs false
set_option maxRecDepth 100000

theorem wake_read : readF [107, 101, 101, 112, 32, 115, 114, 99, 10, 109, 111, 118, 101, 32, 34, 97, 32, 98, 34, 32, 47, 32, 35, 32, 110, 111, 10, 10, 100, 114, 111, 112, 32, 115, 114, 99, 47, 120, 10] = ([(1, [115, 114, 99], []), (3, [97, 32, 98], []), (2, [115, 114, 99, 47, 120], [])], 0, 0) := by decide +kernel
theorem beq_bytes (a b : ByteArray) : (a.toList == b.toList) = decide (a = b) := by
  by_cases h : a = b
  · subst h; simp
  · rw [decide_eq_false h, beq_eq_false_iff_ne, Lib.toList_data, Lib.toList_data]
    intro e
    apply h
    rw [← mkS_self a, ← mkS_self b, e]
theorem rul_guard (q : BinOp) (hq : q = .eql ∨ q = .neq) (w : World) (x y : Operand) (xs ys : Array Value) : (eqGuard q 32 x y (.agg xs) (.agg ys)).run Tryd.prog w = .ok () w := by
  rcases hq with rfl | rfl
  · exact run_eqGuard_agg w _ _ _ _ _ _ (by kernel_rfl)
  · exact run_eqGuard_agg w _ _ _ _ _ _ (by kernel_rfl)
theorem rul_eql (w : World) (k k' : Int) (s s' t t' : ByteArray) : (binOp .eql 32 (.agg #[.int .i64 k, .string s, .string t]) (.agg #[.int .i64 k', .string s', .string t'])).run Tryd.prog w = .ok (.bool (decide (k = k' ∧ s = s' ∧ t = t'))) w := by
  have hs := beq_bytes s s'
  have ht := beq_bytes t t'
  rw [run_eql_struct, run_equalIn_agg w _ _ _ _ Tryd.underlying32 (by kernel_rfl)]
  go_simp
  by_cases h1 : k = k'
  · by_cases h2 : s = s'
    · by_cases h3 : t = t'
      · simp [h1, h2, h3]
      · simp [h1, h2, h3]
    · simp [h1, h2]
  · simp [h1]
theorem rul_neq (w : World) (k k' : Int) (s s' t t' : ByteArray) : (binOp .neq 32 (.agg #[.int .i64 k, .string s, .string t]) (.agg #[.int .i64 k', .string s', .string t'])).run Tryd.prog w = .ok (.bool (!decide (k = k' ∧ s = s' ∧ t = t'))) w := by
  have hs := beq_bytes s s'
  have ht := beq_bytes t t'
  rw [run_neq_struct, run_equalIn_agg w _ _ _ _ Tryd.underlying32 (by kernel_rfl)]
  go_simp
  by_cases h1 : k = k'
  · by_cases h2 : s = s'
    · by_cases h3 : t = t'
      · simp [h1, h2, h3]
      · simp [h1, h2, h3]
    · simp [h1, h2]
  · simp [h1]
set_option maxHeartbeats 6400000 in
theorem rwakes_calls (w : World) : Calls Tryd.prog 8 #[] w fun e w' => e = .returned (.bool true) ∧ Chg No w w' := by
  have sg := fun w x y xs ys => spot_guard w x y xs ys
  have se := fun w a b c d => spot_eq w a b c d
  have rg := fun w x y xs ys => rul_guard .eql (.inl rfl) w x y xs ys
  have re := fun w k k' s s' t t' => rul_eql w k k' s s' t t'
  have HRD : Hid (∀ w1, Calls Tryd.prog 9 #[.string ⟨#[107, 101, 101, 112, 32, 115, 114, 99, 10, 109, 111, 118, 101, 32, 34, 97, 32, 98, 34, 32, 47, 32, 35, 32, 110, 111, 10, 10, 100, 114, 111, 112, 32, 115, 114, 99, 47, 120, 10]⟩] w1 fun e w' => ReadAllR w1.heap.size w' e ([(1, [115, 114, 99], []), (3, [97, 32, 98], []), (2, [115, 114, 99, 47, 120], [])], 0, 0) ∧ Chg No w1 w') := by
    intro w1
    have h := readall_calls w1 ⟨#[107, 101, 101, 112, 32, 115, 114, 99, 10, 109, 111, 118, 101, 32, 34, 97, 32, 98, 34, 32, 47, 32, 35, 32, 110, 111, 10, 10, 100, 114, 111, 112, 32, 115, 114, 99, 47, 120, 10]⟩ (by decide)
    rw [show ((⟨#[107, 101, 101, 112, 32, 115, 114, 99, 10, 109, 111, 118, 101, 32, 34, 97, 32, 98, 34, 32, 47, 32, 35, 32, 110, 111, 10, 10, 100, 114, 111, 112, 32, 115, 114, 99, 47, 120, 10]⟩ : ByteArray).data.toList) = [107, 101, 101, 112, 32, 115, 114, 99, 10, 109, 111, 118, 101, 32, 34, 97, 32, 98, 34, 32, 47, 32, 35, 32, 110, 111, 10, 10, 100, 114, 111, 112, 32, 115, 114, 99, 47, 120, 10] from rfl, wake_read] at h
    exact h
  go_enter Tryd.func8, Tryd.ntmps8
  go_wp2_with fail
  refine (HRD.out _).mono ?_
  rintro e w1 ⟨⟨A, n, c, he, ho⟩, hc1⟩
  simp only at he ho
  subst he
  have hn : 3 = n := ho.len
  subst hn
  obtain ⟨b, o, rfl, hcell⟩ := ho.rs.addr (by decide)
  obtain ⟨c0, c1, c2⟩ := hcell 1 (by decide)
  simp only [List.getElem_cons_succ, List.getElem_cons_zero, Nat.one_mul] at c0 c1 c2
  have ca0 : ∀ o', (w1.alloc o').cell? ⟨b, o + 3, none⟩ = some (.int .i64 3) := fun o' => ((Chg.refl No w1).alloc o').cell c0 (fun x => x)
  have ca1 : ∀ o', (w1.alloc o').cell? ⟨b, o + 3 + 1, none⟩ = some (.string ⟨#[97, 32, 98]⟩) := fun o' => ((Chg.refl No w1).alloc o').cell c1 (fun x => x)
  have ca2 : ∀ o', (w1.alloc o').cell? ⟨b, o + 3 + 2, none⟩ = some (.string ⟨#[]⟩) := fun o' => ((Chg.refl No w1).alloc o').cell c2 (fun x => x)
  have HC1 := Lib.hid hc1
  clear hc1 hcell c0 c1 c2 ho
  go_wp2
  go_ret
  exact ⟨by simp, by first | exact HC1.out.alloc _ | exact (HC1.out.alloc _).drew⟩

set_option maxHeartbeats 6400000 in
theorem rsame_calls (w : World) (A : Option Addr) (n c : Nat) (xs : List Rul) (A' : Option Addr) (n' c' : Nat) (ys : List Rul) (h : Rs w (.slice A n c) xs) (h' : Rs w (.slice A' n' c') ys) (hn : n ≤ 9223372036854775807) :
    Calls Tryd.prog 11 #[.slice A n c, .slice A' n' c'] w fun e w' => e = .returned (.bool (decide (xs = ys))) ∧ Chg No w w' := by
  have eg := fun w x y xs ys => rul_guard .neq (.inr rfl) w x y xs ys
  have en := fun w k k' s s' t t' => rul_neq w k k' s s' t t'
  have HL := Lib.hid h.len
  have HL' := Lib.hid h'.len
  have H := Lib.hid h
  have H' := Lib.hid h'
  clear h h'
  by_cases hnn : n = n'
  · subst hnn
    go_enter Tryd.func11, Tryd.ntmps11
    go_wp2
    go_loopw [13] (fun i wr => ∃ k : Nat, k ≤ n ∧ i = .int .i64 (k : Int) ∧ Hid (xs.take k = ys.take k) ∧ Hid (Chg No w wr)) (fun i _ => n - (intOf i).toNat)
    case atStart => exact ⟨0, Nat.zero_le _, rfl, rfl, Chg.refl _ _⟩
    case round =>
      obtain ⟨k, hk, rfl, HN, HC⟩ := hrel
      by_cases hlt : k < n
      · obtain ⟨b, o, rfl, hcell⟩ := (H.out.no HC.out).addr (by rw [HL.out]; omega)
        obtain ⟨b', o', rfl, hcell'⟩ := (H'.out.no HC.out).addr (by rw [HL'.out]; omega)
        obtain ⟨c0, c1, c2⟩ := hcell k (by rw [HL.out]; exact hlt)
        obtain ⟨d0, d1, d2⟩ := hcell' k (by rw [HL'.out]; exact hlt)
        have hT : xs.take (k + 1) = xs.take k ++ [xs[k]'(by rw [HL.out]; exact hlt)] := by rw [List.take_succ_eq_append_getElem]
        have hT' : ys.take (k + 1) = ys.take k ++ [ys[k]'(by rw [HL'.out]; exact hlt)] := by rw [List.take_succ_eq_append_getElem]
        generalize xs[k]'(by rw [HL.out]; exact hlt) = x at *
        generalize ys[k]'(by rw [HL'.out]; exact hlt) = y at *
        have HT := Lib.hid hT
        have HT' := Lib.hid hT'
        obtain ⟨s, f, id⟩ := x
        obtain ⟨s', f', id'⟩ := y
        simp only at c0 c1 c2 d0 d1 d2
        clear hcell hcell' hT hT'
        by_cases hx : s = s' ∧ mkS f = mkS f' ∧ mkS id = mkS id'
        · have HX := Lib.hid hx
          have hb : decide (s = s' ∧ mkS f = mkS f' ∧ mkS id = mkS id') = true := decide_eq_true hx
          clear hx
          go_wp2
          go_quiet (fail)
          go_wp2
          go_roundw
          case rel => exact ⟨k + 1, by omega, by simp, by rw [Hid, HT.out, HT'.out, HN.out, HX.out.1, mkS_inj HX.out.2.1, mkS_inj HX.out.2.2], by first | exact HC.out | exact HC.out.drewN _⟩
          case measure => simp [intOf]; omega
        · have hb : decide (s = s' ∧ mkS f = mkS f' ∧ mkS id = mkS id') = false := decide_eq_false hx
          have HF : Hid (decide (xs = ys) = false) := by
            rw [Hid, decide_eq_false_iff_not]
            rintro rfl
            have := HT.out.symm.trans HT'.out
            rw [List.append_cancel_left_eq, List.singleton_inj] at this
            simp only [Prod.mk.injEq] at this
            exact hx ⟨this.1, by rw [this.2.1], by rw [this.2.2]⟩
          clear hx
          go_wp2
          go_quiet (fail)
          go_wp2
          go_ret
          exact ⟨by rw [HF.out]; rfl, by first | exact HC.out | exact HC.out.drewN _⟩
      · have hkn : k = n := by omega
        subst hkn
        have HF : Hid (decide (xs = ys) = true) := by
          rw [Hid, decide_eq_true_iff]
          have := HN.out
          rwa [List.take_of_length_le (by rw [HL.out]; exact Nat.le_refl _), List.take_of_length_le (by rw [HL'.out]; exact Nat.le_refl _)] at this
        go_wp2
        go_ret
        exact ⟨by rw [HF.out]; rfl, HC.out⟩
  · have hb : ((n : Int) != (n' : Int)) = true := by simp; omega
    have HF : Hid (decide (xs = ys) = false) := by
      rw [Hid, decide_eq_false_iff_not]
      rintro rfl
      exact hnn (HL.out.symm.trans HL'.out)
    clear hnn
    go_enter Tryd.func11, Tryd.ntmps11
    go_wp2
    go_ret
    exact ⟨by rw [HF.out]; rfl, Chg.refl _ _⟩
end Go.Proofs.YtcomcoolmabmgaaDoor
