/-
  The reference's Lines.
-/
import Derived.Test.YtcomcoolmabmgaaDoorL1
namespace Go.Proofs.YtcomcoolmabmgaaDoor
open Go.RowKit
set_option linter.unusedVariables false
set_option linter.unusedSimpArgs false
set_option maxRecDepth 100000

theorem firstL_app (a u : List UInt8) (h : ∀ b ∈ a, b ≠ 10) : firstL (a ++ 10 :: u) = a := by
  induction a with
  | nil => simp [firstL]
  | cons c t ih =>
    have := ih (fun b hb => h b (by simp [hb]))
    unfold firstL at this ⊢
    rw [List.cons_append, List.takeWhile_cons_of_pos (by simpa using h c (by simp)), this]
theorem restL_app (a u : List UInt8) (h : ∀ b ∈ a, b ≠ 10) : restL (a ++ 10 :: u) = u := by
  rw [restL, firstL_app a u h]
  simp
theorem firstL_all (a : List UInt8) (h : ∀ b ∈ a, b ≠ 10) : firstL a = a := by
  induction a with
  | nil => rfl
  | cons c t ih =>
    have := ih (fun b hb => h b (by simp [hb]))
    unfold firstL at this ⊢
    rw [List.takeWhile_cons_of_pos (by simpa using h c (by simp)), this]
theorem linesF_app (a u : List UInt8) (h : ∀ b ∈ a, b ≠ 10) : linesF (a ++ 10 :: u) = a :: linesF u := by
  rw [linesF_cons _ (by simp), firstL_app a u h, restL_app a u h]
theorem linesF_one (a : List UInt8) (ha : a ≠ []) (h : ∀ b ∈ a, b ≠ 10) : linesF a = [a] := by
  rw [linesF_cons _ ha, firstL_all a h]
  have : restL a = [] := by rw [restL, firstL_all a h]; exact List.drop_of_length_le (by omega)
  rw [this, linesF_nil]

set_option maxHeartbeats 3200000 in
theorem rlines_calls (w : World) (s : ByteArray) (hs : s.size ≤ 1048576) :
    Calls Tryd.prog 24 #[.string s] w fun e w' => (∃ A n c, e = .returned (.slice A n c) ∧ (linesF s.data.toList).length = n ∧ w'.ownsRow w.heap.size 9 1 (.slice A n c) n (strs (linesF s.data.toList))) ∧ Chg No w w' := by
  have HS := Lib.hid (size_list s)
  go_enter Tryd.func24, Tryd.ntmps24
  go_wp2
  go_loopw [3, 4, 5] (fun v f i wr => ∃ (k p n : Nat) (A : Option Addr) (c : Nat) (ws : List (List UInt8)), p ≤ k ∧ k ≤ s.size ∧ f = .int .i64 (p : Int) ∧ i = .int .i64 (k : Int) ∧ v = .slice A n c ∧ n ≤ p ∧ Hid (wr.ownsRow w.heap.size 9 1 (.slice A n c) n (strs ws)) ∧ Hid (ws.length = n) ∧ w.heap.size ≤ wr.heap.size ∧ Hid (linesF s.data.toList = ws ++ linesF (s.data.toList.drop p)) ∧ Hid (∀ b ∈ (s.data.toList.drop p).take (k - p), b ≠ 10) ∧ Hid (Chg No w wr)) (fun _ _ i _ => s.size - (intOf i).toNat)
  case atStart => exact ⟨0, 0, 0, none, 0, [], Nat.le_refl _, Nat.zero_le _, rfl, rfl, rfl, Nat.le_refl _, World.ownsRow_nil _ _ _ _, rfl, Nat.le_refl _, rfl, (by intro b hb; simp at hb), Chg.refl _ _⟩
  case round =>
    obtain ⟨k, p, n, A, c, ws, hpk, hks, rfl, rfl, rfl, hnp, HO, HL, hsz, HW, HN, HC⟩ := hrel
    by_cases hlt : k < s.size
    · have i1 : (k : Int) < (s.size : Int) := by omega
      obtain ⟨x, hx⟩ : ∃ x, s[k] = x := ⟨_, rfl⟩
      have HD : Hid (s.data.toList.drop k = x :: s.data.toList.drop (k + 1)) := by
        rw [Hid, List.drop_eq_getElem_cons (by rw [HS.out]; omega), ← hx]; rfl
      have HSP : Hid (s.data.toList.drop p = (s.data.toList.drop p).take (k - p) ++ s.data.toList.drop k) := by
        have h := List.take_append_drop (k - p) (s.data.toList.drop p)
        rw [List.drop_drop] at h
        have e : p + (k - p) = k := by omega
        rw [e] at h
        exact h.symm
      by_cases h10 : x = 10
      · subst h10
        have hi1 : (p : Int) ≤ (k : Int) := by omega
        have hi2 : (k : Int) ≤ (s.size : Int) := by omega
        have hX : Hid (s.extract p k = mkS ((s.data.toList.drop p).take (k - p))) := by
          rw [Hid, ← mkS_self (s.extract p k), ByteArray.data_extract, Array.toList_extract, List.extract_eq_take_drop]
        have HW1 : Hid (linesF s.data.toList = (ws ++ [(s.data.toList.drop p).take (k - p)]) ++ linesF (s.data.toList.drop (k + 1))) := by
          have h1 := linesF_app ((s.data.toList.drop p).take (k - p)) (s.data.toList.drop (k + 1)) HN.out
          rw [← HD.out, ← HSP.out] at h1
          rw [Hid, HW.out, h1]; simp
        generalize (s.data.toList.drop p).take (k - p) = x at hX HW1
        clear HW HD HSP HN
        go_wp2_with (at_builtin; (refine wpList_app _ rfl (.tmp 16) (.tmp 21) 43 43 rfl w.heap.size 9 (.string ⟨#[]⟩) 1 16 infoStr Tryd.underlying43 rfl (by decide) (.slice A n c) (.slice (some ⟨wr.heap.size, 0, none⟩) 1 1) n 1 (strs ws) [.string (s.extract p k)] rfl rfl ?own ?src ?b1 ?b2 ?b3 ?_; (case own => exact own_chg HO.out ((Chg.refl No _).alloc _) (fun _ _ x => x)); (case src => exact Src.one Tryd.underlying43 _ rfl); (case b1 => omega); (case b2 => unfold maxLen; omega); (case b3 => simp; omega); intro v' w1 hown hg; refine Hid.out ?_))
        refine Lib.hid ?_
        obtain ⟨A', c', rfl⟩ := own_form hown
        have HO' : Hid (w1.ownsRow w.heap.size 9 1 (.slice A' (n + 1) c') (n + 1) (strs (ws ++ [x]))) := by rw [Hid, strs, List.map_append]; simp only [List.map_cons, List.map_nil, ← hX.out]; exact hown
        have HL' : Hid ((ws ++ [x]).length = n + 1) := by rw [Hid, List.length_append, HL.out]; rfl
        have HC1 : Hid (Chg No w w1) := ((HC.out).alloc _).grown hg (fun k hk => .inl ((World.ownsRow.lt HO.out) k hk).1)
        clear hown hg
        go_wp2
        go_roundw
        case rel => exact ⟨k + 1, k + 1, n + 1, A', c', ws ++ [x], Nat.le_refl _, by omega, by go_num, by go_num, rfl, by omega, HO'.out, HL'.out, HC1.out.size, HW1.out, by intro b hb; rw [Nat.sub_self] at hb; simp at hb, HC1.out⟩
        case measure => simp only [intOf]; omega
      · have hb10 : ((x.toNat : Int) == 10) = false := beq_eq_false_iff_ne.2 (fun h => h10 (UInt8.toNat_inj.1 (Int.ofNat.inj h)))
        have HN1 : Hid (∀ b ∈ (s.data.toList.drop p).take (k + 1 - p), b ≠ 10) := by
          intro b hb
          have e : k + 1 - p = (k - p) + 1 := by omega
          rw [e, List.take_succ_eq_append_getElem (by rw [List.length_drop, HS.out]; omega)] at hb
          rcases List.mem_append.1 hb with hb | hb
          · exact HN.out b hb
          · simp only [List.mem_singleton] at hb
            rw [hb, List.getElem_drop]
            have e2 : p + (k - p) = k := by omega
            simp only [e2]
            intro h
            apply h10
            rw [← hx, ← h]; rfl
        clear HD HSP HN h10
        go_wp2
        go_roundw
        case rel => exact ⟨k + 1, p, n, A, c, ws, by omega, by omega, by go_num, by go_num, rfl, by omega, HO.out, HL.out, hsz, HW.out, HN1.out, HC.out⟩
        case measure => simp only [intOf]; omega
    · have i1 : ¬ ((k : Int) < (s.size : Int)) := by omega
      have HN1 : Hid (∀ b ∈ s.data.toList.drop p, b ≠ 10) := by
        have := HN.out
        rw [List.take_of_length_le (by rw [List.length_drop, HS.out]; omega)] at this
        exact this
      clear HN
      by_cases hp : p < s.size
      · have j1 : (p : Int) < (s.size : Int) := by omega
        have j2 : (p : Int) ≤ (s.size : Int) := by omega
        have hX : Hid (s.extract p s.size = mkS (s.data.toList.drop p)) := by
          rw [Hid, ← mkS_self (s.extract p s.size), ByteArray.data_extract, Array.toList_extract, List.extract_eq_take_drop, List.take_of_length_le (by rw [List.length_drop, HS.out]; omega)]
        have HW1 : Hid (linesF s.data.toList = ws ++ [s.data.toList.drop p]) := by
          rw [Hid, HW.out, linesF_one _ (List.ne_nil_of_length_pos (by rw [List.length_drop, HS.out]; omega)) HN1.out]
        generalize s.data.toList.drop p = x at hX HW1
        clear HW HN1
        go_wp2_with (at_builtin; (refine wpList_app _ rfl (.tmp 29) (.tmp 33) 43 43 rfl w.heap.size 9 (.string ⟨#[]⟩) 1 16 infoStr Tryd.underlying43 rfl (by decide) (.slice A n c) (.slice (some ⟨wr.heap.size, 0, none⟩) 1 1) n 1 (strs ws) [.string (s.extract p s.size)] rfl rfl ?own ?src ?b1 ?b2 ?b3 ?_; (case own => exact own_chg HO.out ((Chg.refl No _).alloc _) (fun _ _ x => x)); (case src => exact Src.one Tryd.underlying43 _ rfl); (case b1 => omega); (case b2 => unfold maxLen; omega); (case b3 => simp; omega); intro v' w1 hown hg; refine Hid.out ?_))
        refine Lib.hid ?_
        obtain ⟨A', c', rfl⟩ := own_form hown
        have HO' : Hid (w1.ownsRow w.heap.size 9 1 (.slice A' (n + 1) c') (n + 1) (strs (ws ++ [x]))) := by rw [Hid, strs, List.map_append]; simp only [List.map_cons, List.map_nil, ← hX.out]; exact hown
        have HL' : Hid ((ws ++ [x]).length = n + 1) := by rw [Hid, List.length_append, HL.out]; rfl
        have HC1 : Hid (Chg No w w1) := ((HC.out).alloc _).grown hg (fun k hk => .inl ((World.ownsRow.lt HO.out) k hk).1)
        clear hown hg
        go_wp2
        go_ret
        rw [HW1.out]
        exact ⟨⟨A', n + 1, c', rfl, HL'.out, HO'.out⟩, HC1.out⟩
      · have j1 : ¬ ((p : Int) < (s.size : Int)) := by omega
        have HW1 : Hid (linesF s.data.toList = ws) := by
          rw [Hid, HW.out, List.drop_of_length_le (by rw [HS.out]; omega), linesF_nil, List.append_nil]
        clear HW HN1
        go_wp2
        go_ret
        rw [HW1.out]
        exact ⟨⟨A, n, c, rfl, HL.out, HO.out⟩, HC.out⟩
end Go.Proofs.YtcomcoolmabmgaaDoor
