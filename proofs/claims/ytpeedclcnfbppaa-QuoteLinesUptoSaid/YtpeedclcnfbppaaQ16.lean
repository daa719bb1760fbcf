/-
  wakes, same.
-/
import Derived.Test.YtpeedclcnfbppaaQ15
namespace Go.Proofs.Ytpeedclcnfbppaa
open Go.RowKit
set_option linter.unusedVariables false
set_option linter.unusedSimpArgs false
set_option maxRecDepth 100000

theorem wake_p1 : plainF [109, 111, 118, 101] = true := by decide +kernel
theorem wake_p2 : plainF [97] = true := by decide +kernel
theorem wake_u : unqF [34, 98, 32, 99, 34] = some [98, 32, 99] := by decide +kernel
theorem wake_q : quoteF [9, 255] = [34, 92, 120, 48, 57, 92, 120, 102, 102, 34] := by decide +kernel
theorem wake_words : wordsF 0 [] [109, 111, 118, 101, 32, 32, 97, 32, 34, 98, 32, 99, 34, 32, 35, 32, 120] = .inr [[109, 111, 118, 101], [97], [98, 32, 99]] := by
  rw [words_plain _ _ _ _ (by decide) (by decide) (by decide)]
  simp only [show ([111, 118, 101, 32, 32, 97, 32, 34, 98, 32, 99, 34, 32, 35, 32, 120] : List UInt8).takeWhile (· ≠ 32) = [111, 118, 101] by decide]
  rw [if_pos wake_p1]
  simp only [List.length_cons, List.length_nil, List.drop_succ_cons, List.drop_zero, List.nil_append]
  rw [words_space, words_space, words_plain _ _ _ _ (by decide) (by decide) (by decide)]
  simp only [show ([32, 34, 98, 32, 99, 34, 32, 35, 32, 120] : List UInt8).takeWhile (· ≠ 32) = [] by decide]
  rw [if_pos wake_p2]
  simp only [List.length_cons, List.length_nil, List.drop_succ_cons, List.drop_zero, List.cons_append, List.nil_append]
  rw [words_space, words_q3 _ _ _ 4 [98, 32, 99] (by decide +kernel) (by decide) (by exact wake_u)]
  simp only [List.length_cons, List.length_nil, List.drop_succ_cons, List.drop_zero, List.cons_append, List.nil_append]
  rw [words_space, words_hash]

set_option maxHeartbeats 1600000 in
theorem wakes_calls (w : World) : Calls Try.prog 9 #[] w fun e w' => e = .returned (.bool true) ∧ Chg No w w' := by
  have HW : Hid (∀ w1, Calls Try.prog 10 #[.string ⟨#[109, 111, 118, 101, 32, 32, 97, 32, 34, 98, 32, 99, 34, 32, 35, 32, 120]⟩] w1 fun e w' => WordsR (w1.heap.size + 1) w' e (.inr [[109, 111, 118, 101], [97], [98, 32, 99]]) ∧ Chg No w1 w') := by
    intro w1
    have h := words_calls w1 ⟨#[109, 111, 118, 101, 32, 32, 97, 32, 34, 98, 32, 99, 34, 32, 35, 32, 120]⟩ (by decide)
    rw [wake_words] at h
    exact h
  have HQ : Hid (∀ w1, Calls Try.prog 13 #[.string ⟨#[9, 255]⟩] w1 fun e w' => e = .returned (.string ⟨#[34, 92, 120, 48, 57, 92, 120, 102, 102, 34]⟩) ∧ Chg No w1 w') := by
    intro w1
    have h := quote_calls w1 ⟨#[9, 255]⟩ (by decide)
    rw [wake_q] at h
    exact h
  go_enter Try.func9, Try.ntmps9
  go_wp2_with fail
  refine (HW.out _).mono ?_
  rintro e w1 ⟨⟨A, n, c, rfl, hl, ho⟩, hc1⟩
  subst hl
  have HC1 := Lib.hid hc1
  obtain ⟨h0, h2⟩ := ho
  rcases h2 with ⟨he, h00⟩ | ⟨g, cap, cur, he, hg, hh, hnn, hm, hcs, ht⟩
  · cases h00
  simp only [Value.slice.injEq] at he
  obtain ⟨rfl, -, rfl⟩ := he
  have hcell : w1.cell? ⟨g, 2, none⟩ = some (.string ⟨#[98, 32, 99]⟩) := by
    have : cur[2]? = some (.string ⟨#[98, 32, 99]⟩) := by
      have := congrArg (fun l : List Value => l[2]?) ht
      simp only [List.getElem?_take] at this
      simpa [strs, mkS] using this
    simp [World.cell?, hh, this]
  have hgl : g < w1.heap.size := by
    rcases Nat.lt_or_ge g w1.heap.size with h | h
    · exact h
    · simp [Array.getElem?_eq_none h] at hh
  have hcellA : ∀ o, (w1.alloc o).cell? ⟨g, 2, none⟩ = some (.string ⟨#[98, 32, 99]⟩) := fun o => ((Chg.refl No w1).alloc o).cell hcell (fun x => x)
  clear hc1 h0 ht hcs hh
  go_wp2_with fail
  refine (HQ.out _).mono ?_
  rintro e w2 ⟨rfl, hc2⟩
  have HC2 : Hid (Chg No w w2) := (HC1.out.alloc _).no hc2
  clear hc2
  go_wp2
  go_ret
  exact ⟨rfl, HC2.out⟩

theorem strs_len (ws : List (List UInt8)) : (strs ws).length = ws.length := by simp [strs]
theorem hold_addr {w : World} {A : Option Addr} {n c : Nat} {ws : List (List UInt8)} (h : Holds w (.slice A n c) n (strs ws)) (hl : ws.length = n) (hp : 0 < n) :
    ∃ b o, A = some ⟨b, o, none⟩ ∧ ∀ j (hj : j < ws.length), w.cell? ⟨b, o + j, none⟩ = some (.string (mkS ws[j])) := by
  obtain ⟨A', c', he, hn, hm, hx⟩ := h
  simp only [Value.slice.injEq, true_and] at he
  obtain ⟨rfl, rfl⟩ := he
  obtain ⟨b, o, rfl, hc⟩ := hx (by rw [strs_len]; omega)
  exact ⟨b, o, rfl, fun j hj => hc j _ (by simp [strs, hj])⟩

set_option maxHeartbeats 1600000 in
theorem same_calls (w : World) (A B : Option Addr) (n c m d : Nat) (xs ys : List (List UInt8)) (hx : Holds w (.slice A n c) n (strs xs)) (hxl : xs.length = n) (hy : Holds w (.slice B m d) m (strs ys)) (hyl : ys.length = m) (hn : n ≤ 9223372036854775807) (hm : m ≤ 9223372036854775807) :
    Calls Try.prog 12 #[.slice A n c, .slice B m d] w fun e w' => e = .returned (.bool (decide (xs = ys))) ∧ Chg No w w' := by
  by_cases hnm : n = m
  case neg =>
    have hb : ((n : Int) != (m : Int)) = true := by rw [bne_iff_ne]; omega
    have HU : Hid (decide (xs = ys) = false) := by
      rw [Hid, decide_eq_false_iff_not]
      intro h
      subst h
      omega
    clear hx hy hnm
    go_enter Try.func12, Try.ntmps12
    go_wp2
    go_ret
    exact ⟨by rw [HU.out]; rfl, Chg.refl _ _⟩
  subst hnm
  have HX := Lib.hid hx
  have HY := Lib.hid hy
  have HXL := Lib.hid hxl
  have HYL := Lib.hid hyl
  clear hx hy hxl hyl
  go_enter Try.func12, Try.ntmps12
  go_wp2
  go_loopw [13] (fun a wr => ∃ k : Nat, k ≤ n ∧ a = .int .i64 (k : Int) ∧ Hid (xs.take k = ys.take k) ∧ Hid (Chg No w wr)) (fun a _ => n - (intOf a).toNat)
  case atStart => exact ⟨0, Nat.zero_le _, rfl, by simp [Hid], Chg.refl No w⟩
  case round =>
    obtain ⟨k, hk, rfl, HT, HC⟩ := hrel
    by_cases hlt : k < n
    · have i1 : (k : Int) < (n : Int) := by omega
      have hp : 0 < n := by omega
      obtain ⟨b, o, rfl, hc⟩ := hold_addr (Holds.no HX.out HC.out) HXL.out hp
      obtain ⟨b', o', rfl, hc'⟩ := hold_addr (Holds.no HY.out HC.out) HYL.out hp
      have hkx : k < xs.length := by rw [HXL.out]; exact hlt
      have hky : k < ys.length := by rw [HYL.out]; exact hlt
      have hck := hc k hkx
      have hcky := hc' k hky
      have HNX : Hid (xs.take (k + 1) = xs.take k ++ [xs[k]]) := List.take_succ_eq_append_getElem hkx
      have HNY : Hid (ys.take (k + 1) = ys.take k ++ [ys[k]]) := List.take_succ_eq_append_getElem hky
      clear hc hc'
      have HEQ : Hid (xs = ys → xs[k] = ys[k]) := fun h => by subst h; rfl
      generalize xs[k] = X at *
      generalize ys[k] = Y at *
      by_cases he : X = Y
      · subst he
        have hb : ((mkS X).toList == (mkS X).toList) = true := by simp
        have HT1 : Hid (xs.take (k + 1) = ys.take (k + 1)) := by rw [Hid, HNX.out, HNY.out, HT.out]
        clear HEQ
        go_wp2
        go_region
        go_wp2
        go_roundw
        case rel => exact ⟨k + 1, by omega, by go_num, HT1.out, HC.out.drew⟩
        case measure => simp only [intOf]; omega
      · have hb : ((mkS X).toList == (mkS Y).toList) = false := by rw [beq_eq_false_iff_ne, Lib.toList_data, Lib.toList_data, mkS_list, mkS_list]; exact he
        have HU : Hid (decide (xs = ys) = false) := by rw [Hid, decide_eq_false_iff_not]; intro h; exact he (HEQ.out h)
        clear HEQ HNX HNY HT he
        go_wp2
        go_region
        go_wp2
        go_ret
        exact ⟨by rw [HU.out]; rfl, HC.out.drew⟩
    · have i1 : ¬ ((k : Int) < (n : Int)) := by omega
      have HU : Hid (decide (xs = ys) = true) := by
        have hkn : k = n := by omega
        have := HT.out
        rw [List.take_of_length_le (by rw [HXL.out]; omega), List.take_of_length_le (by rw [HYL.out]; omega)] at this
        rw [Hid, decide_eq_true_iff]; exact this
      clear HT
      go_wp2
      go_ret
      exact ⟨by rw [HU.out]; rfl, HC.out⟩
end Go.Proofs.Ytpeedclcnfbppaa
