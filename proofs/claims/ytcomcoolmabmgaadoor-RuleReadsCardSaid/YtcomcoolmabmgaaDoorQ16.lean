/-
  wakes, same.
-/
import Derived.Test.YtcomcoolmabmgaaDoorQ15
namespace Go.Proofs.YtcomcoolmabmgaaDoor
open Go.RowKit
set_option linter.unusedVariables false
set_option linter.unusedSimpArgs false
set_option maxRecDepth 100000

theorem wake_p1 : plainF [109, 111, 118, 101] = true := by decide +kernel
theorem wake_p2 : plainF [97] = true := by decide +kernel
theorem wake_u : unqF [34, 98, 32, 99, 34] = some [98, 32, 99] := by decide +kernel
theorem wake_q : quoteF [9, 255] = [34, 92, 120, 48, 57, 92, 120, 102, 102, 34] := by decide +kernel
theorem wake_words : wordsF 0 [] [109, 111, 118, 101, 32, 32, 97, 32, 34, 98, 32, 99, 34, 32, 35, 32, 120] = .inr [[109, 111, 118, 101], [97], [98, 32, 99]] := by
  rw [words_plain _ _ _ _ (by decide) (by decide) (by decide)]
  simp only [show ([111, 118, 101, 32, 32, 97, 32, 34, 98, 32, 99, 34, 32, 35, 32, 120] : List UInt8).takeWhile (· ≠ 32) = [111, 118, 101] by decide]
  rw [if_pos wake_p1]
  simp only [List.length_cons, List.length_nil, List.drop_succ_cons, List.drop_zero, List.nil_append]
  rw [words_space, words_space, words_plain _ _ _ _ (by decide) (by decide) (by decide)]
  simp only [show ([32, 34, 98, 32, 99, 34, 32, 35, 32, 120] : List UInt8).takeWhile (· ≠ 32) = [] by decide]
  rw [if_pos wake_p2]
  simp only [List.length_cons, List.length_nil, List.drop_succ_cons, List.drop_zero, List.cons_append, List.nil_append]
  rw [words_space, words_q3 _ _ _ 4 [98, 32, 99] (by decide +kernel) (by decide) (by exact wake_u)]
  simp only [List.length_cons, List.length_nil, List.drop_succ_cons, List.drop_zero, List.cons_append, List.nil_append]
  rw [words_space, words_hash]

set_option maxHeartbeats 1600000 in
theorem wakes_calls (w : World) : Calls Tryd.prog 20 #[] w fun e w' => e = .returned (.bool true) ∧ Chg No w w' := by
  have HW : Hid (∀ w1, Calls Tryd.prog 18 #[.string ⟨#[109, 111, 118, 101, 32, 32, 97, 32, 34, 98, 32, 99, 34, 32, 35, 32, 120]⟩] w1 fun e w' => WordsR (w1.heap.size + 1) w' e (.inr [[109, 111, 118, 101], [97], [98, 32, 99]]) ∧ Chg No w1 w') := by
    intro w1
    have h := words_calls w1 ⟨#[109, 111, 118, 101, 32, 32, 97, 32, 34, 98, 32, 99, 34, 32, 35, 32, 120]⟩ (by decide)
    rw [wake_words] at h
    exact h
  have HQ : Hid (∀ w1, Calls Tryd.prog 19 #[.string ⟨#[9, 255]⟩] w1 fun e w' => e = .returned (.string ⟨#[34, 92, 120, 48, 57, 92, 120, 102, 102, 34]⟩) ∧ Chg No w1 w') := by
    intro w1
    have h := quote_calls w1 ⟨#[9, 255]⟩ (by decide)
    rw [wake_q] at h
    exact h
  go_enter Tryd.func20, Tryd.ntmps20
  go_wp2_with fail
  refine (HW.out _).mono ?_
  rintro e w1 ⟨⟨A, n, c, rfl, hl, ho⟩, hc1⟩
  subst hl
  have HC1 := Lib.hid hc1
  obtain ⟨h0, h2⟩ := ho
  rcases h2 with ⟨he, h00⟩ | ⟨g, cap, cur, he, hg, hh, hnn, hm, hcs, ht⟩
  · cases h00
  simp only [Value.slice.injEq] at he
  obtain ⟨rfl, -, rfl⟩ := he
  have hcell : w1.cell? ⟨g, 2, none⟩ = some (.string ⟨#[98, 32, 99]⟩) := by
    have : cur[2]? = some (.string ⟨#[98, 32, 99]⟩) := by
      have := congrArg (fun l : List Value => l[2]?) ht
      simp only [List.getElem?_take] at this
      simpa [strs, mkS] using this
    simp [World.cell?, hh, this]
  have hgl : g < w1.heap.size := by
    rcases Nat.lt_or_ge g w1.heap.size with h | h
    · exact h
    · simp [Array.getElem?_eq_none h] at hh
  have hcellA : ∀ o, (w1.alloc o).cell? ⟨g, 2, none⟩ = some (.string ⟨#[98, 32, 99]⟩) := fun o => ((Chg.refl No w1).alloc o).cell hcell (fun x => x)
  clear hc1 h0 ht hcs hh
  go_wp2_with fail
  refine (HQ.out _).mono ?_
  rintro e w2 ⟨rfl, hc2⟩
  have HC2 : Hid (Chg No w w2) := (HC1.out.alloc _).no hc2
  clear hc2
  go_wp2
  go_ret
  exact ⟨rfl, HC2.out⟩

theorem strs_len (ws : List (List UInt8)) : (strs ws).length = ws.length := by simp [strs]
theorem hold_addr {w : World} {A : Option Addr} {n c : Nat} {ws : List (List UInt8)} (h : Holds w (.slice A n c) n (strs ws)) (hl : ws.length = n) (hp : 0 < n) :
    ∃ b o, A = some ⟨b, o, none⟩ ∧ ∀ j (hj : j < ws.length), w.cell? ⟨b, o + j, none⟩ = some (.string (mkS ws[j])) := by
  obtain ⟨A', c', he, hn, hm, hx⟩ := h
  simp only [Value.slice.injEq, true_and] at he
  obtain ⟨rfl, rfl⟩ := he
  obtain ⟨b, o, rfl, hc⟩ := hx (by rw [strs_len]; omega)
  exact ⟨b, o, rfl, fun j hj => hc j _ (by simp [strs, hj])⟩

end Go.Proofs.YtcomcoolmabmgaaDoor
