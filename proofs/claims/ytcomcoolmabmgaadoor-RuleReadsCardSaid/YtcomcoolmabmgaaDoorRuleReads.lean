/-
  RuleReads: the walk.
-/
import Derived.Test.YtcomcoolmabmgaaDoorRl6
namespace Go.Proofs.YtcomcoolmabmgaaDoor
open Go.RowKit Go.Shelf
set_option linter.unusedVariables false
set_option linter.unusedSimpArgs false
set_option maxRecDepth 100000

set_option maxHeartbeats 6400000 in
theorem ruleReads_core (w : World) (s : ByteArray) (hs : s.size ≤ 140737488351232) : Calls Tryd.prog 3 #[.string s] w fun e w' => e = .returned (.bool true) ∧ Chg No w w' := by
  have sg := fun w x y xs ys => spot_guard w x y xs ys
  have se := fun w a b c d => spot_eq w a b c d
  have HWK := Lib.hid fun w => rwakes_calls w
  have HRD := Lib.hid fun w => readall_calls w s (by omega)
  have HRR := Lib.hid fun w => rreadall_calls w s (by omega)
  obtain ⟨⟨l, e0, q0⟩, hR⟩ : ∃ R, R = readF s.data.toList := ⟨_, rfl⟩
  rw [← hR] at HRD HRR
  clear hR hs
  go_enter Tryd.func3, Tryd.ntmps3
  go_wp2_with fail
  refine (HWK.out _).mono ?_
  rintro e w1 ⟨rfl, hc1⟩
  have HC1 : Hid (Chg No w w1) := hc1
  clear hc1
  go_wp2_with fail
  refine (HRD.out _).mono ?_
  rintro e w2 ⟨⟨A, n, c, he, ho⟩, hc2⟩
  simp only at he ho
  subst he
  have HC2 := Lib.hid (HC1.out.no hc2)
  have HO2 := Lib.hid ho.rs
  clear ho hc2
  go_wp2_with fail
  refine (HRR.out _).mono ?_
  rintro e w3 ⟨⟨A', n', c', he, ho'⟩, hc3⟩
  simp only at he ho'
  subst he
  have HC3 := Lib.hid ((HC2.out.alloc _).no hc3)
  have HO3 := Lib.hid ((HO2.out.no ((Chg.refl No w2).alloc _)).no hc3)
  have HO3' := Lib.hid ho'
  obtain ⟨u0, u1⟩ := heap2 (hc3.heap (heap_alloc_new w2 (.cells #[.int .i64 e0, .int .i64 q0] 26)) (fun x => x))
  have hz3 : w2.heap.size < w3.heap.size := by have := hc3.size; rw [World.size_alloc] at this; omega
  have hne : ¬ w2.heap.size = w3.heap.size := by omega
  have hnn : n ≤ 9223372036854775807 := by
    obtain ⟨A9, c9, he9, h1, h2, -⟩ := HO2.out
    simp only [Value.slice.injEq] at he9
    unfold maxLen at h2; omega
  have ua0 : ∀ o, (w3.alloc o).cell? ⟨w2.heap.size, 0, none⟩ = some (.int .i64 e0) := fun o => ((Chg.refl No w3).alloc o).cell u0 (fun x => x)
  have ua1 : ∀ o, (w3.alloc o).cell? ⟨w2.heap.size, 1, none⟩ = some (.int .i64 q0) := fun o => ((Chg.refl No w3).alloc o).cell u1 (fun x => x)
  have HSM := Lib.hid fun o => rsame_calls (w3.alloc o) A n c l A' n' c' l (HO3.out.no ((Chg.refl No w3).alloc o)) (HO3'.out.no ((Chg.refl No w3).alloc o)) hnn
  clear ho' hc3
  go_wp2_with fail
  refine (HSM.out _).mono ?_
  rintro e w4 ⟨rfl, hc4⟩
  have HC4 := Lib.hid ((HC3.out.alloc _).no hc4)
  have hd : decide (l = l) = true := decide_eq_true rfl
  clear hc4
  go_wp2_with fail
  refine (HWK.out _).mono ?_
  rintro e w5 ⟨rfl, hc5⟩
  have HC5 := Lib.hid (HC4.out.no hc5)
  clear hc5
  go_wp2
  go_ret
  exact ⟨by simp, HC5.out⟩
theorem ruleReads_walk (w : World) (s : ByteArray) (hs : s.size ≤ 140737488351232) : Calls Tryd.prog 3 #[.string s] w fun e w' => e = .returned (.bool true) ∧ Below w.heap.size w w' :=
  (ruleReads_core w s hs).mono fun _ _ h => ⟨h.1, h.2.below⟩
end Go.Proofs.YtcomcoolmabmgaaDoor
