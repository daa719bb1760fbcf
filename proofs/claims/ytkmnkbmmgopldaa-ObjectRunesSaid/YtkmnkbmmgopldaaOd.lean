/-
  Odd objects: nil, and pointers to objects: none of the three kinds.
-/
import Derived.Test.YtkmnkbmmgopldaaFa
namespace Go.Proofs.Ytkmnkbmmgopldaa
open Go.RowKit
set_option linter.unusedVariables false
set_option linter.unusedSimpArgs false
set_option maxRecDepth 100000

structure Odd (o : Value) : Prop where
  tb : ∀ w, Sem.run Try.prog (Instr.typeAssert o 48 40 true) w = .ok (.tuple #[.agg #[.slice none 0 0], .bool false]) w
  tt : ∀ w, Sem.run Try.prog (Instr.typeAssert o 48 33 true) w = .ok (.tuple #[.agg #[.slice none 0 0], .bool false]) w
  tc : ∀ w, Sem.run Try.prog (Instr.typeAssert o 48 27 true) w = .ok (.tuple #[.agg #[.int .u64 0, .slice none 0 0, .string ⟨#[]⟩, .int .i64 0, .string ⟨#[]⟩], .bool false]) w
  ft : TaFalls o 33
  fc : TaFalls o 27
theorem odd_nil : Odd .nilIface := ⟨fun w => ta_nil_blob w, fun w => ta_nil_tree w, fun w => ta_nil_commit w, falls_nil_tree, falls_nil_commit⟩
theorem odd_pblob (v : Value) : Odd (.iface 75 v) := ⟨fun w => rfl, fun w => rfl, fun w => rfl, ⟨_, _, fun w => rfl⟩, ⟨_, _, fun w => rfl⟩⟩
theorem odd_ptree (v : Value) : Odd (.iface 76 v) := ⟨fun w => rfl, fun w => rfl, fun w => rfl, ⟨_, _, fun w => rfl⟩, ⟨_, _, fun w => rfl⟩⟩
theorem odd_pcommit (v : Value) : Odd (.iface 77 v) := ⟨fun w => rfl, fun w => rfl, fun w => rfl, ⟨_, _, fun w => rfl⟩, ⟨_, _, fun w => rfl⟩⟩

theorem check_odd (w : World) (o : Value) (h : Odd o) : Calls Try.prog 14 #[o] w fun e w' => e = .returned (.int .i64 160) ∧ Chg No w w' := by
  obtain ⟨fb, ft, fc, -, -⟩ := h
  go_enter Try.func14, Try.ntmps14
  go_wp2
  go_ret
  exact ⟨rfl, Chg.refl _ _⟩
theorem kind_odd (w : World) (o : Value) (h : Odd o) : Calls Try.prog 23 #[o] w fun e w' => e = .returned (.int .i64 0) ∧ Chg No w w' := by
  obtain ⟨fb, ft, fc, -, -⟩ := h
  go_enter Try.func23, Try.ntmps23
  go_wp2
  go_ret
  exact ⟨rfl, Chg.refl _ _⟩
theorem encodes_odd (w : World) (o : Value) (h : Odd o) : Encodes w o 160 [] := Encodes.ofRefused (k := 160) (by decide) (fun W _ => check_odd W o h)
theorem asblob_odd (w : World) (o : Value) (h : Odd o) : Calls Try.prog 33 #[o] w fun e w' => e = .returned (.tuple #[.agg #[.slice none 0 0], .bool false]) ∧ Chg No w w' := by
  obtain ⟨fb, ft, fc, -, -⟩ := h
  go_enter Try.func33, Try.ntmps33
  go_wp2
  exact bodyPost_ret (v := .tuple #[.agg #[.slice none 0 0], .bool false]) (by simp [results, Try.results33, go_sem]) rfl ⟨rfl, ((Chg.refl No w).alloc _).alloc _⟩
theorem astree_odd (w : World) (o : Value) (h : Odd o) : Calls Try.prog 34 #[o] w fun e w' => e = .returned (.tuple #[.agg #[.slice none 0 0], .bool false]) ∧ Chg No w w' := by
  obtain ⟨fb, ft, fc, -, -⟩ := h
  go_enter Try.func34, Try.ntmps34
  go_wp2
  exact bodyPost_ret (v := .tuple #[.agg #[.slice none 0 0], .bool false]) (by simp [results, Try.results34, go_sem]) rfl ⟨rfl, ((Chg.refl No w).alloc _).alloc _⟩
theorem ascommit_odd (w : World) (o : Value) (h : Odd o) : Calls Try.prog 35 #[o] w fun e w' => e = .returned (.tuple #[.agg #[.int .u64 0, .slice none 0 0, .string ⟨#[]⟩, .int .i64 0, .string ⟨#[]⟩], .bool false]) ∧ Chg No w w' := by
  obtain ⟨fb, ft, fc, -, -⟩ := h
  go_enter Try.func35, Try.ntmps35
  go_wp2
  exact bodyPost_ret (v := .tuple #[.agg #[.int .u64 0, .slice none 0 0, .string ⟨#[]⟩, .int .i64 0, .string ⟨#[]⟩], .bool false]) (by simp [results, Try.results35, go_sem]) rfl ⟨rfl, ((Chg.refl No w).alloc _).alloc _⟩
theorem links_odd (w : World) (o : Value) (h : Odd o) : Calls Try.prog 37 #[o] w fun e w' => e = .returned (.slice none 0 0) ∧ Chg No w w' := by
  go_enter Try.func37, Try.ntmps37
  go_wp2_with fail
  refine (check_odd _ o h).mono ?_
  rintro e w1 ⟨rfl, hc1⟩
  go_wp2
  go_ret
  exact ⟨rfl, hc1⟩
theorem copy_odd (w : World) (o : Value) (h : Odd o) : Calls Try.prog 36 #[o] w fun e w' => e = .returned .nilIface ∧ Chg No w w' := by
  obtain ⟨fb, ft, fc, -, -⟩ := h
  go_enter Try.func36, Try.ntmps36
  go_wp2
  go_ret
  exact ⟨rfl, Chg.refl _ _⟩
end Go.Proofs.Ytkmnkbmmgopldaa
