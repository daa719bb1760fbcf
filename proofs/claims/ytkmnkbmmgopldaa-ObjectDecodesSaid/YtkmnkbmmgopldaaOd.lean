/-
  Fa, Od in one text.
-/
import Derived.Test.YtkmnkbmmgopldaaOe
import Derived.Defers
import Derived.Recover
import Derived.Laws.Pointers
namespace Go.Proofs.Ytkmnkbmmgopldaa
open Go.RowKit
set_option linter.unusedVariables false
set_option linter.unusedSimpArgs false
set_option maxRecDepth 100000

/-- A type assertion that panics. -/
def TaFalls (o : Value) (t : TypeId) : Prop := ∃ (u : TypeId) (ob : Obj), ∀ w : World, Sem.run Try.prog (Instr.typeAssert o 48 t false) w = .halt (.panic (.iface u (.pointer (some ⟨w.heap.size, 0, none⟩)))) (w.alloc ob)
theorem falls_blob_tree (v : Value) : TaFalls (.iface 40 v) 33 := ⟨_, _, fun w => rfl⟩
theorem falls_blob_commit (v : Value) : TaFalls (.iface 40 v) 27 := ⟨_, _, fun w => rfl⟩
theorem falls_tree_commit (v : Value) : TaFalls (.iface 33 v) 27 := ⟨_, _, fun w => rfl⟩
theorem falls_commit_tree (v : Value) : TaFalls (.iface 27 v) 33 := ⟨_, _, fun w => rfl⟩
theorem falls_nil_tree : TaFalls .nilIface 33 := ⟨_, _, fun w => rfl⟩
theorem falls_nil_commit : TaFalls .nilIface 27 := ⟨_, _, fun w => rfl⟩


theorem must_tree (w : World) (A : Option Addr) (n c : Nat) : Calls Try.prog 17 #[treeV (.slice A n c)] w fun e w' => e = .returned (.agg #[.slice A n c]) ∧ Chg No w w' := by
  have ft := fun w => ta1_tree_tree w (.agg #[.slice A n c])
  go_enter Try.func17, Try.ntmps17
  go_wp2
  exact bodyPost_ret (v := .agg #[.slice A n c]) (by simp [results, Try.results17, go_sem]) rfl ⟨rfl, (Chg.refl No w).alloc _⟩
theorem must_commit (w : World) (t : Nat) (A : Option Addr) (n c : Nat) (a : ByteArray) (d : Int) (x : ByteArray) : Calls Try.prog 19 #[commitV (t : Int) (.slice A n c) a d x] w fun e w' => e = .returned (.agg #[.int .u64 (t : Int), .slice A n c, .string a, .int .i64 d, .string x]) ∧ Chg No w w' := by
  have ft := fun w => ta1_commit_commit w (.agg #[.int .u64 (t : Int), .slice A n c, .string a, .int .i64 d, .string x])
  go_enter Try.func19, Try.ntmps19
  go_wp2
  exact bodyPost_ret (v := .agg #[.int .u64 (t : Int), .slice A n c, .string a, .int .i64 d, .string x]) (by simp [results, Try.results19, go_sem]) rfl ⟨rfl, (Chg.refl No w).alloc _⟩
/-- A call that panics. -/
def Falls (w : World) (f : FuncId) (o : Value) : Prop := ∀ W, Chg No w W → Calls Try.prog f #[o] W fun e w' => (∃ u pv, e = .panicked [{ v := .iface u pv, recovered := false }]) ∧ Chg No W w'
theorem must_tree_falls (w : World) (o : Value) (h : TaFalls o 33) : Falls w 17 o := by
  intro W hW
  obtain ⟨u, ob, ht⟩ := h
  go_enter Try.func17, Try.ntmps17
  go_wp2
  exact ⟨rfl, ⟨_, _, rfl⟩, ((Chg.refl No W).alloc _).alloc _⟩
theorem must_commit_falls (w : World) (o : Value) (h : TaFalls o 27) : Falls w 19 o := by
  intro W hW
  obtain ⟨u, ob, ht⟩ := h
  go_enter Try.func19, Try.ntmps19
  go_wp2
  exact ⟨rfl, ⟨_, _, rfl⟩, ((Chg.refl No W).alloc _).alloc _⟩

theorem catch_panicking (p : Addr) (x : Bool) (u : TypeId) (pv : Value) (older : List PanicEntry) (w : World) (hc : w.cell? p = some (.bool x)) (hz : w.frozen? p = false) :
    CallsD Try.prog 42 #[.pointer (some p)] (.panicking ({ v := .iface u pv, recovered := false } :: older)) w fun e u' w' =>
      e = .returned (.tuple #[]) ∧ u' = .panicking ({ v := .iface u pv, recovered := true } :: older) ∧ w' = w.setCell p (.bool true) := by
  refine callsD_of_wpS Try.func42 rfl fun c₀ cs hu => ?_
  apply wpS_region
  simp [wpOpsS, go_sem, recoverD, hu, Try.ntmps42, Exit.thenS, hc, hz, bodyPostS, results, Try.results42]

theorem falls_tree (w : World) (o : Value) (h : Falls w 17 o) : Calls Try.prog 15 #[o, .int .i64 0] w fun e w' => e = .returned (.bool true) ∧ Chg No w w' := by
  have hmf : ∀ (fn : Fn) (first cap : Array Value) (w : World), (Instr.makeFunc fn first cap).run Try.prog w = .ok (.func fn first cap) w := fun _ _ _ _ => rfl
  have HF := Lib.hid h
  clear h
  go_enter_defers Try.func15, Try.ntmps15
  go_wp2_with fail
  refine (HF.out _ ((Chg.refl No w).alloc _)).mono ?_
  rintro e w1 ⟨⟨u, pv, rfl⟩, hc1⟩
  have hb := hc1.heap (heap_alloc_new w (.cells #[.bool false] 4)) (fun x => x)
  refine leaves_cons (f := 42) (args := #[.pointer (some ⟨w.heap.size, 0, none⟩)]) (by simp) (by simp [go_sem]) ?_
  refine (catch_panicking ⟨w.heap.size, 0, none⟩ false u pv [] _ (cellAt hb 0 _ rfl) (frzAt hb 0)).mono ?_
  rintro e u' w'' ⟨rfl, rfl, rfl⟩
  have hcc := World.cell?_setCell_same w1 ⟨w.heap.size, 0, none⟩ (.bool true) (cellAt hb 0 _ rfl)
  simp [Leaves, settle, results, Try.results15, go_sem]
  rw [hcc]
  exact ⟨_, rfl, rfl, (((Chg.refl No w).alloc _).no hc1).setCell (.inl (Nat.le_refl _)) _⟩
theorem falls_commit (w : World) (o : Value) (h : Falls w 19 o) : Calls Try.prog 15 #[o, .int .i64 1] w fun e w' => e = .returned (.bool true) ∧ Chg No w w' := by
  have hmf : ∀ (fn : Fn) (first cap : Array Value) (w : World), (Instr.makeFunc fn first cap).run Try.prog w = .ok (.func fn first cap) w := fun _ _ _ _ => rfl
  have HF := Lib.hid h
  clear h
  go_enter_defers Try.func15, Try.ntmps15
  go_wp2_with fail
  refine (HF.out _ ((Chg.refl No w).alloc _)).mono ?_
  rintro e w1 ⟨⟨u, pv, rfl⟩, hc1⟩
  have hb := hc1.heap (heap_alloc_new w (.cells #[.bool false] 4)) (fun x => x)
  refine leaves_cons (f := 42) (args := #[.pointer (some ⟨w.heap.size, 0, none⟩)]) (by simp) (by simp [go_sem]) ?_
  refine (catch_panicking ⟨w.heap.size, 0, none⟩ false u pv [] _ (cellAt hb 0 _ rfl) (frzAt hb 0)).mono ?_
  rintro e u' w'' ⟨rfl, rfl, rfl⟩
  have hcc := World.cell?_setCell_same w1 ⟨w.heap.size, 0, none⟩ (.bool true) (cellAt hb 0 _ rfl)
  simp [Leaves, settle, results, Try.results15, go_sem]
  rw [hcc]
  exact ⟨_, rfl, rfl, (((Chg.refl No w).alloc _).no hc1).setCell (.inl (Nat.le_refl _)) _⟩
end Go.Proofs.Ytkmnkbmmgopldaa

namespace Go.Proofs.Ytkmnkbmmgopldaa
open Go.RowKit
set_option linter.unusedVariables false
set_option linter.unusedSimpArgs false
set_option maxRecDepth 100000

structure Odd (o : Value) : Prop where
  tb : ∀ w, Sem.run Try.prog (Instr.typeAssert o 48 40 true) w = .ok (.tuple #[.agg #[.slice none 0 0], .bool false]) w
  tt : ∀ w, Sem.run Try.prog (Instr.typeAssert o 48 33 true) w = .ok (.tuple #[.agg #[.slice none 0 0], .bool false]) w
  tc : ∀ w, Sem.run Try.prog (Instr.typeAssert o 48 27 true) w = .ok (.tuple #[.agg #[.int .u64 0, .slice none 0 0, .string ⟨#[]⟩, .int .i64 0, .string ⟨#[]⟩], .bool false]) w
  ft : TaFalls o 33
  fc : TaFalls o 27
theorem odd_nil : Odd .nilIface := ⟨fun w => ta_nil_blob w, fun w => ta_nil_tree w, fun w => ta_nil_commit w, falls_nil_tree, falls_nil_commit⟩
theorem odd_pblob (v : Value) : Odd (.iface 75 v) := ⟨fun w => rfl, fun w => rfl, fun w => rfl, ⟨_, _, fun w => rfl⟩, ⟨_, _, fun w => rfl⟩⟩
theorem odd_ptree (v : Value) : Odd (.iface 76 v) := ⟨fun w => rfl, fun w => rfl, fun w => rfl, ⟨_, _, fun w => rfl⟩, ⟨_, _, fun w => rfl⟩⟩
theorem odd_pcommit (v : Value) : Odd (.iface 77 v) := ⟨fun w => rfl, fun w => rfl, fun w => rfl, ⟨_, _, fun w => rfl⟩, ⟨_, _, fun w => rfl⟩⟩

theorem check_odd (w : World) (o : Value) (h : Odd o) : Calls Try.prog 14 #[o] w fun e w' => e = .returned (.int .i64 160) ∧ Chg No w w' := by
  obtain ⟨fb, ft, fc, -, -⟩ := h
  go_enter Try.func14, Try.ntmps14
  go_wp2
  go_ret
  exact ⟨rfl, Chg.refl _ _⟩
theorem kind_odd (w : World) (o : Value) (h : Odd o) : Calls Try.prog 23 #[o] w fun e w' => e = .returned (.int .i64 0) ∧ Chg No w w' := by
  obtain ⟨fb, ft, fc, -, -⟩ := h
  go_enter Try.func23, Try.ntmps23
  go_wp2
  go_ret
  exact ⟨rfl, Chg.refl _ _⟩
theorem encodes_odd (w : World) (o : Value) (h : Odd o) : Encodes w o 160 [] := Encodes.ofRefused (k := 160) (by decide) (fun W _ => check_odd W o h)
theorem asblob_odd (w : World) (o : Value) (h : Odd o) : Calls Try.prog 33 #[o] w fun e w' => e = .returned (.tuple #[.agg #[.slice none 0 0], .bool false]) ∧ Chg No w w' := by
  obtain ⟨fb, ft, fc, -, -⟩ := h
  go_enter Try.func33, Try.ntmps33
  go_wp2
  exact bodyPost_ret (v := .tuple #[.agg #[.slice none 0 0], .bool false]) (by simp [results, Try.results33, go_sem]) rfl ⟨rfl, ((Chg.refl No w).alloc _).alloc _⟩
theorem astree_odd (w : World) (o : Value) (h : Odd o) : Calls Try.prog 34 #[o] w fun e w' => e = .returned (.tuple #[.agg #[.slice none 0 0], .bool false]) ∧ Chg No w w' := by
  obtain ⟨fb, ft, fc, -, -⟩ := h
  go_enter Try.func34, Try.ntmps34
  go_wp2
  exact bodyPost_ret (v := .tuple #[.agg #[.slice none 0 0], .bool false]) (by simp [results, Try.results34, go_sem]) rfl ⟨rfl, ((Chg.refl No w).alloc _).alloc _⟩
theorem ascommit_odd (w : World) (o : Value) (h : Odd o) : Calls Try.prog 35 #[o] w fun e w' => e = .returned (.tuple #[.agg #[.int .u64 0, .slice none 0 0, .string ⟨#[]⟩, .int .i64 0, .string ⟨#[]⟩], .bool false]) ∧ Chg No w w' := by
  obtain ⟨fb, ft, fc, -, -⟩ := h
  go_enter Try.func35, Try.ntmps35
  go_wp2
  exact bodyPost_ret (v := .tuple #[.agg #[.int .u64 0, .slice none 0 0, .string ⟨#[]⟩, .int .i64 0, .string ⟨#[]⟩], .bool false]) (by simp [results, Try.results35, go_sem]) rfl ⟨rfl, ((Chg.refl No w).alloc _).alloc _⟩
theorem links_odd (w : World) (o : Value) (h : Odd o) : Calls Try.prog 37 #[o] w fun e w' => e = .returned (.slice none 0 0) ∧ Chg No w w' := by
  go_enter Try.func37, Try.ntmps37
  go_wp2_with fail
  refine (check_odd _ o h).mono ?_
  rintro e w1 ⟨rfl, hc1⟩
  go_wp2
  go_ret
  exact ⟨rfl, hc1⟩
theorem copy_odd (w : World) (o : Value) (h : Odd o) : Calls Try.prog 36 #[o] w fun e w' => e = .returned .nilIface ∧ Chg No w w' := by
  obtain ⟨fb, ft, fc, -, -⟩ := h
  go_enter Try.func36, Try.ntmps36
  go_wp2
  go_ret
  exact ⟨rfl, Chg.refl _ _⟩
end Go.Proofs.Ytkmnkbmmgopldaa

