/-
  Copy; Blob, Tree, Commit of each kind.
-/
import Derived.Test.YtkmnkbmmgopldaaLk
namespace Go.Proofs.Ytkmnkbmmgopldaa
open Go.RowKit
set_option linter.unusedVariables false
set_option linter.unusedSimpArgs false
set_option maxRecDepth 100000

theorem asblob_blob (w : World) (A : Option Addr) (n c : Nat) : Calls Try.prog 33 #[blobV (.slice A n c)] w fun e w' => e = .returned (.tuple #[.agg #[.slice A n c], .bool true]) ∧ Chg No w w' := by
  have ft := fun w => ta_blob_blob w (.agg #[.slice A n c])
  go_enter Try.func33, Try.ntmps33
  go_wp2
  exact bodyPost_ret (v := .tuple #[.agg #[.slice A n c], .bool true]) (by simp [results, Try.results33, go_sem]) rfl ⟨rfl, ((Chg.refl No w).alloc _).alloc _⟩

theorem asblob_tree (w : World) (A : Option Addr) (n c : Nat) : Calls Try.prog 33 #[treeV (.slice A n c)] w fun e w' => e = .returned (.tuple #[.agg #[.slice none 0 0], .bool false]) ∧ Chg No w w' := by
  have ft := fun w => ta_tree_blob w (.agg #[.slice A n c])
  go_enter Try.func33, Try.ntmps33
  go_wp2
  exact bodyPost_ret (v := .tuple #[.agg #[.slice none 0 0], .bool false]) (by simp [results, Try.results33, go_sem]) rfl ⟨rfl, ((Chg.refl No w).alloc _).alloc _⟩

theorem asblob_commit (w : World) (t : Nat) (A : Option Addr) (n c : Nat) (a : ByteArray) (d : Int) (x : ByteArray) : Calls Try.prog 33 #[commitV (t : Int) (.slice A n c) a d x] w fun e w' => e = .returned (.tuple #[.agg #[.slice none 0 0], .bool false]) ∧ Chg No w w' := by
  have ft := fun w => ta_commit_blob w (.agg #[.int .u64 (t : Int), .slice A n c, .string a, .int .i64 d, .string x])
  go_enter Try.func33, Try.ntmps33
  go_wp2
  exact bodyPost_ret (v := .tuple #[.agg #[.slice none 0 0], .bool false]) (by simp [results, Try.results33, go_sem]) rfl ⟨rfl, ((Chg.refl No w).alloc _).alloc _⟩

theorem astree_blob (w : World) (A : Option Addr) (n c : Nat) : Calls Try.prog 34 #[blobV (.slice A n c)] w fun e w' => e = .returned (.tuple #[.agg #[.slice none 0 0], .bool false]) ∧ Chg No w w' := by
  have ft := fun w => ta_blob_tree w (.agg #[.slice A n c])
  go_enter Try.func34, Try.ntmps34
  go_wp2
  exact bodyPost_ret (v := .tuple #[.agg #[.slice none 0 0], .bool false]) (by simp [results, Try.results34, go_sem]) rfl ⟨rfl, ((Chg.refl No w).alloc _).alloc _⟩

theorem astree_commit (w : World) (t : Nat) (A : Option Addr) (n c : Nat) (a : ByteArray) (d : Int) (x : ByteArray) : Calls Try.prog 34 #[commitV (t : Int) (.slice A n c) a d x] w fun e w' => e = .returned (.tuple #[.agg #[.slice none 0 0], .bool false]) ∧ Chg No w w' := by
  have ft := fun w => ta_commit_tree w (.agg #[.int .u64 (t : Int), .slice A n c, .string a, .int .i64 d, .string x])
  go_enter Try.func34, Try.ntmps34
  go_wp2
  exact bodyPost_ret (v := .tuple #[.agg #[.slice none 0 0], .bool false]) (by simp [results, Try.results34, go_sem]) rfl ⟨rfl, ((Chg.refl No w).alloc _).alloc _⟩

theorem ascommit_blob (w : World) (A : Option Addr) (n c : Nat) : Calls Try.prog 35 #[blobV (.slice A n c)] w fun e w' => e = .returned (.tuple #[.agg #[.int .u64 0, .slice none 0 0, .string ⟨#[]⟩, .int .i64 0, .string ⟨#[]⟩], .bool false]) ∧ Chg No w w' := by
  have ft := fun w => ta_blob_commit w (.agg #[.slice A n c])
  go_enter Try.func35, Try.ntmps35
  go_wp2
  exact bodyPost_ret (v := .tuple #[.agg #[.int .u64 0, .slice none 0 0, .string ⟨#[]⟩, .int .i64 0, .string ⟨#[]⟩], .bool false]) (by simp [results, Try.results35, go_sem]) rfl ⟨rfl, ((Chg.refl No w).alloc _).alloc _⟩

theorem ascommit_tree (w : World) (A : Option Addr) (n c : Nat) : Calls Try.prog 35 #[treeV (.slice A n c)] w fun e w' => e = .returned (.tuple #[.agg #[.int .u64 0, .slice none 0 0, .string ⟨#[]⟩, .int .i64 0, .string ⟨#[]⟩], .bool false]) ∧ Chg No w w' := by
  have ft := fun w => ta_tree_commit w (.agg #[.slice A n c])
  go_enter Try.func35, Try.ntmps35
  go_wp2
  exact bodyPost_ret (v := .tuple #[.agg #[.int .u64 0, .slice none 0 0, .string ⟨#[]⟩, .int .i64 0, .string ⟨#[]⟩], .bool false]) (by simp [results, Try.results35, go_sem]) rfl ⟨rfl, ((Chg.refl No w).alloc _).alloc _⟩

theorem ascommit_commit (w : World) (t : Nat) (A : Option Addr) (n c : Nat) (a : ByteArray) (d : Int) (x : ByteArray) : Calls Try.prog 35 #[commitV (t : Int) (.slice A n c) a d x] w fun e w' => e = .returned (.tuple #[.agg #[.int .u64 (t : Int), .slice A n c, .string a, .int .i64 d, .string x], .bool true]) ∧ Chg No w w' := by
  have ft := fun w => ta_commit_commit w (.agg #[.int .u64 (t : Int), .slice A n c, .string a, .int .i64 d, .string x])
  go_enter Try.func35, Try.ntmps35
  go_wp2
  exact bodyPost_ret (v := .tuple #[.agg #[.int .u64 (t : Int), .slice A n c, .string a, .int .i64 d, .string x], .bool true]) (by simp [results, Try.results35, go_sem]) rfl ⟨rfl, ((Chg.refl No w).alloc _).alloc _⟩


theorem copy_blob (w : World) (A : Option Addr) (n c : Nat) (xs : List UInt8) (hb : Bytes w (.slice A n c) xs) (hn : n ≤ 140737488355328) :
    Calls Try.prog 36 #[blobV (.slice A n c)] w fun e w' => ∃ A' c', e = .returned (blobV (.slice A' n c')) ∧ OwnB w' w.heap.size (.slice A' n c') xs ∧ Chg No w w' := by
  have fb := fun w => ta_blob_blob w (.agg #[.slice A n c])
  have HL : Hid (xs.length = n) := by
    obtain ⟨A', c', he, _⟩ := hb
    simp only [Value.slice.injEq] at he
    exact he.2.1.symm
  have HB := Lib.hid hb
  clear hb
  have HQ := Lib.hid (heap_alloc_new w (.cells #[.slice A n c] 40))
  go_enter Try.func36, Try.ntmps36
  go_wp2_with fail
  refine (clone_any _ A n c xs (HB.out.no ((Chg.refl No w).alloc _)) hn).mono ?_
  rintro e w2 ⟨v, rfl, ho, hc2⟩
  obtain ⟨A2, n2, c2, rfl, HL2, HO2⟩ := ho.form
  obtain rfl : n2 = n := HL2.out.symm.trans HL.out
  have HQ2 := Lib.hid (hc2.heap HQ.out (fun x => x))
  have k0 := cellAt HQ2.out 0 _ rfl
  have f0 := frzAt HQ2.out 0
  have HC2 : Hid (Chg No w w2) := ((Chg.refl No w).alloc _).no hc2
  have hne : ∀ b, (Value.slice A2 n2 c2).ownBlock = some b → ¬ One w.heap.size b := fun b hb h => by
    have := (HO2.out.block b hb).1
    have h : b = w.heap.size := h
    simp only [World.size_alloc] at this
    omega
  have HO3 : Hid (OwnB (w2.setCell ⟨w.heap.size, 0, none⟩ (.slice A2 n2 c2)) w.heap.size (.slice A2 n2 c2) xs) := (HO2.out.mono (by simp only [World.size_alloc]; omega)).chg (Chg.put w2 w.heap.size 0 _) hne
  clear ho hc2 HQ HO2
  go_wp2
  go_ret
  exact ⟨_, _, rfl, HO3.out, HC2.out.setCell (.inl (Nat.le_refl _)) _⟩


theorem copy_tree (w : World) (A : Option Addr) (n c : Nat) (xs : List Ent) (hb : Es w (.slice A n c) xs) (hn : n ≤ 140737488351232 / 32) :
    Calls Try.prog 36 #[treeV (.slice A n c)] w fun e w' => ∃ A' c', e = .returned (treeV (.slice A' n c')) ∧ w'.ownsRow w.heap.size 35 3 (.slice A' n c') n (xs.flatMap encE) ∧ Chg No w w' := by
  have fb := fun w => ta_tree_blob w (.agg #[.slice A n c])
  have ft := fun w => ta_tree_tree w (.agg #[.slice A n c])
  have HB := Lib.hid hb
  clear hb
  have HQ := Lib.hid (heap_alloc_new w (.cells #[.slice A n c] 33))
  go_enter Try.func36, Try.ntmps36
  go_wp2_with fail
  refine (clone_ents_any _ A n c xs (HB.out.no ((Chg.refl No w).alloc _)) hn).mono ?_
  rintro e w2 ⟨v, rfl, ho, hc2⟩
  obtain ⟨A2, c2, rfl⟩ := ownsRow_form ho
  have HQ2 := Lib.hid (hc2.heap HQ.out (fun x => x))
  have k0 := cellAt HQ2.out 0 _ rfl
  have f0 := frzAt HQ2.out 0
  have HC2 : Hid (Chg No w w2) := ((Chg.refl No w).alloc _).no hc2
  have hne : ∀ b, (Value.slice A2 n c2).ownBlock = some b → ¬ One w.heap.size b := fun b hb h => by
    have := (World.ownsRow.lt ho b hb).1
    have h : b = w.heap.size := h
    simp only [World.size_alloc] at this
    omega
  have HO3 : Hid ((w2.setCell ⟨w.heap.size, 0, none⟩ (.slice A2 n c2)).ownsRow w.heap.size 35 3 (.slice A2 n c2) n (xs.flatMap encE)) := ownsRow_chg (ownsRow_mono ho (by simp only [World.size_alloc]; omega)) (Chg.put w2 w.heap.size 0 _) hne
  clear ho hc2 HQ
  go_wp2
  go_ret
  exact ⟨_, _, rfl, HO3.out, HC2.out.setCell (.inl (Nat.le_refl _)) _⟩


theorem copy_commit (w : World) (t : Nat) (A : Option Addr) (n c : Nat) (a : ByteArray) (d : Int) (x : ByteArray) (xs : List Nat) (hb : Sl u64v w (.slice A n c) xs) (hn : n ≤ 140737488351232 / 32) :
    Calls Try.prog 36 #[commitV (t : Int) (.slice A n c) a d x] w fun e w' => ∃ A' c', e = .returned (commitV (t : Int) (.slice A' n c') a d x) ∧ w'.ownsRow w.heap.size 24 1 (.slice A' n c') n (xs.map u64v) ∧ Chg No w w' := by
  have fb := fun w => ta_commit_blob w (.agg #[.int .u64 (t : Int), .slice A n c, .string a, .int .i64 d, .string x])
  have ft := fun w => ta_commit_tree w (.agg #[.int .u64 (t : Int), .slice A n c, .string a, .int .i64 d, .string x])
  have fc := fun w => ta_commit_commit w (.agg #[.int .u64 (t : Int), .slice A n c, .string a, .int .i64 d, .string x])
  have HB := Lib.hid hb
  clear hb
  have HQ := Lib.hid (heap_alloc_new w (.cells #[.int .u64 (t : Int), .slice A n c, .string a, .int .i64 d, .string x] 27))
  go_enter Try.func36, Try.ntmps36
  go_wp2_with fail
  refine (clone_ids_any _ A n c xs (HB.out.no ((Chg.refl No w).alloc _)) hn).mono ?_
  rintro e w2 ⟨v, rfl, ho, hc2⟩
  obtain ⟨A2, c2, rfl⟩ := ownsRow_form ho
  have HQ2 := Lib.hid (hc2.heap HQ.out (fun x => x))
  have k0 := cellAt HQ2.out 0 _ rfl
  have k1 := cellAt HQ2.out 1 _ rfl
  have k2 := cellAt HQ2.out 2 _ rfl
  have k3 := cellAt HQ2.out 3 _ rfl
  have k4 := cellAt HQ2.out 4 _ rfl
  have f0 := frzAt HQ2.out 1
  have HC2 : Hid (Chg No w w2) := ((Chg.refl No w).alloc _).no hc2
  have hne : ∀ b, (Value.slice A2 n c2).ownBlock = some b → ¬ One w.heap.size b := fun b hb h => by
    have := (World.ownsRow.lt ho b hb).1
    have h : b = w.heap.size := h
    simp only [World.size_alloc] at this
    omega
  have HO3 : Hid ((w2.setCell ⟨w.heap.size, 1, none⟩ (.slice A2 n c2)).ownsRow w.heap.size 24 1 (.slice A2 n c2) n (xs.map u64v)) := ownsRow_chg (ownsRow_mono ho (by simp only [World.size_alloc]; omega)) (Chg.put w2 w.heap.size 1 _) hne
  clear ho hc2 HQ
  go_wp2
  go_ret
  exact ⟨_, _, rfl, HO3.out, HC2.out.setCell (.inl (Nat.le_refl _)) _⟩

end Go.Proofs.Ytkmnkbmmgopldaa
