/-
  The walk of ObjectMust.
-/
import Derived.Test.YtkmnkbmmgopldaaFa
import Derived.BigRegion
import Derived.Deep.DeepCutAuto
import Derived.Deep.RegionHeld3
namespace Go.Proofs.Ytkmnkbmmgopldaa
open Go.RowKit
set_option linter.unusedVariables false
set_option linter.unusedSimpArgs false
set_option maxRecDepth 100000

theorem cells5b {W : World} {g : Nat} {a b c d e : Value} {t : TypeId} {fz : Nat × Nat} (h : W.heap[g]? = some (.cells #[a, b, c, d, e] t fz)) :
    W.cell? ⟨g, 0, none⟩ = some a ∧ W.cell? ⟨g, 1, none⟩ = some b ∧ W.cell? ⟨g, 2, none⟩ = some c ∧ W.cell? ⟨g, 3, none⟩ = some d ∧ W.cell? ⟨g, 4, none⟩ = some e :=
  ⟨cellAt h 0 a rfl, cellAt h 1 b rfl, cellAt h 2 c rfl, cellAt h 3 d rfl, cellAt h 4 e rfl⟩
theorem three0 (w : World) (o0 o1 o2 : Obj) : (((w.alloc o0).alloc o1).alloc o2).heap[w.heap.size]? = some o0 := (((Chg.refl No (w.alloc o0)).alloc o1).alloc o2).heap (heap_alloc_new w o0) (fun x => x)
theorem three1 (w : World) (o0 o1 o2 : Obj) : (((w.alloc o0).alloc o1).alloc o2).heap[w.heap.size + 1]? = some o1 := by
  have := ((Chg.refl No ((w.alloc o0).alloc o1)).alloc o2).heap (heap_alloc_new (w.alloc o0) o1) (fun x => x)
  rwa [World.size_alloc] at this
theorem three2 (w : World) (o0 o1 o2 : Obj) : (((w.alloc o0).alloc o1).alloc o2).heap[w.heap.size + 1 + 1]? = some o2 := by
  have := heap_alloc_new ((w.alloc o0).alloc o1) o2
  rwa [World.size_alloc, World.size_alloc] at this

set_option maxHeartbeats 6400000 in
theorem objectMust_core (w : World) (Ab : Option Addr) (nb cb : Nat)
    (Al : Option Addr) (nl cl : Nat) (ys : List Ent) (hy : Es w (.slice Al nl cl) ys) (hnl : nl ≤ maxLen)
    (t : Nat) (A : Option Addr) (n c : Nat) (ps : List Nat) (a : ByteArray) (d : Int) (x : ByteArray) (hs : Sl u64v w (.slice A n c) ps) (hn : n ≤ maxLen) :
    Calls Try.prog 4 #[.slice Ab nb cb, .slice Al nl cl, .agg #[.int .u64 (t : Int), .slice A n c, .string a, .int .i64 d, .string x]] w fun e w' => e = .returned (.bool true) ∧ Chg No w w' := by
  have mx : maxLen ≤ 9223372036854775807 := by unfold maxLen; omega
  have hnl2 : nl ≤ 9223372036854775807 := by omega
  have hn2 : n ≤ 9223372036854775807 := by omega
  have HY := Lib.hid hy
  have HS := Lib.hid hs
  have HEN : Hid (∀ W, Chg No w W → Calls Try.prog 16 #[.slice Al nl cl, .slice Al nl cl] W fun e w' => e = .returned (.bool true) ∧ Chg No W w') := by
    intro W hW
    have := ents_calls W Al nl cl ys Al nl cl ys (hy.no hW) (hy.no hW) hnl2
    rwa [decide_eq_true rfl] at this
  have HCM : Hid (∀ W, Chg No w W → Calls Try.prog 18 #[.agg #[.int .u64 (t : Int), .slice A n c, .string a, .int .i64 d, .string x], .agg #[.int .u64 (t : Int), .slice A n c, .string a, .int .i64 d, .string x]] W fun e w' => e = .returned (.bool true) ∧ Chg No W w') := by
    intro W hW
    have := commits_calls W t A n c ps a d x t A n c ps a d x (hs.no hW) (hs.no hW) hn2
    rwa [decide_eq_true ⟨rfl, rfl, rfl, rfl, rfl⟩] at this
  have hfd : ∀ W, Sem.run Try.prog (Instr.field 33 (.agg #[.slice Al nl cl]) 0) W = .ok (.slice Al nl cl) W := fun _ => rfl
  have HQ := Lib.hid (heap_alloc_new w (.cells #[.int .u64 (t : Int), .slice A n c, .string a, .int .i64 d, .string x] 27))
  clear hy hs mx hnl hn
  go_enter Try.func4, Try.ntmps4
  go_wp2_with fail
  refine (wakes_calls _).mono ?_
  rintro e w1 ⟨rfl, hc1⟩
  have HP1 := Lib.hid (hc1.heap HQ.out (fun x => x))
  have HG1 := Lib.hid (((Chg.refl No w).alloc _).no hc1)
  clear hc1 HQ
  obtain ⟨p0, p1, p2, p3, p4⟩ := cells5b HP1.out
  generalize w.heap.size = g at *
  have hg1 : g < w1.heap.size := (Array.getElem?_eq_some_iff.1 HP1.out).1
  have hg2 : g < w1.heap.size + 1 := by omega
  have hg3 : g < w1.heap.size + 1 + 1 := by omega
  go_upto_region 3 with fail
  go_cut [7, 8, 9] (fun s7 s8 s9 wx => ∃ g7 g8 g9 : Nat, s7 = .pointer (some ⟨g7, 0, none⟩) ∧ s8 = .pointer (some ⟨g8, 0, none⟩) ∧ s9 = .pointer (some ⟨g9, 0, none⟩) ∧ Hid (Chg No w1 wx) ∧ Hid (wx.heap[g7]? = some (.cells #[.slice Ab nb cb] 40)) ∧ Hid (wx.heap[g8]? = some (.cells #[.slice Al nl cl] 33)) ∧ Hid (wx.heap[g9]? = some (.cells #[.int .u64 (t : Int), .slice A n c, .string a, .int .i64 d, .string x] 27)))
  case first =>
    go_region
    all_goals (go_wp2_with fail; go_meet; exact ⟨_, _, _, rfl, rfl, rfl, ((((Chg.refl No _).alloc _).alloc _).alloc _).drew, by first | exact three0 _ _ _ _ | exact three1 _ _ _ _ | exact three2 _ _ _ _, by first | exact three0 _ _ _ _ | exact three1 _ _ _ _ | exact three2 _ _ _ _, by first | exact three0 _ _ _ _ | exact three1 _ _ _ _ | exact three2 _ _ _ _⟩)
  case rest =>
  obtain ⟨g7, g8, g9, rfl, rfl, rfl, HW, HB2, HT2, HC2⟩ := hcut
  have HP2 := Lib.hid (HW.out.heap HP1.out (fun x => x))
  have HG2 := Lib.hid (HG1.out.no HW.out)
  clear HP1 HG1 HW p0 p1 p2 p3 p4 hg1 hg2 hg3
  have k0 := cellAt HB2.out 0 _ rfl
  go_wp2_with fail
  refine (falls_tree _ _ (must_tree_falls _ _ (falls_blob_tree (.agg #[.slice Ab nb cb])))).mono ?_
  rintro e w6 ⟨rfl, hc6⟩
  have HG6 := Lib.hid (HG2.out.no hc6)
  have HB6 := Lib.hid (hc6.heap HB2.out (fun x => x))
  have HT6 := Lib.hid (hc6.heap HT2.out (fun x => x))
  have HC6 := Lib.hid (hc6.heap HC2.out (fun x => x))
  have HP6 := Lib.hid (hc6.heap HP2.out (fun x => x))
  clear hc6 k0 HG2 HB2 HT2 HC2 HP2
  have k0 := cellAt HB6.out 0 _ rfl
  go_wp2_with fail
  refine (falls_commit _ _ (must_commit_falls _ _ (falls_blob_commit (.agg #[.slice Ab nb cb])))).mono ?_
  rintro e w7 ⟨rfl, hc7⟩
  have HG7 := Lib.hid (HG6.out.no hc7)
  have HB7 := Lib.hid (hc7.heap HB6.out (fun x => x))
  have HT7 := Lib.hid (hc7.heap HT6.out (fun x => x))
  have HC7 := Lib.hid (hc7.heap HC6.out (fun x => x))
  have HP7 := Lib.hid (hc7.heap HP6.out (fun x => x))
  clear hc7 k0 HG6 HB6 HT6 HC6 HP6
  have k0 := cellAt HT7.out 0 _ rfl
  go_wp2_with fail
  refine (falls_commit _ _ (must_commit_falls _ _ (falls_tree_commit (.agg #[.slice Al nl cl])))).mono ?_
  rintro e w8 ⟨rfl, hc8⟩
  have HG8 := Lib.hid (HG7.out.no hc8)
  have HB8 := Lib.hid (hc8.heap HB7.out (fun x => x))
  have HT8 := Lib.hid (hc8.heap HT7.out (fun x => x))
  have HC8 := Lib.hid (hc8.heap HC7.out (fun x => x))
  have HP8 := Lib.hid (hc8.heap HP7.out (fun x => x))
  clear hc8 k0 HG7 HB7 HT7 HC7 HP7
  obtain ⟨k0, k1, k2, k3, k4⟩ := cells5b HC8.out
  go_wp2_with fail
  refine (falls_tree _ _ (must_tree_falls _ _ (falls_commit_tree (.agg #[.int .u64 (t : Int), .slice A n c, .string a, .int .i64 d, .string x])))).mono ?_
  rintro e w9 ⟨rfl, hc9⟩
  have HG9 := Lib.hid (HG8.out.no hc9)
  have HB9 := Lib.hid (hc9.heap HB8.out (fun x => x))
  have HT9 := Lib.hid (hc9.heap HT8.out (fun x => x))
  have HC9 := Lib.hid (hc9.heap HC8.out (fun x => x))
  have HP9 := Lib.hid (hc9.heap HP8.out (fun x => x))
  clear hc9 k0 k1 k2 k3 k4 HG8 HB8 HT8 HC8 HP8
  go_wp2
  refine wp_region_held_drew (S := (fun W => W.cell? ⟨g8, 0, none⟩ = some (.slice Al nl cl) ∧ W.cell? ⟨g9, 0, none⟩ = some (.int .u64 (t : Int)) ∧ W.cell? ⟨g9, 1, none⟩ = some (.slice A n c) ∧ W.cell? ⟨g9, 2, none⟩ = some (.string a) ∧ W.cell? ⟨g9, 3, none⟩ = some (.int .i64 d) ∧ W.cell? ⟨g9, 4, none⟩ = some (.string x) ∧ W.cell? ⟨g, 0, none⟩ = some (.int .u64 (t : Int)) ∧ W.cell? ⟨g, 1, none⟩ = some (.slice A n c) ∧ W.cell? ⟨g, 2, none⟩ = some (.string a) ∧ W.cell? ⟨g, 3, none⟩ = some (.int .i64 d) ∧ W.cell? ⟨g, 4, none⟩ = some (.string x))) (by kernel_rfl) ⟨cellAt HT9.out 0 _ rfl, (cells5b HC9.out).1, (cells5b HC9.out).2.1, (cells5b HC9.out).2.2.1, (cells5b HC9.out).2.2.2.1, (cells5b HC9.out).2.2.2.2, (cells5b HP9.out).1, (cells5b HP9.out).2.1, (cells5b HP9.out).2.2.1, (cells5b HP9.out).2.2.2.1, (cells5b HP9.out).2.2.2.2⟩ (fun hSw => ?_)
  refine wpAnyH_take (i := 0) (oi := { dst := some 39, op := Go.Op.load 33 (Go.Operand.tmp 8), type := 33, pos := "outright.go:32", after := #[], guard := none }) (v := ?_) rfl (by kernel_rfl) (by kernel_rfl) (by kernel_rfl) (fun _ _ _ h => h) (Or.inl ⟨by rfl, ?_⟩) hSw ?_
  rotate_left
  · (intro W hW; obtain ⟨hz0, hz1, hz2, hz3, hz4, hz5, hz6, hz7, hz8, hz9, hz10⟩ := hW; go_simp; try with_reducible rfl)
  try simp only [Act.put, List.setIfInBounds_toArray, List.set_cons_zero, List.set_cons_succ]
  refine wpAnyH_take (i := 1) (oi := { dst := some 40, op := Go.Op.makeInterface 33 (Go.Operand.tmp 39), type := 48, pos := "outright.go:32", after := #[{ on := 0, ground := Go.Ground.data }], guard := none }) (v := ?_) rfl (by kernel_rfl) (by kernel_rfl) (by kernel_rfl) (fun _ _ _ h => h) (Or.inl ⟨by rfl, ?_⟩) hSw ?_
  rotate_left
  · (intro W hW; obtain ⟨hz0, hz1, hz2, hz3, hz4, hz5, hz6, hz7, hz8, hz9, hz10⟩ := hW; go_simp; try with_reducible rfl)
  try simp only [Act.put, List.setIfInBounds_toArray, List.set_cons_zero, List.set_cons_succ]
  refine wpAnyH_take (i := 4) (oi := { dst := some 43, op := Go.Op.move (Go.Operand.tmp 1), type := 22, pos := "outright.go:32", after := #[], guard := none }) (v := ?_) rfl (by kernel_rfl) (by kernel_rfl) (by kernel_rfl) (fun _ _ _ h => h) (Or.inl ⟨by rfl, ?_⟩) hSw ?_
  rotate_left
  · (intro W hW; obtain ⟨hz0, hz1, hz2, hz3, hz4, hz5, hz6, hz7, hz8, hz9, hz10⟩ := hW; go_simp; try with_reducible rfl)
  try simp only [Act.put, List.setIfInBounds_toArray, List.set_cons_zero, List.set_cons_succ]
  refine wpAnyH_ready (rs := [2]) (by kernel_rfl) (by simp) ?_
  refine AllReadyH.cons (o := { dst := some 41, op := Go.Op.call { callee := Go.Callee.value (Go.Operand.func 17), args := #[Go.Operand.tmp 40], argTypes := #[48] }, type := 33, pos := "outright.go:32", after := #[{ on := 1, ground := Go.Ground.data }], guard := none }) rfl (fun K hK => ?_) AllReadyH.nil
  rw [if_pos (by rfl)]
  go_simp
  refine (must_tree _ Al nl cl).mono ?_
  rintro e w10 ⟨rfl, hc10⟩
  have HG10 := Lib.hid ((HG9.out.drew).no hc10)
  have HT10 := Lib.hid (hc10.heap (((Chg.refl No _).drew).heap HT9.out (fun x => x)) (fun x => x))
  have HC10 := Lib.hid (hc10.heap (((Chg.refl No _).drew).heap HC9.out (fun x => x)) (fun x => x))
  have HP10 := Lib.hid (hc10.heap (((Chg.refl No _).drew).heap HP9.out (fun x => x)) (fun x => x))
  clear hc10
  refine hK.out _ _ ⟨cellAt HT10.out 0 _ rfl, (cells5b HC10.out).1, (cells5b HC10.out).2.1, (cells5b HC10.out).2.2.1, (cells5b HC10.out).2.2.2.1, (cells5b HC10.out).2.2.2.2, (cells5b HP10.out).1, (cells5b HP10.out).2.1, (cells5b HP10.out).2.2.1, (cells5b HP10.out).2.2.2.1, (cells5b HP10.out).2.2.2.2⟩ (fun hSw => ?_)
  clear hK
  try simp only [Act.put, List.setIfInBounds_toArray, List.set_cons_zero, List.set_cons_succ]
  refine wpAnyH_take (i := 3) (oi := { dst := some 42, op := Go.Op.field 33 (Go.Operand.tmp 41) 0, type := 22, pos := "outright.go:32", after := #[{ on := 2, ground := Go.Ground.data }], guard := none }) (v := ?_) rfl (by kernel_rfl) (by kernel_rfl) (by kernel_rfl) (fun _ _ _ h => h) (Or.inl ⟨by rfl, ?_⟩) hSw ?_
  rotate_left
  · (intro W hW; obtain ⟨hz0, hz1, hz2, hz3, hz4, hz5, hz6, hz7, hz8, hz9, hz10⟩ := hW; go_simp; try with_reducible rfl)
  try simp only [Act.put, List.setIfInBounds_toArray, List.set_cons_zero, List.set_cons_succ]
  refine wpAnyH_ready (rs := [5]) (by kernel_rfl) (by simp) ?_
  refine AllReadyH.cons (o := { dst := some 44, op := Go.Op.call { callee := Go.Callee.value (Go.Operand.func 16), args := #[Go.Operand.tmp 42, Go.Operand.tmp 43], argTypes := #[22, 22] }, type := 4, pos := "outright.go:32", after := #[{ on := 3, ground := Go.Ground.data }, { on := 4, ground := Go.Ground.data }, { on := 2, ground := Go.Ground.chain }], guard := none }) rfl (fun K hK => ?_) AllReadyH.nil
  rw [if_pos (by rfl)]
  go_simp
  refine (HEN.out _ HG10.out).mono ?_
  rintro e w11 ⟨rfl, hc11⟩
  have HG11 := Lib.hid ((HG10.out).no hc11)
  have HT11 := Lib.hid (hc11.heap HT10.out (fun x => x))
  have HC11 := Lib.hid (hc11.heap HC10.out (fun x => x))
  have HP11 := Lib.hid (hc11.heap HP10.out (fun x => x))
  clear hc11
  refine hK.out _ _ ⟨cellAt HT11.out 0 _ rfl, (cells5b HC11.out).1, (cells5b HC11.out).2.1, (cells5b HC11.out).2.2.1, (cells5b HC11.out).2.2.2.1, (cells5b HC11.out).2.2.2.2, (cells5b HP11.out).1, (cells5b HP11.out).2.1, (cells5b HP11.out).2.2.1, (cells5b HP11.out).2.2.2.1, (cells5b HP11.out).2.2.2.2⟩ (fun hSw => ?_)
  clear hK
  try simp only [Act.put, List.setIfInBounds_toArray, List.set_cons_zero, List.set_cons_succ]
  refine wpAnyH_take (i := 6) (oi := { dst := some 45, op := Go.Op.move (Go.Operand.tmp 44), type := 4, pos := "outright.go:32", after := #[{ on := 5, ground := Go.Ground.data }, { on := 5, ground := Go.Ground.chain }], guard := none }) (v := ?_) rfl (by kernel_rfl) (by kernel_rfl) (by kernel_rfl) (fun _ _ _ h => h) (Or.inl ⟨by rfl, ?_⟩) hSw ?_
  rotate_left
  · (intro W hW; obtain ⟨hz0, hz1, hz2, hz3, hz4, hz5, hz6, hz7, hz8, hz9, hz10⟩ := hW; go_simp; try with_reducible rfl)
  try simp only [Act.put, List.setIfInBounds_toArray, List.set_cons_zero, List.set_cons_succ]
  refine wpAnyH_take (i := 7) (oi := { dst := some 46, op := Go.Op.load 27 (Go.Operand.tmp 9), type := 27, pos := "outright.go:32", after := #[{ on := 6, ground := Go.Ground.guard }], guard := some (6, true) }) (v := ?_) rfl (by kernel_rfl) (by kernel_rfl) (by kernel_rfl) (fun _ _ _ h => h) (Or.inl ⟨by rfl, ?_⟩) hSw ?_
  rotate_left
  · (intro W hW; obtain ⟨hz0, hz1, hz2, hz3, hz4, hz5, hz6, hz7, hz8, hz9, hz10⟩ := hW; go_simp; try with_reducible rfl)
  try simp only [Act.put, List.setIfInBounds_toArray, List.set_cons_zero, List.set_cons_succ]
  refine wpAnyH_take (i := 8) (oi := { dst := some 47, op := Go.Op.makeInterface 27 (Go.Operand.tmp 46), type := 48, pos := "outright.go:32", after := #[{ on := 7, ground := Go.Ground.data }, { on := 6, ground := Go.Ground.guard }], guard := some (6, true) }) (v := ?_) rfl (by kernel_rfl) (by kernel_rfl) (by kernel_rfl) (fun _ _ _ h => h) (Or.inl ⟨by rfl, ?_⟩) hSw ?_
  rotate_left
  · (intro W hW; obtain ⟨hz0, hz1, hz2, hz3, hz4, hz5, hz6, hz7, hz8, hz9, hz10⟩ := hW; go_simp; try with_reducible rfl)
  try simp only [Act.put, List.setIfInBounds_toArray, List.set_cons_zero, List.set_cons_succ]
  refine wpAnyH_take (i := 10) (oi := { dst := some 49, op := Go.Op.load 27 (Go.Operand.tmp 5), type := 27, pos := "outright.go:32", after := #[{ on := 6, ground := Go.Ground.guard }], guard := some (6, true) }) (v := ?_) rfl (by kernel_rfl) (by kernel_rfl) (by kernel_rfl) (fun _ _ _ h => h) (Or.inl ⟨by rfl, ?_⟩) hSw ?_
  rotate_left
  · (intro W hW; obtain ⟨hz0, hz1, hz2, hz3, hz4, hz5, hz6, hz7, hz8, hz9, hz10⟩ := hW; go_simp; try with_reducible rfl)
  try simp only [Act.put, List.setIfInBounds_toArray, List.set_cons_zero, List.set_cons_succ]
  refine wpAnyH_ready (rs := [9]) (by kernel_rfl) (by simp) ?_
  refine AllReadyH.cons (o := { dst := some 48, op := Go.Op.call { callee := Go.Callee.value (Go.Operand.func 19), args := #[Go.Operand.tmp 47], argTypes := #[48] }, type := 27, pos := "outright.go:32", after := #[{ on := 8, ground := Go.Ground.data }, { on := 6, ground := Go.Ground.chain }, { on := 6, ground := Go.Ground.guard }], guard := some (6, true) }) rfl (fun K hK => ?_) AllReadyH.nil
  rw [if_pos (by rfl)]
  go_simp
  refine (must_commit _ t A n c a d x).mono ?_
  rintro e w12 ⟨rfl, hc12⟩
  have HG12 := Lib.hid ((HG11.out).no hc12)
  have HT12 := Lib.hid (hc12.heap HT11.out (fun x => x))
  have HC12 := Lib.hid (hc12.heap HC11.out (fun x => x))
  have HP12 := Lib.hid (hc12.heap HP11.out (fun x => x))
  clear hc12
  refine hK.out _ _ ⟨cellAt HT12.out 0 _ rfl, (cells5b HC12.out).1, (cells5b HC12.out).2.1, (cells5b HC12.out).2.2.1, (cells5b HC12.out).2.2.2.1, (cells5b HC12.out).2.2.2.2, (cells5b HP12.out).1, (cells5b HP12.out).2.1, (cells5b HP12.out).2.2.1, (cells5b HP12.out).2.2.2.1, (cells5b HP12.out).2.2.2.2⟩ (fun hSw => ?_)
  clear hK
  try simp only [Act.put, List.setIfInBounds_toArray, List.set_cons_zero, List.set_cons_succ]
  refine wpAnyH_ready (rs := [11]) (by kernel_rfl) (by simp) ?_
  refine AllReadyH.cons (o := { dst := some 50, op := Go.Op.call { callee := Go.Callee.value (Go.Operand.func 18), args := #[Go.Operand.tmp 48, Go.Operand.tmp 49], argTypes := #[27, 27] }, type := 4, pos := "outright.go:32", after := #[{ on := 9, ground := Go.Ground.data }, { on := 10, ground := Go.Ground.data }, { on := 9, ground := Go.Ground.chain }, { on := 6, ground := Go.Ground.guard }], guard := some (6, true) }) rfl (fun K hK => ?_) AllReadyH.nil
  rw [if_pos (by rfl)]
  go_simp
  refine (HCM.out _ HG12.out).mono ?_
  rintro e w13 ⟨rfl, hc13⟩
  have HG13 := Lib.hid ((HG12.out).no hc13)
  have HT13 := Lib.hid (hc13.heap HT12.out (fun x => x))
  have HC13 := Lib.hid (hc13.heap HC12.out (fun x => x))
  have HP13 := Lib.hid (hc13.heap HP12.out (fun x => x))
  clear hc13
  refine hK.out _ _ ⟨cellAt HT13.out 0 _ rfl, (cells5b HC13.out).1, (cells5b HC13.out).2.1, (cells5b HC13.out).2.2.1, (cells5b HC13.out).2.2.2.1, (cells5b HC13.out).2.2.2.2, (cells5b HP13.out).1, (cells5b HP13.out).2.1, (cells5b HP13.out).2.2.1, (cells5b HP13.out).2.2.2.1, (cells5b HP13.out).2.2.2.2⟩ (fun hSw => ?_)
  clear hK
  try simp only [Act.put, List.setIfInBounds_toArray, List.set_cons_zero, List.set_cons_succ]
  refine wpAnyH_take (i := 12) (oi := { dst := some 51, op := Go.Op.pick (Go.Operand.tmp 45) (Go.Operand.tmp 50) (Go.Operand.const (Go.Value.bool false)), type := 4, pos := "outright.go:32", after := #[{ on := 6, ground := Go.Ground.data }, { on := 11, ground := Go.Ground.data }], guard := none }) (v := ?_) rfl (by kernel_rfl) (by kernel_rfl) (by kernel_rfl) (fun _ _ _ h => h) (Or.inl ⟨by rfl, ?_⟩) hSw ?_
  rotate_left
  · (intro W hW; obtain ⟨hz0, hz1, hz2, hz3, hz4, hz5, hz6, hz7, hz8, hz9, hz10⟩ := hW; go_simp; try with_reducible rfl)
  try simp only [Act.put, List.setIfInBounds_toArray, List.set_cons_zero, List.set_cons_succ]
  refine wpAnyH_take (i := 13) (oi := { dst := some 52, op := Go.Op.move (Go.Operand.tmp 51), type := 4, pos := "outright.go:32", after := #[{ on := 12, ground := Go.Ground.data }, { on := 11, ground := Go.Ground.chain }], guard := none }) (v := ?_) rfl (by kernel_rfl) (by kernel_rfl) (by kernel_rfl) (fun _ _ _ h => h) (Or.inl ⟨by rfl, ?_⟩) hSw ?_
  rotate_left
  · (intro W hW; obtain ⟨hz0, hz1, hz2, hz3, hz4, hz5, hz6, hz7, hz8, hz9, hz10⟩ := hW; go_simp; try with_reducible rfl)
  try simp only [Act.put, List.setIfInBounds_toArray, List.set_cons_zero, List.set_cons_succ]
  refine wpAnyH_ready (rs := [14]) (by kernel_rfl) (by simp) ?_
  refine AllReadyH.cons (o := { dst := some 53, op := Go.Op.call { callee := Go.Callee.value (Go.Operand.func 13), args := #[], argTypes := #[] }, type := 4, pos := "outright.go:32", after := #[{ on := 13, ground := Go.Ground.chain }, { on := 13, ground := Go.Ground.guard }], guard := some (13, true) }) rfl (fun K hK => ?_) AllReadyH.nil
  rw [if_pos (by rfl)]
  go_simp
  refine (wakes_calls _).mono ?_
  rintro e w14 ⟨rfl, hc14⟩
  have HG14 := Lib.hid ((HG13.out).no hc14)
  have HT14 := Lib.hid (hc14.heap HT13.out (fun x => x))
  have HC14 := Lib.hid (hc14.heap HC13.out (fun x => x))
  have HP14 := Lib.hid (hc14.heap HP13.out (fun x => x))
  clear hc14
  refine hK.out _ _ ⟨cellAt HT14.out 0 _ rfl, (cells5b HC14.out).1, (cells5b HC14.out).2.1, (cells5b HC14.out).2.2.1, (cells5b HC14.out).2.2.2.1, (cells5b HC14.out).2.2.2.2, (cells5b HP14.out).1, (cells5b HP14.out).2.1, (cells5b HP14.out).2.2.1, (cells5b HP14.out).2.2.2.1, (cells5b HP14.out).2.2.2.2⟩ (fun hSw => ?_)
  clear hK
  try simp only [Act.put, List.setIfInBounds_toArray, List.set_cons_zero, List.set_cons_succ]
  refine wpAnyH_take (i := 15) (oi := { dst := some 54, op := Go.Op.pick (Go.Operand.tmp 52) (Go.Operand.tmp 53) (Go.Operand.const (Go.Value.bool false)), type := 4, pos := "outright.go:32", after := #[{ on := 13, ground := Go.Ground.data }, { on := 14, ground := Go.Ground.data }], guard := none }) (v := ?_) rfl (by kernel_rfl) (by kernel_rfl) (by kernel_rfl) (fun _ _ _ h => h) (Or.inl ⟨by rfl, ?_⟩) hSw ?_
  rotate_left
  · (intro W hW; obtain ⟨hz0, hz1, hz2, hz3, hz4, hz5, hz6, hz7, hz8, hz9, hz10⟩ := hW; go_simp; try with_reducible rfl)
  try simp only [Act.put, List.setIfInBounds_toArray, List.set_cons_zero, List.set_cons_succ]
  refine wpAnyH_take (i := 16) (oi := { dst := some 6, op := Go.Op.assign (Go.Operand.tmp 54), type := 4, pos := "outright.go:32", after := #[{ on := 15, ground := Go.Ground.data }, { on := 14, ground := Go.Ground.chain }, { on := 0, ground := Go.Ground.phase }, { on := 1, ground := Go.Ground.phase }, { on := 2, ground := Go.Ground.phase }, { on := 3, ground := Go.Ground.phase }, { on := 4, ground := Go.Ground.phase }, { on := 5, ground := Go.Ground.phase }, { on := 6, ground := Go.Ground.phase }, { on := 7, ground := Go.Ground.phase }, { on := 8, ground := Go.Ground.phase }, { on := 9, ground := Go.Ground.phase }, { on := 10, ground := Go.Ground.phase }, { on := 11, ground := Go.Ground.phase }, { on := 12, ground := Go.Ground.phase }, { on := 13, ground := Go.Ground.phase }, { on := 14, ground := Go.Ground.phase }, { on := 15, ground := Go.Ground.phase }], guard := none }) (v := ?_) rfl (by kernel_rfl) (by kernel_rfl) (by kernel_rfl) (fun _ _ _ h => h) (Or.inl ⟨by rfl, ?_⟩) hSw ?_
  rotate_left
  · (intro W hW; obtain ⟨hz0, hz1, hz2, hz3, hz4, hz5, hz6, hz7, hz8, hz9, hz10⟩ := hW; go_simp; try with_reducible rfl)
  try simp only [Act.put, List.setIfInBounds_toArray, List.set_cons_zero, List.set_cons_succ]
  refine wpAnyH_done (by kernel_rfl) ?_ _
  go_wp2
  go_ret
  exact ⟨rfl, HG14.out⟩

theorem objectMust_walk (w : World) (Ab : Option Addr) (nb cb : Nat) (xs : List UInt8) (hb : Bytes w (.slice Ab nb cb) xs) (hl : xs.length = nb) (hnb : nb ≤ 140737488351232)
    (Al : Option Addr) (nl cl : Nat) (ys0 : List Ent) (hy : Es w (.slice Al nl cl) ys0) (hyb : ∀ x ∈ ys0, x.1.size ≤ maxLen ∧ x.2.2 < 18446744073709551616) (hnl : nl ≤ maxLen)
    (t : Nat) (A : Option Addr) (n c : Nat) (ps : List Nat) (a : ByteArray) (d : Int) (x : ByteArray) (hs : Sl u64v w (.slice A n c) ps) (hp : ∀ q ∈ ps, q < 18446744073709551616) (ht : t < 18446744073709551616) (hn : n ≤ maxLen) (ha : a.size ≤ maxLen) (hx : x.size ≤ maxLen) (hd1 : -9223372036854775808 ≤ d) (hd2 : d ≤ 9223372036854775807) :
    Calls Try.prog 4 #[.slice Ab nb cb, .slice Al nl cl, .agg #[.int .u64 (t : Int), .slice A n c, .string a, .int .i64 d, .string x]] w fun e w' => e = .returned (.bool true) ∧ Below w.heap.size w w' :=
  (objectMust_core w Ab nb cb Al nl cl ys0 hy hnl t A n c ps a d x hs hn).mono fun _ _ h => ⟨h.1, h.2.below⟩
end Go.Proofs.Ytkmnkbmmgopldaa
