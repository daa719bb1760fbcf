/-
  The walk of ObjectSame.
-/
import Derived.Test.YtkmnkbmmgopldaaOs
import Derived.Deep.RegionHeld3
namespace Go.Proofs.Ytkmnkbmmgopldaa
open Go.RowKit
set_option linter.unusedVariables false
set_option linter.unusedSimpArgs false
set_option maxRecDepth 100000

theorem cells5 {W : World} {g : Nat} {a b c d e : Value} {t : TypeId} {fz : Nat × Nat} (h : W.heap[g]? = some (.cells #[a, b, c, d, e] t fz)) :
    W.cell? ⟨g, 0, none⟩ = some a ∧ W.cell? ⟨g, 1, none⟩ = some b ∧ W.cell? ⟨g, 2, none⟩ = some c ∧ W.cell? ⟨g, 3, none⟩ = some d ∧ W.cell? ⟨g, 4, none⟩ = some e :=
  ⟨cellAt h 0 a rfl, cellAt h 1 b rfl, cellAt h 2 c rfl, cellAt h 3 d rfl, cellAt h 4 e rfl⟩

set_option maxHeartbeats 6400000 in
theorem objectSame_core (w : World) (t1 : Nat) (A1 : Option Addr) (n1 c1 : Nat) (a1 : ByteArray) (d1 : Int) (x1 : ByteArray) (t2 : Nat) (A2 : Option Addr) (n2 c2 : Nat) (a2 : ByteArray) (d2 : Int) (x2 : ByteArray) (t3 : Nat) (A3 : Option Addr) (n3 c3 : Nat) (a3 : ByteArray) (d3 : Int) (x3 : ByteArray)
  (X Y Z E : Bool) (F i1 i2 : Nat) (k1 k2 : Int)
  (sAB : ∀ W, Chg No w W → Calls Try.prog 24 #[(commitV (t1 : Int) (.slice A1 n1 c1) a1 d1 x1), (commitV (t2 : Int) (.slice A2 n2 c2) a2 d2 x2)] W fun e w' => e = .returned (.bool X) ∧ Chg No W w')
  (sBC : ∀ W, Chg No w W → Calls Try.prog 24 #[(commitV (t2 : Int) (.slice A2 n2 c2) a2 d2 x2), (commitV (t3 : Int) (.slice A3 n3 c3) a3 d3 x3)] W fun e w' => e = .returned (.bool Y) ∧ Chg No W w')
  (sAC : ∀ W, Chg No w W → Calls Try.prog 24 #[(commitV (t1 : Int) (.slice A1 n1 c1) a1 d1 x1), (commitV (t3 : Int) (.slice A3 n3 c3) a3 d3 x3)] W fun e w' => e = .returned (.bool Z) ∧ Chg No W w')
  (sBA : ∀ W, Chg No w W → Calls Try.prog 24 #[(commitV (t2 : Int) (.slice A2 n2 c2) a2 d2 x2), (commitV (t1 : Int) (.slice A1 n1 c1) a1 d1 x1)] W fun e w' => e = .returned (.bool X) ∧ Chg No W w')
  (cA : ∀ W, Chg No w W → Calls Try.prog 14 #[(commitV (t1 : Int) (.slice A1 n1 c1) a1 d1 x1)] W fun e w' => e = .returned (.int .i64 (F : Int)) ∧ Chg No W w')
  (cAB : ∀ W, Chg No w W → Calls Try.prog 18 #[.agg #[.int .u64 (t1 : Int), .slice A1 n1 c1, .string a1, .int .i64 d1, .string x1], .agg #[.int .u64 (t2 : Int), .slice A2 n2 c2, .string a2, .int .i64 d2, .string x2]] W fun e w' => e = .returned (.bool E) ∧ Chg No W w')
  (oA : ∀ W, Chg No w W → Calls Try.prog 30 #[(commitV (t1 : Int) (.slice A1 n1 c1) a1 d1 x1)] W fun e w' => e = .returned (.tuple #[.int .u64 (i1 : Int), .int .i64 k1]) ∧ Chg No W w')
  (oB : ∀ W, Chg No w W → Calls Try.prog 30 #[(commitV (t2 : Int) (.slice A2 n2 c2) a2 d2 x2)] W fun e w' => e = .returned (.tuple #[.int .u64 (i2 : Int), .int .i64 k2]) ∧ Chg No W w')
  (sT : ∀ W, Chg No w W → Calls Try.prog 24 #[(commitV (t1 : Int) (.slice A1 n1 c1) a1 d1 x1), treeV (.slice none 0 0)] W fun e w' => e = .returned (.bool false) ∧ Chg No W w')
  (hX : X = true → F = 0 ∧ E = true ∧ i2 = i1 ∧ i1 ≠ 0) (hX0 : X = false → F = 0 → E = false) (hXY : X = true → Y = true → Z = true) :
    Calls Try.prog 8 #[.agg #[.int .u64 (t1 : Int), .slice A1 n1 c1, .string a1, .int .i64 d1, .string x1], .agg #[.int .u64 (t2 : Int), .slice A2 n2 c2, .string a2, .int .i64 d2, .string x2], .agg #[.int .u64 (t3 : Int), .slice A3 n3 c3, .string a3, .int .i64 d3, .string x3]] w fun e w' => e = .returned (.bool true) ∧ Chg No w w' := by
  have SAB := Lib.hid sAB
  have SBC := Lib.hid sBC
  have SAC := Lib.hid sAC
  have SBA := Lib.hid sBA
  have CA := Lib.hid cA
  have CAB := Lib.hid cAB
  have OA := Lib.hid oA
  have OB := Lib.hid oB
  have ST := Lib.hid sT
  clear sAB sBC sAC sBA cA cAB oA oB sT
  have A : ∀ (W : World) (o o' : Obj) (k : Nat), W.heap[k]? = some o → (W.alloc o').heap[k]? = some o := fun W o o' k h => ((Chg.refl No W).alloc o').heap h (fun x => x)
  have i1 := heap_alloc_new w (.cells #[.int .u64 (t1 : Int), .slice A1 n1 c1, .string a1, .int .i64 d1, .string x1] 27)
  have i2 := heap_alloc_new (w.alloc (.cells #[.int .u64 (t1 : Int), .slice A1 n1 c1, .string a1, .int .i64 d1, .string x1] 27)) (.cells #[.int .u64 (t2 : Int), .slice A2 n2 c2, .string a2, .int .i64 d2, .string x2] 27)
  have i3 := heap_alloc_new ((w.alloc (.cells #[.int .u64 (t1 : Int), .slice A1 n1 c1, .string a1, .int .i64 d1, .string x1] 27)).alloc (.cells #[.int .u64 (t2 : Int), .slice A2 n2 c2, .string a2, .int .i64 d2, .string x2] 27)) (.cells #[.int .u64 (t3 : Int), .slice A3 n3 c3, .string a3, .int .i64 d3, .string x3] 27)
  simp only [World.size_alloc] at i1 i2 i3
  have HQ1 := Lib.hid (A _ _ (.cells #[.int .u64 (t3 : Int), .slice A3 n3 c3, .string a3, .int .i64 d3, .string x3] 27) _ (A _ _ (.cells #[.int .u64 (t2 : Int), .slice A2 n2 c2, .string a2, .int .i64 d2, .string x2] 27) _ i1))
  have HQ2 := Lib.hid (A _ _ (.cells #[.int .u64 (t3 : Int), .slice A3 n3 c3, .string a3, .int .i64 d3, .string x3] 27) _ i2)
  have HQ3 := Lib.hid i3
  clear A i1 i2 i3
  go_enter Try.func8, Try.ntmps8
  go_wp2_with fail
  refine (wakes_calls _).mono ?_
  rintro e w1 ⟨rfl, hc1⟩
  have HP11 := Lib.hid (hc1.heap HQ1.out (fun x => x))
  have HP12 := Lib.hid (hc1.heap HQ2.out (fun x => x))
  have HP13 := Lib.hid (hc1.heap HQ3.out (fun x => x))
  have HC1 := Lib.hid ((((((Chg.refl No w).alloc _).alloc _).alloc _)).no hc1)
  clear hc1 HQ1 HQ2 HQ3
  generalize hg3 : w.heap.size + 1 + 1 = g3 at *
  generalize hg2 : w.heap.size + 1 = g2 at *
  generalize hg1 : w.heap.size = g1 at *
  go_wp2
  refine wp_region_held_drew (S := (fun W => (W.cell? ⟨g1, 0, none⟩ = some (.int .u64 (t1 : Int)) ∧ W.cell? ⟨g1, 1, none⟩ = some (.slice A1 n1 c1) ∧ W.cell? ⟨g1, 2, none⟩ = some (.string a1) ∧ W.cell? ⟨g1, 3, none⟩ = some (.int .i64 d1) ∧ W.cell? ⟨g1, 4, none⟩ = some (.string x1)) ∧ (W.cell? ⟨g2, 0, none⟩ = some (.int .u64 (t2 : Int)) ∧ W.cell? ⟨g2, 1, none⟩ = some (.slice A2 n2 c2) ∧ W.cell? ⟨g2, 2, none⟩ = some (.string a2) ∧ W.cell? ⟨g2, 3, none⟩ = some (.int .i64 d2) ∧ W.cell? ⟨g2, 4, none⟩ = some (.string x2)) ∧ (W.cell? ⟨g3, 0, none⟩ = some (.int .u64 (t3 : Int)) ∧ W.cell? ⟨g3, 1, none⟩ = some (.slice A3 n3 c3) ∧ W.cell? ⟨g3, 2, none⟩ = some (.string a3) ∧ W.cell? ⟨g3, 3, none⟩ = some (.int .i64 d3) ∧ W.cell? ⟨g3, 4, none⟩ = some (.string x3)))) (by kernel_rfl) ⟨cells5 HP11.out, cells5 HP12.out, cells5 HP13.out⟩ (fun hSw => ?_)
  refine wpAnyH_take (i := 0) (oi := { dst := some 16, op := Go.Op.load 27 (Go.Operand.tmp 3), type := 27, pos := "outright.go:131", after := #[], guard := none }) (v := ?_) rfl (by kernel_rfl) (by kernel_rfl) (by kernel_rfl) (fun _ _ _ h => h) (Or.inl ⟨by rfl, ?_⟩) hSw ?_
  rotate_left
  · (intro W hW; obtain ⟨⟨ha1, ha2, ha3, ha4, ha5⟩, ⟨hb1, hb2, hb3, hb4, hb5⟩, ⟨hd1, hd2, hd3, hd4, hd5⟩⟩ := hW; go_simp; try with_reducible rfl)
  try simp only [Act.put, List.setIfInBounds_toArray, List.set_cons_zero, List.set_cons_succ]
  refine wpAnyH_take (i := 1) (oi := { dst := some 17, op := Go.Op.makeInterface 27 (Go.Operand.tmp 16), type := 48, pos := "outright.go:131", after := #[{ on := 0, ground := Go.Ground.data }], guard := none }) (v := ?_) rfl (by kernel_rfl) (by kernel_rfl) (by kernel_rfl) (fun _ _ _ h => h) (Or.inl ⟨by rfl, ?_⟩) hSw ?_
  rotate_left
  · (intro W hW; obtain ⟨⟨ha1, ha2, ha3, ha4, ha5⟩, ⟨hb1, hb2, hb3, hb4, hb5⟩, ⟨hd1, hd2, hd3, hd4, hd5⟩⟩ := hW; go_simp; try with_reducible rfl)
  try simp only [Act.put, List.setIfInBounds_toArray, List.set_cons_zero, List.set_cons_succ]
  refine wpAnyH_take (i := 2) (oi := { dst := some 18, op := Go.Op.load 27 (Go.Operand.tmp 4), type := 27, pos := "outright.go:131", after := #[], guard := none }) (v := ?_) rfl (by kernel_rfl) (by kernel_rfl) (by kernel_rfl) (fun _ _ _ h => h) (Or.inl ⟨by rfl, ?_⟩) hSw ?_
  rotate_left
  · (intro W hW; obtain ⟨⟨ha1, ha2, ha3, ha4, ha5⟩, ⟨hb1, hb2, hb3, hb4, hb5⟩, ⟨hd1, hd2, hd3, hd4, hd5⟩⟩ := hW; go_simp; try with_reducible rfl)
  try simp only [Act.put, List.setIfInBounds_toArray, List.set_cons_zero, List.set_cons_succ]
  refine wpAnyH_take (i := 3) (oi := { dst := some 19, op := Go.Op.makeInterface 27 (Go.Operand.tmp 18), type := 48, pos := "outright.go:131", after := #[{ on := 2, ground := Go.Ground.data }], guard := none }) (v := ?_) rfl (by kernel_rfl) (by kernel_rfl) (by kernel_rfl) (fun _ _ _ h => h) (Or.inl ⟨by rfl, ?_⟩) hSw ?_
  rotate_left
  · (intro W hW; obtain ⟨⟨ha1, ha2, ha3, ha4, ha5⟩, ⟨hb1, hb2, hb3, hb4, hb5⟩, ⟨hd1, hd2, hd3, hd4, hd5⟩⟩ := hW; go_simp; try with_reducible rfl)
  try simp only [Act.put, List.setIfInBounds_toArray, List.set_cons_zero, List.set_cons_succ]
  refine wpAnyH_take (i := 5) (oi := { dst := some 21, op := Go.Op.load 27 (Go.Operand.tmp 4), type := 27, pos := "outright.go:131", after := #[], guard := none }) (v := ?_) rfl (by kernel_rfl) (by kernel_rfl) (by kernel_rfl) (fun _ _ _ h => h) (Or.inl ⟨by rfl, ?_⟩) hSw ?_
  rotate_left
  · (intro W hW; obtain ⟨⟨ha1, ha2, ha3, ha4, ha5⟩, ⟨hb1, hb2, hb3, hb4, hb5⟩, ⟨hd1, hd2, hd3, hd4, hd5⟩⟩ := hW; go_simp; try with_reducible rfl)
  try simp only [Act.put, List.setIfInBounds_toArray, List.set_cons_zero, List.set_cons_succ]
  refine wpAnyH_take (i := 6) (oi := { dst := some 22, op := Go.Op.makeInterface 27 (Go.Operand.tmp 21), type := 48, pos := "outright.go:131", after := #[{ on := 5, ground := Go.Ground.data }], guard := none }) (v := ?_) rfl (by kernel_rfl) (by kernel_rfl) (by kernel_rfl) (fun _ _ _ h => h) (Or.inl ⟨by rfl, ?_⟩) hSw ?_
  rotate_left
  · (intro W hW; obtain ⟨⟨ha1, ha2, ha3, ha4, ha5⟩, ⟨hb1, hb2, hb3, hb4, hb5⟩, ⟨hd1, hd2, hd3, hd4, hd5⟩⟩ := hW; go_simp; try with_reducible rfl)
  try simp only [Act.put, List.setIfInBounds_toArray, List.set_cons_zero, List.set_cons_succ]
  refine wpAnyH_take (i := 7) (oi := { dst := some 23, op := Go.Op.load 27 (Go.Operand.tmp 5), type := 27, pos := "outright.go:131", after := #[], guard := none }) (v := ?_) rfl (by kernel_rfl) (by kernel_rfl) (by kernel_rfl) (fun _ _ _ h => h) (Or.inl ⟨by rfl, ?_⟩) hSw ?_
  rotate_left
  · (intro W hW; obtain ⟨⟨ha1, ha2, ha3, ha4, ha5⟩, ⟨hb1, hb2, hb3, hb4, hb5⟩, ⟨hd1, hd2, hd3, hd4, hd5⟩⟩ := hW; go_simp; try with_reducible rfl)
  try simp only [Act.put, List.setIfInBounds_toArray, List.set_cons_zero, List.set_cons_succ]
  refine wpAnyH_take (i := 8) (oi := { dst := some 24, op := Go.Op.makeInterface 27 (Go.Operand.tmp 23), type := 48, pos := "outright.go:131", after := #[{ on := 7, ground := Go.Ground.data }], guard := none }) (v := ?_) rfl (by kernel_rfl) (by kernel_rfl) (by kernel_rfl) (fun _ _ _ h => h) (Or.inl ⟨by rfl, ?_⟩) hSw ?_
  rotate_left
  · (intro W hW; obtain ⟨⟨ha1, ha2, ha3, ha4, ha5⟩, ⟨hb1, hb2, hb3, hb4, hb5⟩, ⟨hd1, hd2, hd3, hd4, hd5⟩⟩ := hW; go_simp; try with_reducible rfl)
  try simp only [Act.put, List.setIfInBounds_toArray, List.set_cons_zero, List.set_cons_succ]
  refine wpAnyH_take (i := 10) (oi := { dst := some 26, op := Go.Op.load 27 (Go.Operand.tmp 3), type := 27, pos := "outright.go:131", after := #[], guard := none }) (v := ?_) rfl (by kernel_rfl) (by kernel_rfl) (by kernel_rfl) (fun _ _ _ h => h) (Or.inl ⟨by rfl, ?_⟩) hSw ?_
  rotate_left
  · (intro W hW; obtain ⟨⟨ha1, ha2, ha3, ha4, ha5⟩, ⟨hb1, hb2, hb3, hb4, hb5⟩, ⟨hd1, hd2, hd3, hd4, hd5⟩⟩ := hW; go_simp; try with_reducible rfl)
  try simp only [Act.put, List.setIfInBounds_toArray, List.set_cons_zero, List.set_cons_succ]
  refine wpAnyH_take (i := 11) (oi := { dst := some 27, op := Go.Op.makeInterface 27 (Go.Operand.tmp 26), type := 48, pos := "outright.go:131", after := #[{ on := 10, ground := Go.Ground.data }], guard := none }) (v := ?_) rfl (by kernel_rfl) (by kernel_rfl) (by kernel_rfl) (fun _ _ _ h => h) (Or.inl ⟨by rfl, ?_⟩) hSw ?_
  rotate_left
  · (intro W hW; obtain ⟨⟨ha1, ha2, ha3, ha4, ha5⟩, ⟨hb1, hb2, hb3, hb4, hb5⟩, ⟨hd1, hd2, hd3, hd4, hd5⟩⟩ := hW; go_simp; try with_reducible rfl)
  try simp only [Act.put, List.setIfInBounds_toArray, List.set_cons_zero, List.set_cons_succ]
  refine wpAnyH_take (i := 12) (oi := { dst := some 28, op := Go.Op.load 27 (Go.Operand.tmp 5), type := 27, pos := "outright.go:131", after := #[], guard := none }) (v := ?_) rfl (by kernel_rfl) (by kernel_rfl) (by kernel_rfl) (fun _ _ _ h => h) (Or.inl ⟨by rfl, ?_⟩) hSw ?_
  rotate_left
  · (intro W hW; obtain ⟨⟨ha1, ha2, ha3, ha4, ha5⟩, ⟨hb1, hb2, hb3, hb4, hb5⟩, ⟨hd1, hd2, hd3, hd4, hd5⟩⟩ := hW; go_simp; try with_reducible rfl)
  try simp only [Act.put, List.setIfInBounds_toArray, List.set_cons_zero, List.set_cons_succ]
  refine wpAnyH_take (i := 13) (oi := { dst := some 29, op := Go.Op.makeInterface 27 (Go.Operand.tmp 28), type := 48, pos := "outright.go:131", after := #[{ on := 12, ground := Go.Ground.data }], guard := none }) (v := ?_) rfl (by kernel_rfl) (by kernel_rfl) (by kernel_rfl) (fun _ _ _ h => h) (Or.inl ⟨by rfl, ?_⟩) hSw ?_
  rotate_left
  · (intro W hW; obtain ⟨⟨ha1, ha2, ha3, ha4, ha5⟩, ⟨hb1, hb2, hb3, hb4, hb5⟩, ⟨hd1, hd2, hd3, hd4, hd5⟩⟩ := hW; go_simp; try with_reducible rfl)
  try simp only [Act.put, List.setIfInBounds_toArray, List.set_cons_zero, List.set_cons_succ]
  refine wpAnyH_ready (rs := [4]) (by kernel_rfl) (by simp) ?_
  refine AllReadyH.cons (o := { dst := some 20, op := Go.Op.call { callee := Go.Callee.value (Go.Operand.func 24), args := #[Go.Operand.tmp 17, Go.Operand.tmp 19], argTypes := #[48, 48] }, type := 4, pos := "outright.go:131", after := #[{ on := 1, ground := Go.Ground.data }, { on := 3, ground := Go.Ground.data }], guard := none }) rfl (fun K hK => ?_) AllReadyH.nil
  rw [if_pos (by rfl)]
  go_simp
  refine (SAB.out _ (HC1.out.drew)).mono ?_
  rintro e w2 ⟨rfl, hc2⟩
  have HC2 := Lib.hid ((HC1.out.drew).no hc2)
  have HP21 := Lib.hid (hc2.heap (((Chg.refl No _).drew).heap HP11.out (fun x => x)) (fun x => x))
  have HP22 := Lib.hid (hc2.heap (((Chg.refl No _).drew).heap HP12.out (fun x => x)) (fun x => x))
  have HP23 := Lib.hid (hc2.heap (((Chg.refl No _).drew).heap HP13.out (fun x => x)) (fun x => x))
  clear hc2
  refine hK.out _ _ ⟨cells5 HP21.out, cells5 HP22.out, cells5 HP23.out⟩ (fun hSw => ?_)
  clear hK
  try simp only [Act.put, List.setIfInBounds_toArray, List.set_cons_zero, List.set_cons_succ]
  refine wpAnyH_ready (rs := [9]) (by kernel_rfl) (by simp) ?_
  refine AllReadyH.cons (o := { dst := some 25, op := Go.Op.call { callee := Go.Callee.value (Go.Operand.func 24), args := #[Go.Operand.tmp 22, Go.Operand.tmp 24], argTypes := #[48, 48] }, type := 4, pos := "outright.go:131", after := #[{ on := 6, ground := Go.Ground.data }, { on := 8, ground := Go.Ground.data }, { on := 4, ground := Go.Ground.chain }], guard := none }) rfl (fun K hK => ?_) AllReadyH.nil
  rw [if_pos (by rfl)]
  go_simp
  refine (SBC.out _ (HC2.out)).mono ?_
  rintro e w3 ⟨rfl, hc3⟩
  have HC3 := Lib.hid ((HC2.out).no hc3)
  have HP31 := Lib.hid (hc3.heap HP21.out (fun x => x))
  have HP32 := Lib.hid (hc3.heap HP22.out (fun x => x))
  have HP33 := Lib.hid (hc3.heap HP23.out (fun x => x))
  clear hc3
  refine hK.out _ _ ⟨cells5 HP31.out, cells5 HP32.out, cells5 HP33.out⟩ (fun hSw => ?_)
  clear hK
  try simp only [Act.put, List.setIfInBounds_toArray, List.set_cons_zero, List.set_cons_succ]
  refine wpAnyH_ready (rs := [14]) (by kernel_rfl) (by simp) ?_
  refine AllReadyH.cons (o := { dst := some 30, op := Go.Op.call { callee := Go.Callee.value (Go.Operand.func 24), args := #[Go.Operand.tmp 27, Go.Operand.tmp 29], argTypes := #[48, 48] }, type := 4, pos := "outright.go:131", after := #[{ on := 11, ground := Go.Ground.data }, { on := 13, ground := Go.Ground.data }, { on := 9, ground := Go.Ground.chain }], guard := none }) rfl (fun K hK => ?_) AllReadyH.nil
  rw [if_pos (by rfl)]
  go_simp
  refine (SAC.out _ (HC3.out)).mono ?_
  rintro e w4 ⟨rfl, hc4⟩
  have HC4 := Lib.hid ((HC3.out).no hc4)
  have HP41 := Lib.hid (hc4.heap HP31.out (fun x => x))
  have HP42 := Lib.hid (hc4.heap HP32.out (fun x => x))
  have HP43 := Lib.hid (hc4.heap HP33.out (fun x => x))
  clear hc4
  refine hK.out _ _ ⟨cells5 HP41.out, cells5 HP42.out, cells5 HP43.out⟩ (fun hSw => ?_)
  clear hK
  try simp only [Act.put, List.setIfInBounds_toArray, List.set_cons_zero, List.set_cons_succ]
  refine wpAnyH_take (i := 15) (oi := { dst := some 7, op := Go.Op.assign (Go.Operand.tmp 20), type := 4, pos := "outright.go:131", after := #[{ on := 4, ground := Go.Ground.data }, { on := 14, ground := Go.Ground.chain }, { on := 0, ground := Go.Ground.phase }, { on := 1, ground := Go.Ground.phase }, { on := 2, ground := Go.Ground.phase }, { on := 3, ground := Go.Ground.phase }, { on := 4, ground := Go.Ground.phase }, { on := 5, ground := Go.Ground.textOnly Go.Departure.lateStores }, { on := 6, ground := Go.Ground.textOnly Go.Departure.lateStores }, { on := 7, ground := Go.Ground.textOnly Go.Departure.lateStores }, { on := 8, ground := Go.Ground.textOnly Go.Departure.lateStores }, { on := 9, ground := Go.Ground.textOnly Go.Departure.lateStoresUnsure }, { on := 10, ground := Go.Ground.textOnly Go.Departure.lateStores }, { on := 11, ground := Go.Ground.textOnly Go.Departure.lateStores }, { on := 12, ground := Go.Ground.textOnly Go.Departure.lateStores }, { on := 13, ground := Go.Ground.textOnly Go.Departure.lateStores }, { on := 14, ground := Go.Ground.textOnly Go.Departure.lateStoresUnsure }], guard := none }) (v := ?_) rfl (by kernel_rfl) (by kernel_rfl) (by kernel_rfl) (fun _ _ _ h => h) (Or.inl ⟨by rfl, ?_⟩) hSw ?_
  rotate_left
  · (intro W hW; obtain ⟨⟨ha1, ha2, ha3, ha4, ha5⟩, ⟨hb1, hb2, hb3, hb4, hb5⟩, ⟨hd1, hd2, hd3, hd4, hd5⟩⟩ := hW; go_simp; try with_reducible rfl)
  try simp only [Act.put, List.setIfInBounds_toArray, List.set_cons_zero, List.set_cons_succ]
  refine wpAnyH_take (i := 16) (oi := { dst := some 8, op := Go.Op.assign (Go.Operand.tmp 25), type := 4, pos := "outright.go:131", after := #[{ on := 9, ground := Go.Ground.data }, { on := 15, ground := Go.Ground.chain }, { on := 0, ground := Go.Ground.phase }, { on := 1, ground := Go.Ground.phase }, { on := 2, ground := Go.Ground.phase }, { on := 3, ground := Go.Ground.phase }, { on := 4, ground := Go.Ground.phase }, { on := 5, ground := Go.Ground.phase }, { on := 6, ground := Go.Ground.phase }, { on := 7, ground := Go.Ground.phase }, { on := 8, ground := Go.Ground.phase }, { on := 9, ground := Go.Ground.phase }, { on := 10, ground := Go.Ground.textOnly Go.Departure.lateStores }, { on := 11, ground := Go.Ground.textOnly Go.Departure.lateStores }, { on := 12, ground := Go.Ground.textOnly Go.Departure.lateStores }, { on := 13, ground := Go.Ground.textOnly Go.Departure.lateStores }, { on := 14, ground := Go.Ground.textOnly Go.Departure.lateStoresUnsure }, { on := 15, ground := Go.Ground.phase }], guard := none }) (v := ?_) rfl (by kernel_rfl) (by kernel_rfl) (by kernel_rfl) (fun _ _ _ h => h) (Or.inl ⟨by rfl, ?_⟩) hSw ?_
  rotate_left
  · (intro W hW; obtain ⟨⟨ha1, ha2, ha3, ha4, ha5⟩, ⟨hb1, hb2, hb3, hb4, hb5⟩, ⟨hd1, hd2, hd3, hd4, hd5⟩⟩ := hW; go_simp; try with_reducible rfl)
  try simp only [Act.put, List.setIfInBounds_toArray, List.set_cons_zero, List.set_cons_succ]
  refine wpAnyH_take (i := 17) (oi := { dst := some 9, op := Go.Op.assign (Go.Operand.tmp 30), type := 4, pos := "outright.go:131", after := #[{ on := 14, ground := Go.Ground.data }, { on := 16, ground := Go.Ground.chain }, { on := 0, ground := Go.Ground.phase }, { on := 1, ground := Go.Ground.phase }, { on := 2, ground := Go.Ground.phase }, { on := 3, ground := Go.Ground.phase }, { on := 4, ground := Go.Ground.phase }, { on := 5, ground := Go.Ground.phase }, { on := 6, ground := Go.Ground.phase }, { on := 7, ground := Go.Ground.phase }, { on := 8, ground := Go.Ground.phase }, { on := 9, ground := Go.Ground.phase }, { on := 10, ground := Go.Ground.phase }, { on := 11, ground := Go.Ground.phase }, { on := 12, ground := Go.Ground.phase }, { on := 13, ground := Go.Ground.phase }, { on := 14, ground := Go.Ground.phase }, { on := 15, ground := Go.Ground.phase }, { on := 16, ground := Go.Ground.phase }], guard := none }) (v := ?_) rfl (by kernel_rfl) (by kernel_rfl) (by kernel_rfl) (fun _ _ _ h => h) (Or.inl ⟨by rfl, ?_⟩) hSw ?_
  rotate_left
  · (intro W hW; obtain ⟨⟨ha1, ha2, ha3, ha4, ha5⟩, ⟨hb1, hb2, hb3, hb4, hb5⟩, ⟨hd1, hd2, hd3, hd4, hd5⟩⟩ := hW; go_simp; try with_reducible rfl)
  try simp only [Act.put, List.setIfInBounds_toArray, List.set_cons_zero, List.set_cons_succ]
  refine wpAnyH_done (by kernel_rfl) ?_ _
  cases X with
  | true =>
    obtain ⟨hF, hE, hi, hi0⟩ := hX rfl
    subst hF
    subst hE
    subst hi
    have b0 : ((i2 : Int) == 0) = false := by simp; omega
    clear hX hX0 hi0
    cases Y with
    | true =>
      have hZ := hXY rfl rfl
      subst hZ
      clear hXY
      have e10 := (cells5 HP41.out).1
      have e11 := (cells5 HP41.out).2.1
      have e12 := (cells5 HP41.out).2.2.1
      have e13 := (cells5 HP41.out).2.2.2.1
      have e14 := (cells5 HP41.out).2.2.2.2
      have e20 := (cells5 HP42.out).1
      have e21 := (cells5 HP42.out).2.1
      have e22 := (cells5 HP42.out).2.2.1
      have e23 := (cells5 HP42.out).2.2.2.1
      have e24 := (cells5 HP42.out).2.2.2.2
      go_wp2_with fail
      clear e10 e11 e12 e13 e14 e20 e21 e22 e23 e24
      refine (SBA.out _ HC4.out).mono ?_
      rintro e w5 ⟨rfl, hc5⟩
      have HC5 := Lib.hid (HC4.out.no hc5)
      have HP51 := Lib.hid (hc5.heap HP41.out (fun x => x))
      have HP52 := Lib.hid (hc5.heap HP42.out (fun x => x))
      clear hc5
      have e10 := (cells5 HP51.out).1
      have e11 := (cells5 HP51.out).2.1
      have e12 := (cells5 HP51.out).2.2.1
      have e13 := (cells5 HP51.out).2.2.2.1
      have e14 := (cells5 HP51.out).2.2.2.2
      have e20 := (cells5 HP52.out).1
      have e21 := (cells5 HP52.out).2.1
      have e22 := (cells5 HP52.out).2.2.1
      have e23 := (cells5 HP52.out).2.2.2.1
      have e24 := (cells5 HP52.out).2.2.2.2
      go_wp2_with fail
      clear e10 e11 e12 e13 e14 e20 e21 e22 e23 e24
      refine (CA.out _ HC5.out).mono ?_
      rintro e w6 ⟨rfl, hc6⟩
      have HC6 := Lib.hid (HC5.out.no hc6)
      have HP61 := Lib.hid (hc6.heap HP51.out (fun x => x))
      have HP62 := Lib.hid (hc6.heap HP52.out (fun x => x))
      clear hc6
      have e10 := (cells5 HP61.out).1
      have e11 := (cells5 HP61.out).2.1
      have e12 := (cells5 HP61.out).2.2.1
      have e13 := (cells5 HP61.out).2.2.2.1
      have e14 := (cells5 HP61.out).2.2.2.2
      have e20 := (cells5 HP62.out).1
      have e21 := (cells5 HP62.out).2.1
      have e22 := (cells5 HP62.out).2.2.1
      have e23 := (cells5 HP62.out).2.2.2.1
      have e24 := (cells5 HP62.out).2.2.2.2
      go_wp2_with fail
      clear e10 e11 e12 e13 e14 e20 e21 e22 e23 e24
      refine (CAB.out _ HC6.out).mono ?_
      rintro e w7 ⟨rfl, hc7⟩
      have HC7 := Lib.hid (HC6.out.no hc7)
      have HP71 := Lib.hid (hc7.heap HP61.out (fun x => x))
      have HP72 := Lib.hid (hc7.heap HP62.out (fun x => x))
      clear hc7
      have e10 := (cells5 HP71.out).1
      have e11 := (cells5 HP71.out).2.1
      have e12 := (cells5 HP71.out).2.2.1
      have e13 := (cells5 HP71.out).2.2.2.1
      have e14 := (cells5 HP71.out).2.2.2.2
      have e20 := (cells5 HP72.out).1
      have e21 := (cells5 HP72.out).2.1
      have e22 := (cells5 HP72.out).2.2.1
      have e23 := (cells5 HP72.out).2.2.2.1
      have e24 := (cells5 HP72.out).2.2.2.2
      go_wp2_with fail
      clear e10 e11 e12 e13 e14 e20 e21 e22 e23 e24
      refine (OA.out _ HC7.out).mono ?_
      rintro e w8 ⟨rfl, hc8⟩
      have HC8 := Lib.hid (HC7.out.no hc8)
      have HP81 := Lib.hid (hc8.heap HP71.out (fun x => x))
      have HP82 := Lib.hid (hc8.heap HP72.out (fun x => x))
      clear hc8
      have e10 := (cells5 HP81.out).1
      have e11 := (cells5 HP81.out).2.1
      have e12 := (cells5 HP81.out).2.2.1
      have e13 := (cells5 HP81.out).2.2.2.1
      have e14 := (cells5 HP81.out).2.2.2.2
      have e20 := (cells5 HP82.out).1
      have e21 := (cells5 HP82.out).2.1
      have e22 := (cells5 HP82.out).2.2.1
      have e23 := (cells5 HP82.out).2.2.2.1
      have e24 := (cells5 HP82.out).2.2.2.2
      go_wp2_with fail
      clear e10 e11 e12 e13 e14 e20 e21 e22 e23 e24
      refine (OB.out _ HC8.out).mono ?_
      rintro e w9 ⟨rfl, hc9⟩
      have HC9 := Lib.hid (HC8.out.no hc9)
      have HP91 := Lib.hid (hc9.heap HP81.out (fun x => x))
      have HP92 := Lib.hid (hc9.heap HP82.out (fun x => x))
      clear hc9
      have e10 := (cells5 HP91.out).1
      have e11 := (cells5 HP91.out).2.1
      have e12 := (cells5 HP91.out).2.2.1
      have e13 := (cells5 HP91.out).2.2.2.1
      have e14 := (cells5 HP91.out).2.2.2.2
      have e20 := (cells5 HP92.out).1
      have e21 := (cells5 HP92.out).2.1
      have e22 := (cells5 HP92.out).2.2.1
      have e23 := (cells5 HP92.out).2.2.2.1
      have e24 := (cells5 HP92.out).2.2.2.2
      go_wp2_with fail
      clear e10 e11 e12 e13 e14 e20 e21 e22 e23 e24
      refine (ST.out _ HC9.out).mono ?_
      rintro e w90 ⟨rfl, hc90⟩
      have HC90 := Lib.hid (HC9.out.no hc90)
      have HP901 := Lib.hid (hc90.heap HP91.out (fun x => x))
      have HP902 := Lib.hid (hc90.heap HP92.out (fun x => x))
      clear hc90
      go_wp2_with fail
      refine (wakes_calls _).mono ?_
      rintro e w91 ⟨rfl, hc91⟩
      go_wp2
      go_ret
      exact ⟨rfl, HC90.out.no hc91⟩
    | false =>
      have e10 := (cells5 HP41.out).1
      have e11 := (cells5 HP41.out).2.1
      have e12 := (cells5 HP41.out).2.2.1
      have e13 := (cells5 HP41.out).2.2.2.1
      have e14 := (cells5 HP41.out).2.2.2.2
      have e20 := (cells5 HP42.out).1
      have e21 := (cells5 HP42.out).2.1
      have e22 := (cells5 HP42.out).2.2.1
      have e23 := (cells5 HP42.out).2.2.2.1
      have e24 := (cells5 HP42.out).2.2.2.2
      go_wp2_with fail
      clear e10 e11 e12 e13 e14 e20 e21 e22 e23 e24
      refine (SBA.out _ HC4.out).mono ?_
      rintro e w5 ⟨rfl, hc5⟩
      have HC5 := Lib.hid (HC4.out.no hc5)
      have HP51 := Lib.hid (hc5.heap HP41.out (fun x => x))
      have HP52 := Lib.hid (hc5.heap HP42.out (fun x => x))
      clear hc5
      have e10 := (cells5 HP51.out).1
      have e11 := (cells5 HP51.out).2.1
      have e12 := (cells5 HP51.out).2.2.1
      have e13 := (cells5 HP51.out).2.2.2.1
      have e14 := (cells5 HP51.out).2.2.2.2
      have e20 := (cells5 HP52.out).1
      have e21 := (cells5 HP52.out).2.1
      have e22 := (cells5 HP52.out).2.2.1
      have e23 := (cells5 HP52.out).2.2.2.1
      have e24 := (cells5 HP52.out).2.2.2.2
      go_wp2_with fail
      clear e10 e11 e12 e13 e14 e20 e21 e22 e23 e24
      refine (CA.out _ HC5.out).mono ?_
      rintro e w6 ⟨rfl, hc6⟩
      have HC6 := Lib.hid (HC5.out.no hc6)
      have HP61 := Lib.hid (hc6.heap HP51.out (fun x => x))
      have HP62 := Lib.hid (hc6.heap HP52.out (fun x => x))
      clear hc6
      have e10 := (cells5 HP61.out).1
      have e11 := (cells5 HP61.out).2.1
      have e12 := (cells5 HP61.out).2.2.1
      have e13 := (cells5 HP61.out).2.2.2.1
      have e14 := (cells5 HP61.out).2.2.2.2
      have e20 := (cells5 HP62.out).1
      have e21 := (cells5 HP62.out).2.1
      have e22 := (cells5 HP62.out).2.2.1
      have e23 := (cells5 HP62.out).2.2.2.1
      have e24 := (cells5 HP62.out).2.2.2.2
      go_wp2_with fail
      clear e10 e11 e12 e13 e14 e20 e21 e22 e23 e24
      refine (CAB.out _ HC6.out).mono ?_
      rintro e w7 ⟨rfl, hc7⟩
      have HC7 := Lib.hid (HC6.out.no hc7)
      have HP71 := Lib.hid (hc7.heap HP61.out (fun x => x))
      have HP72 := Lib.hid (hc7.heap HP62.out (fun x => x))
      clear hc7
      have e10 := (cells5 HP71.out).1
      have e11 := (cells5 HP71.out).2.1
      have e12 := (cells5 HP71.out).2.2.1
      have e13 := (cells5 HP71.out).2.2.2.1
      have e14 := (cells5 HP71.out).2.2.2.2
      have e20 := (cells5 HP72.out).1
      have e21 := (cells5 HP72.out).2.1
      have e22 := (cells5 HP72.out).2.2.1
      have e23 := (cells5 HP72.out).2.2.2.1
      have e24 := (cells5 HP72.out).2.2.2.2
      go_wp2_with fail
      clear e10 e11 e12 e13 e14 e20 e21 e22 e23 e24
      refine (OA.out _ HC7.out).mono ?_
      rintro e w8 ⟨rfl, hc8⟩
      have HC8 := Lib.hid (HC7.out.no hc8)
      have HP81 := Lib.hid (hc8.heap HP71.out (fun x => x))
      have HP82 := Lib.hid (hc8.heap HP72.out (fun x => x))
      clear hc8
      have e10 := (cells5 HP81.out).1
      have e11 := (cells5 HP81.out).2.1
      have e12 := (cells5 HP81.out).2.2.1
      have e13 := (cells5 HP81.out).2.2.2.1
      have e14 := (cells5 HP81.out).2.2.2.2
      have e20 := (cells5 HP82.out).1
      have e21 := (cells5 HP82.out).2.1
      have e22 := (cells5 HP82.out).2.2.1
      have e23 := (cells5 HP82.out).2.2.2.1
      have e24 := (cells5 HP82.out).2.2.2.2
      go_wp2_with fail
      clear e10 e11 e12 e13 e14 e20 e21 e22 e23 e24
      refine (OB.out _ HC8.out).mono ?_
      rintro e w9 ⟨rfl, hc9⟩
      have HC9 := Lib.hid (HC8.out.no hc9)
      have HP91 := Lib.hid (hc9.heap HP81.out (fun x => x))
      have HP92 := Lib.hid (hc9.heap HP82.out (fun x => x))
      clear hc9
      have e10 := (cells5 HP91.out).1
      have e11 := (cells5 HP91.out).2.1
      have e12 := (cells5 HP91.out).2.2.1
      have e13 := (cells5 HP91.out).2.2.2.1
      have e14 := (cells5 HP91.out).2.2.2.2
      have e20 := (cells5 HP92.out).1
      have e21 := (cells5 HP92.out).2.1
      have e22 := (cells5 HP92.out).2.2.1
      have e23 := (cells5 HP92.out).2.2.2.1
      have e24 := (cells5 HP92.out).2.2.2.2
      go_wp2_with fail
      clear e10 e11 e12 e13 e14 e20 e21 e22 e23 e24
      refine (ST.out _ HC9.out).mono ?_
      rintro e w90 ⟨rfl, hc90⟩
      have HC90 := Lib.hid (HC9.out.no hc90)
      have HP901 := Lib.hid (hc90.heap HP91.out (fun x => x))
      have HP902 := Lib.hid (hc90.heap HP92.out (fun x => x))
      clear hc90
      go_wp2_with fail
      refine (wakes_calls _).mono ?_
      rintro e w91 ⟨rfl, hc91⟩
      go_wp2
      go_ret
      exact ⟨rfl, HC90.out.no hc91⟩
  | false =>
    by_cases hF : F = 0
    · have hE := hX0 rfl hF
      subst hF
      subst hE
      clear hX hX0 hXY
      have e10 := (cells5 HP41.out).1
      have e11 := (cells5 HP41.out).2.1
      have e12 := (cells5 HP41.out).2.2.1
      have e13 := (cells5 HP41.out).2.2.2.1
      have e14 := (cells5 HP41.out).2.2.2.2
      have e20 := (cells5 HP42.out).1
      have e21 := (cells5 HP42.out).2.1
      have e22 := (cells5 HP42.out).2.2.1
      have e23 := (cells5 HP42.out).2.2.2.1
      have e24 := (cells5 HP42.out).2.2.2.2
      go_wp2_with fail
      clear e10 e11 e12 e13 e14 e20 e21 e22 e23 e24
      refine (SBA.out _ HC4.out).mono ?_
      rintro e w5 ⟨rfl, hc5⟩
      have HC5 := Lib.hid (HC4.out.no hc5)
      have HP51 := Lib.hid (hc5.heap HP41.out (fun x => x))
      have HP52 := Lib.hid (hc5.heap HP42.out (fun x => x))
      clear hc5
      have e10 := (cells5 HP51.out).1
      have e11 := (cells5 HP51.out).2.1
      have e12 := (cells5 HP51.out).2.2.1
      have e13 := (cells5 HP51.out).2.2.2.1
      have e14 := (cells5 HP51.out).2.2.2.2
      have e20 := (cells5 HP52.out).1
      have e21 := (cells5 HP52.out).2.1
      have e22 := (cells5 HP52.out).2.2.1
      have e23 := (cells5 HP52.out).2.2.2.1
      have e24 := (cells5 HP52.out).2.2.2.2
      go_wp2_with fail
      clear e10 e11 e12 e13 e14 e20 e21 e22 e23 e24
      refine (CA.out _ HC5.out).mono ?_
      rintro e w6 ⟨rfl, hc6⟩
      have HC6 := Lib.hid (HC5.out.no hc6)
      have HP61 := Lib.hid (hc6.heap HP51.out (fun x => x))
      have HP62 := Lib.hid (hc6.heap HP52.out (fun x => x))
      clear hc6
      have e10 := (cells5 HP61.out).1
      have e11 := (cells5 HP61.out).2.1
      have e12 := (cells5 HP61.out).2.2.1
      have e13 := (cells5 HP61.out).2.2.2.1
      have e14 := (cells5 HP61.out).2.2.2.2
      have e20 := (cells5 HP62.out).1
      have e21 := (cells5 HP62.out).2.1
      have e22 := (cells5 HP62.out).2.2.1
      have e23 := (cells5 HP62.out).2.2.2.1
      have e24 := (cells5 HP62.out).2.2.2.2
      go_wp2_with fail
      clear e10 e11 e12 e13 e14 e20 e21 e22 e23 e24
      refine (CAB.out _ HC6.out).mono ?_
      rintro e w7 ⟨rfl, hc7⟩
      have HC7 := Lib.hid (HC6.out.no hc7)
      have HP71 := Lib.hid (hc7.heap HP61.out (fun x => x))
      have HP72 := Lib.hid (hc7.heap HP62.out (fun x => x))
      clear hc7
      have e10 := (cells5 HP71.out).1
      have e11 := (cells5 HP71.out).2.1
      have e12 := (cells5 HP71.out).2.2.1
      have e13 := (cells5 HP71.out).2.2.2.1
      have e14 := (cells5 HP71.out).2.2.2.2
      have e20 := (cells5 HP72.out).1
      have e21 := (cells5 HP72.out).2.1
      have e22 := (cells5 HP72.out).2.2.1
      have e23 := (cells5 HP72.out).2.2.2.1
      have e24 := (cells5 HP72.out).2.2.2.2
      go_wp2_with fail
      clear e10 e11 e12 e13 e14 e20 e21 e22 e23 e24
      refine (ST.out _ HC7.out).mono ?_
      rintro e w90 ⟨rfl, hc90⟩
      have HC90 := Lib.hid (HC7.out.no hc90)
      have HP901 := Lib.hid (hc90.heap HP71.out (fun x => x))
      have HP902 := Lib.hid (hc90.heap HP72.out (fun x => x))
      clear hc90
      go_wp2_with fail
      refine (wakes_calls _).mono ?_
      rintro e w91 ⟨rfl, hc91⟩
      go_wp2
      go_ret
      exact ⟨rfl, HC90.out.no hc91⟩
    · have bF : ((F : Int) == 0) = false := by simp; omega
      clear hX hX0 hXY hF
      have e10 := (cells5 HP41.out).1
      have e11 := (cells5 HP41.out).2.1
      have e12 := (cells5 HP41.out).2.2.1
      have e13 := (cells5 HP41.out).2.2.2.1
      have e14 := (cells5 HP41.out).2.2.2.2
      have e20 := (cells5 HP42.out).1
      have e21 := (cells5 HP42.out).2.1
      have e22 := (cells5 HP42.out).2.2.1
      have e23 := (cells5 HP42.out).2.2.2.1
      have e24 := (cells5 HP42.out).2.2.2.2
      go_wp2_with fail
      clear e10 e11 e12 e13 e14 e20 e21 e22 e23 e24
      refine (SBA.out _ HC4.out).mono ?_
      rintro e w5 ⟨rfl, hc5⟩
      have HC5 := Lib.hid (HC4.out.no hc5)
      have HP51 := Lib.hid (hc5.heap HP41.out (fun x => x))
      have HP52 := Lib.hid (hc5.heap HP42.out (fun x => x))
      clear hc5
      have e10 := (cells5 HP51.out).1
      have e11 := (cells5 HP51.out).2.1
      have e12 := (cells5 HP51.out).2.2.1
      have e13 := (cells5 HP51.out).2.2.2.1
      have e14 := (cells5 HP51.out).2.2.2.2
      have e20 := (cells5 HP52.out).1
      have e21 := (cells5 HP52.out).2.1
      have e22 := (cells5 HP52.out).2.2.1
      have e23 := (cells5 HP52.out).2.2.2.1
      have e24 := (cells5 HP52.out).2.2.2.2
      go_wp2_with fail
      clear e10 e11 e12 e13 e14 e20 e21 e22 e23 e24
      refine (CA.out _ HC5.out).mono ?_
      rintro e w6 ⟨rfl, hc6⟩
      have HC6 := Lib.hid (HC5.out.no hc6)
      have HP61 := Lib.hid (hc6.heap HP51.out (fun x => x))
      have HP62 := Lib.hid (hc6.heap HP52.out (fun x => x))
      clear hc6
      have e10 := (cells5 HP61.out).1
      have e11 := (cells5 HP61.out).2.1
      have e12 := (cells5 HP61.out).2.2.1
      have e13 := (cells5 HP61.out).2.2.2.1
      have e14 := (cells5 HP61.out).2.2.2.2
      have e20 := (cells5 HP62.out).1
      have e21 := (cells5 HP62.out).2.1
      have e22 := (cells5 HP62.out).2.2.1
      have e23 := (cells5 HP62.out).2.2.2.1
      have e24 := (cells5 HP62.out).2.2.2.2
      go_wp2_with fail
      clear e10 e11 e12 e13 e14 e20 e21 e22 e23 e24
      refine (ST.out _ HC6.out).mono ?_
      rintro e w90 ⟨rfl, hc90⟩
      have HC90 := Lib.hid (HC6.out.no hc90)
      have HP901 := Lib.hid (hc90.heap HP61.out (fun x => x))
      have HP902 := Lib.hid (hc90.heap HP62.out (fun x => x))
      clear hc90
      go_wp2_with fail
      refine (wakes_calls _).mono ?_
      rintro e w91 ⟨rfl, hc91⟩
      go_wp2
      go_ret
      exact ⟨rfl, HC90.out.no hc91⟩

theorem commitB_head (t : Nat) (ps : List Nat) (a : List UInt8) (d : Int) (x : List UInt8) : ∃ r, commitB t ps a d x = 99 :: r := ⟨_, by rw [commitB, List.append_assoc, List.append_assoc, List.append_assoc, List.append_assoc, List.append_assoc]; rfl⟩
theorem treeB_nil : treeB [] = [116, 0] := by simp [treeB, leb_small]
theorem objectSame_walk (w : World) (t1 : Nat) (A1 : Option Addr) (n1 c1 : Nat) (ps1 : List Nat) (a1 : ByteArray) (d1 : Int) (x1 : ByteArray) (hs1 : Sl u64v w (.slice A1 n1 c1) ps1) (hp1 : ∀ q ∈ ps1, q < 18446744073709551616) (ht1 : t1 < 18446744073709551616) (hn1 : n1 ≤ maxLen) (ha1 : a1.size ≤ maxLen) (hx1 : x1.size ≤ maxLen) (hl1 : -9223372036854775808 ≤ d1) (hu1 : d1 ≤ 9223372036854775807) (t2 : Nat) (A2 : Option Addr) (n2 c2 : Nat) (ps2 : List Nat) (a2 : ByteArray) (d2 : Int) (x2 : ByteArray) (hs2 : Sl u64v w (.slice A2 n2 c2) ps2) (hp2 : ∀ q ∈ ps2, q < 18446744073709551616) (ht2 : t2 < 18446744073709551616) (hn2 : n2 ≤ maxLen) (ha2 : a2.size ≤ maxLen) (hx2 : x2.size ≤ maxLen) (hl2 : -9223372036854775808 ≤ d2) (hu2 : d2 ≤ 9223372036854775807) (t3 : Nat) (A3 : Option Addr) (n3 c3 : Nat) (ps3 : List Nat) (a3 : ByteArray) (d3 : Int) (x3 : ByteArray) (hs3 : Sl u64v w (.slice A3 n3 c3) ps3) (hp3 : ∀ q ∈ ps3, q < 18446744073709551616) (ht3 : t3 < 18446744073709551616) (hn3 : n3 ≤ maxLen) (ha3 : a3.size ≤ maxLen) (hx3 : x3.size ≤ maxLen) (hl3 : -9223372036854775808 ≤ d3) (hu3 : d3 ≤ 9223372036854775807) :
    Calls Try.prog 8 #[.agg #[.int .u64 (t1 : Int), .slice A1 n1 c1, .string a1, .int .i64 d1, .string x1], .agg #[.int .u64 (t2 : Int), .slice A2 n2 c2, .string a2, .int .i64 d2, .string x2], .agg #[.int .u64 (t3 : Int), .slice A3 n3 c3, .string a3, .int .i64 d3, .string x3]] w fun e w' => e = .returned (.bool true) ∧ Below w.heap.size w w' := by
  have mx : maxLen ≤ 9223372036854775807 := by unfold maxLen; omega
  have E1 := fun W (hW : Chg No w W) => encodes_commit W t1 A1 n1 c1 ps1 a1 d1 x1 (hs1.no hW) (by omega) (by omega) (by omega) ht1 hp1
  have E2 := fun W (hW : Chg No w W) => encodes_commit W t2 A2 n2 c2 ps2 a2 d2 x2 (hs2.no hW) (by omega) (by omega) (by omega) ht2 hp2
  have E3 := fun W (hW : Chg No w W) => encodes_commit W t3 A3 n3 c3 ps3 a3 d3 x3 (hs3.no hW) (by omega) (by omega) (by omega) ht3 hp3
  have hlen : ∀ (t : Nat) (ps : List Nat) (a x : List UInt8) (d : Int), (if commitF t ps a x = 0 then commitB t ps a d x else []).length ≤ 140737488355328 := by
    intro t ps a x d
    split
    · rename_i h; have := commitB_len (d := d) h; omega
    · simp
  refine (objectSame_core w t1 A1 n1 c1 a1 d1 x1 t2 A2 n2 c2 a2 d2 x2 t3 A3 n3 c3 a3 d3 x3
    (decide (commitF t1 ps1 a1.data.toList x1.data.toList = 0) && decide (t1 = t2 ∧ ps1 = ps2 ∧ a1 = a2 ∧ d1 = d2 ∧ x1 = x2))
    (decide (commitF t2 ps2 a2.data.toList x2.data.toList = 0) && decide (t2 = t3 ∧ ps2 = ps3 ∧ a2 = a3 ∧ d2 = d3 ∧ x2 = x3))
    (decide (commitF t1 ps1 a1.data.toList x1.data.toList = 0) && decide (t1 = t3 ∧ ps1 = ps3 ∧ a1 = a3 ∧ d1 = d3 ∧ x1 = x3))
    (decide (t1 = t2 ∧ ps1 = ps2 ∧ a1 = a2 ∧ d1 = d2 ∧ x1 = x2)) (commitF t1 ps1 a1.data.toList x1.data.toList) _ _ _ _
    (fun W hW => ?_) (fun W hW => ?_) (fun W hW => ?_) (fun W hW => ?_) (fun W hW => check_commit W t1 A1 n1 c1 ps1 a1 d1 x1 (hs1.no hW) (by omega) (by omega) (by omega))
    (fun W hW => commits_calls W t1 A1 n1 c1 ps1 a1 d1 x1 t2 A2 n2 c2 ps2 a2 d2 x2 (hs1.no hW) (hs2.no hW) (by omega))
    (fun W hW => of_calls W _ _ _ (E1 W hW) (hlen _ _ _ _ _)) (fun W hW => of_calls W _ _ _ (E2 W hW) (hlen _ _ _ _ _)) (fun W hW => ?_) ?_ ?_ ?_).mono fun _ _ h => ⟨h.1, h.2.below⟩
  · have := same_calls W _ _ _ _ _ _ (E1 W hW) (E2 W hW)
    rw [same_commits ht1 ht2 hp1 hp2 ⟨hl1, hu1⟩ ⟨hl2, hu2⟩] at this
    exact this
  · have := same_calls W _ _ _ _ _ _ (E2 W hW) (E3 W hW)
    rw [same_commits ht2 ht3 hp2 hp3 ⟨hl2, hu2⟩ ⟨hl3, hu3⟩] at this
    exact this
  · have := same_calls W _ _ _ _ _ _ (E1 W hW) (E3 W hW)
    rw [same_commits ht1 ht3 hp1 hp3 ⟨hl1, hu1⟩ ⟨hl3, hu3⟩] at this
    exact this
  · have := same_calls W _ _ _ _ _ _ (E2 W hW) (E1 W hW)
    rw [same_commits ht2 ht1 hp2 hp1 ⟨hl2, hu2⟩ ⟨hl1, hu1⟩] at this
    have e : (decide (commitF t2 ps2 a2.data.toList x2.data.toList = 0) && decide (t2 = t1 ∧ ps2 = ps1 ∧ a2 = a1 ∧ d2 = d1 ∧ x2 = x1)) = (decide (commitF t1 ps1 a1.data.toList x1.data.toList = 0) && decide (t1 = t2 ∧ ps1 = ps2 ∧ a1 = a2 ∧ d1 = d2 ∧ x1 = x2)) := by
      by_cases h : t1 = t2 ∧ ps1 = ps2 ∧ a1 = a2 ∧ d1 = d2 ∧ x1 = x2
      · obtain ⟨rfl, rfl, rfl, rfl, rfl⟩ := h
        rfl
      · have h2 : ¬ (t2 = t1 ∧ ps2 = ps1 ∧ a2 = a1 ∧ d2 = d1 ∧ x2 = x1) := fun h' => h ⟨h'.1.symm, h'.2.1.symm, h'.2.2.1.symm, h'.2.2.2.1.symm, h'.2.2.2.2.symm⟩
        rw [decide_eq_false h, decide_eq_false h2, Bool.and_false, Bool.and_false]
    rw [e] at this
    exact this
  · have := same_calls W _ _ _ _ _ _ (E1 W hW) (encodes_tree W none 0 0 [] (Holds.nil W) (fun x hx => by cases hx) (fun x hx => by cases hx))
    have e : ((((commitF t1 ps1 a1.data.toList x1.data.toList : Nat) : Int) == 0) && (treeF [] == 0) && decide ((if commitF t1 ps1 a1.data.toList x1.data.toList = 0 then commitB t1 ps1 a1.data.toList d1 x1.data.toList else []) = (if treeF [] = 0 then treeB [] else []))) = false := by
      have ht : treeF [] = 0 := rfl
      rw [if_pos ht, treeB_nil]
      by_cases h : commitF t1 ps1 a1.data.toList x1.data.toList = 0
      · rw [if_pos h]
        obtain ⟨r, hr⟩ := commitB_head t1 ps1 a1.data.toList d1 x1.data.toList
        rw [hr]
        simp
      · have : ((((commitF t1 ps1 a1.data.toList x1.data.toList : Nat) : Int) == 0)) = false := by simp; exact h
        rw [this]
        rfl
    rw [e] at this
    exact this
  · intro hX
    rw [Bool.and_eq_true, decide_eq_true_iff, decide_eq_true_iff] at hX
    obtain ⟨hF, rfl, rfl, rfl, rfl, rfl⟩ := hX
    refine ⟨hF, by simp, rfl, ?_⟩
    rw [if_pos (by rw [hF]; rfl)]
    unfold idF
    omega
  · intro hX hF
    rw [hF] at hX
    simpa using hX
  · intro hX hY
    rw [Bool.and_eq_true, decide_eq_true_iff, decide_eq_true_iff] at hX hY
    obtain ⟨hF, rfl, rfl, rfl, rfl, rfl⟩ := hX
    obtain ⟨-, rfl, rfl, rfl, rfl, rfl⟩ := hY
    simp [hF]

end Go.Proofs.Ytkmnkbmmgopldaa
