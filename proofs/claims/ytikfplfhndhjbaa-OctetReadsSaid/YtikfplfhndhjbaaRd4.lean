/-
  Contract of told.
-/
import Derived.Test.YtikfplfhndhjbaaRd3
import Derived.Test.YtikfplfhndhjbaaRef1c
import Derived.Deep.RegionHeld3
namespace Go.Proofs.Ytikfplfhndhjbaa
open Go.RowKit
set_option linter.unusedVariables false
set_option linter.unusedSimpArgs false


set_option maxRecDepth 100000 in
set_option maxHeartbeats 1600000 in
theorem told_byte (w : World) (g d : Nat) (R : Rd) (h : RdrAt w g d R) (hx : R.rest.length ≤ 140737488355328) (k : Int) (x : Nat) (A2 : Option Addr) (n2 c2 : Nat) (hv : (rByte R).1.toNat = x) :
    Calls Try.prog 30 #[.pointer (some ⟨g, 0, none⟩), .agg #[.int .i64 0, .int .i64 k], .agg #[.int .u64 (x : Int), .slice A2 n2 c2]] w fun e w' => e = .returned (.bool true) ∧ RdrAt w' g d (rByte R).2 ∧ Chg (One g) w w' := by
  have hlt := h.lt
  have H := Lib.hid h
  clear h
  have HV := Lib.hid hv
  clear hv
  go_enter Try.func30, Try.ntmps30
  go_wp2
  have hc0 : Chg No w ((w.alloc (.cells #[.int .i64 0, .int .i64 k] 50)).alloc (.cells #[.int .u64 (x : Int), .slice A2 n2 c2] 52)).drew := (((Chg.refl No w).alloc _).alloc _).drew
  have HC0 := Lib.hid hc0
  have hS : ((w.alloc (.cells #[.int .i64 0, .int .i64 k] 50)).alloc (.cells #[.int .u64 (x : Int), .slice A2 n2 c2] 52)).drew.cell? ⟨w.heap.size + 1, 0, none⟩ = some (.int .u64 (x : Int)) := by
    have e1 := heap_alloc_new (w.alloc (.cells #[.int .i64 0, .int .i64 k] 50)) (.cells #[.int .u64 (x : Int), .slice A2 n2 c2] 52)
    rw [show (w.alloc (.cells #[.int .i64 0, .int .i64 k] 50)).heap.size = w.heap.size + 1 by simp] at e1
    exact (cells2 (((Chg.refl No _).drew).heap e1 (fun x => x))).1
  clear hc0
  refine wp_region_held_drew (S := fun W => W.cell? ⟨w.heap.size + 1, 0, none⟩ = some (.int .u64 (x : Int))) (by kernel_rfl) hS (fun hSw => ?_)
  refine wpAnyH_take (i := 0) (oi := { dst := some 11, op := Go.Op.move (Go.Operand.tmp 0), type := 32, pos := "law.go:46", after := #[], guard := none }) (v := ?_) rfl (by kernel_rfl) (by kernel_rfl) (by kernel_rfl) (fun _ _ _ h => h) (Or.inl ⟨by rfl, ?_⟩) hSw ?_
  rotate_left
  · (intro W hW; (try dsimp only at hW); go_simp; try with_reducible rfl)
  try simp only [Act.put, List.setIfInBounds_toArray, List.set_cons_zero, List.set_cons_succ]
  refine wpAnyH_take (i := 3) (oi := { dst := some 14, op := Go.Op.fieldAddr 52 (Go.Operand.tmp 5) 0, type := 0, pos := "law.go:46", after := #[], guard := none }) (v := ?_) rfl (by kernel_rfl) (by kernel_rfl) (by kernel_rfl) (fun _ _ _ h => h) (Or.inl ⟨by rfl, ?_⟩) hSw ?_
  rotate_left
  · (intro W hW; (try dsimp only at hW); go_simp; try with_reducible rfl)
  try simp only [Act.put, List.setIfInBounds_toArray, List.set_cons_zero, List.set_cons_succ]
  refine wpAnyH_take (i := 4) (oi := { dst := some 15, op := Go.Op.load 23 (Go.Operand.tmp 14), type := 23, pos := "law.go:46", after := #[{ on := 3, ground := Go.Ground.data }], guard := none }) (v := ?_) rfl (by kernel_rfl) (by kernel_rfl) (by kernel_rfl) (fun _ _ _ h => h) (Or.inl ⟨by rfl, ?_⟩) hSw ?_
  rotate_left
  · (intro W hW; (try dsimp only at hW); go_simp; try with_reducible rfl)
  try simp only [Act.put, List.setIfInBounds_toArray, List.set_cons_zero, List.set_cons_succ]
  refine wpAnyH_ready (rs := [1]) (by kernel_rfl) (by simp) ?_
  refine AllReadyH.cons (o := { dst := some 12, op := Go.Op.call { callee := Go.Callee.value (Go.Operand.func 33), args := #[Go.Operand.tmp 11], argTypes := #[32] }, type := 5, pos := "law.go:46", after := #[{ on := 0, ground := Go.Ground.data }], guard := none }) rfl (fun K hK => ?_) AllReadyH.nil
  rw [if_pos (by rfl)]
  go_simp
  refine (byte_calls _ g d R (H.out.no HC0.out)).mono ?_
  rintro e w1 ⟨rfl, hr1, hc1⟩
  have hS1 := hc1.cell hS (by show ¬ (w.heap.size + 1 = g); omega)
  refine hK.out _ _ hS1 (fun hSw => ?_)
  clear hK
  try simp only [Act.put, List.setIfInBounds_toArray, List.set_cons_zero, List.set_cons_succ]
  refine wpAnyH_take (i := 2) (oi := { dst := some 13, op := Go.Op.convert 5 23 (Go.Operand.tmp 12), type := 23, pos := "law.go:46", after := #[{ on := 1, ground := Go.Ground.data }], guard := none }) (v := ?_) rfl (by kernel_rfl) (by kernel_rfl) (by kernel_rfl) (fun _ _ _ h => h) (Or.inl ⟨by rfl, ?_⟩) hSw ?_
  rotate_left
  · (intro W hW; (try dsimp only at hW); go_simp; try with_reducible rfl)
  try simp only [Act.put, List.setIfInBounds_toArray, List.set_cons_zero, List.set_cons_succ]
  refine wpAnyH_take (i := 5) (oi := { dst := some 16, op := Go.Op.binOp Go.BinOp.eql 23 (Go.Operand.tmp 13) (Go.Operand.tmp 15) 23, type := 4, pos := "law.go:46", after := #[{ on := 2, ground := Go.Ground.data }, { on := 4, ground := Go.Ground.data }], guard := none }) (v := ?_) rfl (by kernel_rfl) (by kernel_rfl) (by kernel_rfl) (fun _ _ _ h => h) (Or.inl ⟨by rfl, ?_⟩) hSw ?_
  rotate_left
  · (intro W hW; (try dsimp only at hW); go_simp; try with_reducible rfl)
  try simp only [Act.put, List.setIfInBounds_toArray, List.set_cons_zero, List.set_cons_succ]
  refine wpAnyH_ready (rs := [6]) (by kernel_rfl) (by simp) ?_
  refine AllReadyH.cons (o := { dst := some 6, op := Go.Op.assign (Go.Operand.tmp 16), type := 4, pos := "law.go:46", after := #[{ on := 5, ground := Go.Ground.data }, { on := 1, ground := Go.Ground.chain }, { on := 0, ground := Go.Ground.phase }, { on := 1, ground := Go.Ground.phase }, { on := 2, ground := Go.Ground.phase }, { on := 3, ground := Go.Ground.phase }, { on := 4, ground := Go.Ground.phase }, { on := 5, ground := Go.Ground.phase }], guard := none }) rfl (fun K hK => ?_) AllReadyH.nil
  rw [if_pos (by rfl)]
  go_simp
  refine hK.out _ _ hS1 (fun hSw => ?_)
  clear hK
  try simp only [Act.put, List.setIfInBounds_toArray, List.set_cons_zero, List.set_cons_succ]
  refine wpAnyH_done (by kernel_rfl) ?_ _

  have HV' := HV.out
  go_wp2
  go_ret
  refine ⟨?_, hr1, (HC0.out.mono (fun _ _ x => x.elim)).one hc1 (.inr rfl)⟩
  have hw8 : IntKind.u64.wrap ((rByte R).1.toNat : Int) = ((rByte R).1.toNat : Int) := wrap_u64_nat _ (by have := (rByte R).1.toNat_lt; omega)
  simp [← HV', hw8]

set_option maxRecDepth 100000 in
set_option maxHeartbeats 1600000 in
theorem told_uint (w : World) (g d : Nat) (R : Rd) (h : RdrAt w g d R) (hx : R.rest.length ≤ 140737488355328) (k : Int) (x : Nat) (A2 : Option Addr) (n2 c2 : Nat) (hv : (rUint R).1 = x) :
    Calls Try.prog 30 #[.pointer (some ⟨g, 0, none⟩), .agg #[.int .i64 1, .int .i64 k], .agg #[.int .u64 (x : Int), .slice A2 n2 c2]] w fun e w' => e = .returned (.bool true) ∧ RdrAt w' g d (rUint R).2 ∧ Chg (One g) w w' := by
  have hlt := h.lt
  have H := Lib.hid h
  clear h
  have HV := Lib.hid hv
  clear hv
  go_enter Try.func30, Try.ntmps30
  go_wp2
  have hc0 : Chg No w ((w.alloc (.cells #[.int .i64 1, .int .i64 k] 50)).alloc (.cells #[.int .u64 (x : Int), .slice A2 n2 c2] 52)).drew := (((Chg.refl No w).alloc _).alloc _).drew
  have HC0 := Lib.hid hc0
  have hS : ((w.alloc (.cells #[.int .i64 1, .int .i64 k] 50)).alloc (.cells #[.int .u64 (x : Int), .slice A2 n2 c2] 52)).drew.cell? ⟨w.heap.size + 1, 0, none⟩ = some (.int .u64 (x : Int)) := by
    have e1 := heap_alloc_new (w.alloc (.cells #[.int .i64 1, .int .i64 k] 50)) (.cells #[.int .u64 (x : Int), .slice A2 n2 c2] 52)
    rw [show (w.alloc (.cells #[.int .i64 1, .int .i64 k] 50)).heap.size = w.heap.size + 1 by simp] at e1
    exact (cells2 (((Chg.refl No _).drew).heap e1 (fun x => x))).1
  clear hc0
  refine wp_region_held_drew (S := fun W => W.cell? ⟨w.heap.size + 1, 0, none⟩ = some (.int .u64 (x : Int))) (by kernel_rfl) hS (fun hSw => ?_)
  refine wpAnyH_take (i := 0) (oi := { dst := some 19, op := Go.Op.move (Go.Operand.tmp 0), type := 32, pos := "law.go:48", after := #[], guard := none }) (v := ?_) rfl (by kernel_rfl) (by kernel_rfl) (by kernel_rfl) (fun _ _ _ h => h) (Or.inl ⟨by rfl, ?_⟩) hSw ?_
  rotate_left
  · (intro W hW; (try dsimp only at hW); go_simp; try with_reducible rfl)
  try simp only [Act.put, List.setIfInBounds_toArray, List.set_cons_zero, List.set_cons_succ]
  refine wpAnyH_take (i := 2) (oi := { dst := some 21, op := Go.Op.fieldAddr 52 (Go.Operand.tmp 5) 0, type := 0, pos := "law.go:48", after := #[], guard := none }) (v := ?_) rfl (by kernel_rfl) (by kernel_rfl) (by kernel_rfl) (fun _ _ _ h => h) (Or.inl ⟨by rfl, ?_⟩) hSw ?_
  rotate_left
  · (intro W hW; (try dsimp only at hW); go_simp; try with_reducible rfl)
  try simp only [Act.put, List.setIfInBounds_toArray, List.set_cons_zero, List.set_cons_succ]
  refine wpAnyH_take (i := 3) (oi := { dst := some 22, op := Go.Op.load 23 (Go.Operand.tmp 21), type := 23, pos := "law.go:48", after := #[{ on := 2, ground := Go.Ground.data }], guard := none }) (v := ?_) rfl (by kernel_rfl) (by kernel_rfl) (by kernel_rfl) (fun _ _ _ h => h) (Or.inl ⟨by rfl, ?_⟩) hSw ?_
  rotate_left
  · (intro W hW; (try dsimp only at hW); go_simp; try with_reducible rfl)
  try simp only [Act.put, List.setIfInBounds_toArray, List.set_cons_zero, List.set_cons_succ]
  refine wpAnyH_ready (rs := [1]) (by kernel_rfl) (by simp) ?_
  refine AllReadyH.cons (o := { dst := some 20, op := Go.Op.call { callee := Go.Callee.value (Go.Operand.func 20), args := #[Go.Operand.tmp 19], argTypes := #[32] }, type := 23, pos := "law.go:48", after := #[{ on := 0, ground := Go.Ground.data }], guard := none }) rfl (fun K hK => ?_) AllReadyH.nil
  rw [if_pos (by rfl)]
  go_simp
  refine (uint_calls _ g d R (H.out.no HC0.out) hx).mono ?_
  rintro e w1 ⟨rfl, hr1, hc1⟩
  have hS1 := hc1.cell hS (by show ¬ (w.heap.size + 1 = g); omega)
  refine hK.out _ _ hS1 (fun hSw => ?_)
  clear hK
  try simp only [Act.put, List.setIfInBounds_toArray, List.set_cons_zero, List.set_cons_succ]
  refine wpAnyH_take (i := 4) (oi := { dst := some 23, op := Go.Op.binOp Go.BinOp.eql 23 (Go.Operand.tmp 20) (Go.Operand.tmp 22) 23, type := 4, pos := "law.go:48", after := #[{ on := 1, ground := Go.Ground.data }, { on := 3, ground := Go.Ground.data }], guard := none }) (v := ?_) rfl (by kernel_rfl) (by kernel_rfl) (by kernel_rfl) (fun _ _ _ h => h) (Or.inl ⟨by rfl, ?_⟩) hSw ?_
  rotate_left
  · (intro W hW; (try dsimp only at hW); go_simp; try with_reducible rfl)
  try simp only [Act.put, List.setIfInBounds_toArray, List.set_cons_zero, List.set_cons_succ]
  refine wpAnyH_ready (rs := [5]) (by kernel_rfl) (by simp) ?_
  refine AllReadyH.cons (o := { dst := some 6, op := Go.Op.assign (Go.Operand.tmp 23), type := 4, pos := "law.go:48", after := #[{ on := 4, ground := Go.Ground.data }, { on := 1, ground := Go.Ground.chain }, { on := 0, ground := Go.Ground.phase }, { on := 1, ground := Go.Ground.phase }, { on := 2, ground := Go.Ground.phase }, { on := 3, ground := Go.Ground.phase }, { on := 4, ground := Go.Ground.phase }], guard := none }) rfl (fun K hK => ?_) AllReadyH.nil
  rw [if_pos (by rfl)]
  go_simp
  refine hK.out _ _ hS1 (fun hSw => ?_)
  clear hK
  try simp only [Act.put, List.setIfInBounds_toArray, List.set_cons_zero, List.set_cons_succ]
  refine wpAnyH_done (by kernel_rfl) ?_ _

  have HV' := HV.out
  go_wp2
  go_ret
  refine ⟨?_, hr1, (HC0.out.mono (fun _ _ x => x.elim)).one hc1 (.inr rfl)⟩
  have hw8 : IntKind.u64.wrap ((rByte R).1.toNat : Int) = ((rByte R).1.toNat : Int) := wrap_u64_nat _ (by have := (rByte R).1.toNat_lt; omega)
  simp [← HV', hw8]

set_option maxRecDepth 100000 in
set_option maxHeartbeats 1600000 in
theorem told_word (w : World) (g d : Nat) (R : Rd) (h : RdrAt w g d R) (hx : R.rest.length ≤ 140737488355328) (k : Int) (x : Nat) (A2 : Option Addr) (n2 c2 : Nat) (hv : (rWord R).1 = x) :
    Calls Try.prog 30 #[.pointer (some ⟨g, 0, none⟩), .agg #[.int .i64 2, .int .i64 k], .agg #[.int .u64 (x : Int), .slice A2 n2 c2]] w fun e w' => e = .returned (.bool true) ∧ RdrAt w' g d (rWord R).2 ∧ Chg (One g) w w' := by
  have hlt := h.lt
  have H := Lib.hid h
  clear h
  have HV := Lib.hid hv
  clear hv
  go_enter Try.func30, Try.ntmps30
  go_wp2
  have hc0 : Chg No w ((w.alloc (.cells #[.int .i64 2, .int .i64 k] 50)).alloc (.cells #[.int .u64 (x : Int), .slice A2 n2 c2] 52)).drew := (((Chg.refl No w).alloc _).alloc _).drew
  have HC0 := Lib.hid hc0
  have hS : ((w.alloc (.cells #[.int .i64 2, .int .i64 k] 50)).alloc (.cells #[.int .u64 (x : Int), .slice A2 n2 c2] 52)).drew.cell? ⟨w.heap.size + 1, 0, none⟩ = some (.int .u64 (x : Int)) := by
    have e1 := heap_alloc_new (w.alloc (.cells #[.int .i64 2, .int .i64 k] 50)) (.cells #[.int .u64 (x : Int), .slice A2 n2 c2] 52)
    rw [show (w.alloc (.cells #[.int .i64 2, .int .i64 k] 50)).heap.size = w.heap.size + 1 by simp] at e1
    exact (cells2 (((Chg.refl No _).drew).heap e1 (fun x => x))).1
  clear hc0
  refine wp_region_held_drew (S := fun W => W.cell? ⟨w.heap.size + 1, 0, none⟩ = some (.int .u64 (x : Int))) (by kernel_rfl) hS (fun hSw => ?_)
  refine wpAnyH_take (i := 0) (oi := { dst := some 26, op := Go.Op.move (Go.Operand.tmp 0), type := 32, pos := "law.go:50", after := #[], guard := none }) (v := ?_) rfl (by kernel_rfl) (by kernel_rfl) (by kernel_rfl) (fun _ _ _ h => h) (Or.inl ⟨by rfl, ?_⟩) hSw ?_
  rotate_left
  · (intro W hW; (try dsimp only at hW); go_simp; try with_reducible rfl)
  try simp only [Act.put, List.setIfInBounds_toArray, List.set_cons_zero, List.set_cons_succ]
  refine wpAnyH_take (i := 2) (oi := { dst := some 28, op := Go.Op.fieldAddr 52 (Go.Operand.tmp 5) 0, type := 0, pos := "law.go:50", after := #[], guard := none }) (v := ?_) rfl (by kernel_rfl) (by kernel_rfl) (by kernel_rfl) (fun _ _ _ h => h) (Or.inl ⟨by rfl, ?_⟩) hSw ?_
  rotate_left
  · (intro W hW; (try dsimp only at hW); go_simp; try with_reducible rfl)
  try simp only [Act.put, List.setIfInBounds_toArray, List.set_cons_zero, List.set_cons_succ]
  refine wpAnyH_take (i := 3) (oi := { dst := some 29, op := Go.Op.load 23 (Go.Operand.tmp 28), type := 23, pos := "law.go:50", after := #[{ on := 2, ground := Go.Ground.data }], guard := none }) (v := ?_) rfl (by kernel_rfl) (by kernel_rfl) (by kernel_rfl) (fun _ _ _ h => h) (Or.inl ⟨by rfl, ?_⟩) hSw ?_
  rotate_left
  · (intro W hW; (try dsimp only at hW); go_simp; try with_reducible rfl)
  try simp only [Act.put, List.setIfInBounds_toArray, List.set_cons_zero, List.set_cons_succ]
  refine wpAnyH_ready (rs := [1]) (by kernel_rfl) (by simp) ?_
  refine AllReadyH.cons (o := { dst := some 27, op := Go.Op.call { callee := Go.Callee.value (Go.Operand.func 34), args := #[Go.Operand.tmp 26], argTypes := #[32] }, type := 23, pos := "law.go:50", after := #[{ on := 0, ground := Go.Ground.data }], guard := none }) rfl (fun K hK => ?_) AllReadyH.nil
  rw [if_pos (by rfl)]
  go_simp
  refine (word_calls _ g d R (H.out.no HC0.out)).mono ?_
  rintro e w1 ⟨rfl, hr1, hc1⟩
  have hS1 := hc1.cell hS (by show ¬ (w.heap.size + 1 = g); omega)
  refine hK.out _ _ hS1 (fun hSw => ?_)
  clear hK
  try simp only [Act.put, List.setIfInBounds_toArray, List.set_cons_zero, List.set_cons_succ]
  refine wpAnyH_take (i := 4) (oi := { dst := some 30, op := Go.Op.binOp Go.BinOp.eql 23 (Go.Operand.tmp 27) (Go.Operand.tmp 29) 23, type := 4, pos := "law.go:50", after := #[{ on := 1, ground := Go.Ground.data }, { on := 3, ground := Go.Ground.data }], guard := none }) (v := ?_) rfl (by kernel_rfl) (by kernel_rfl) (by kernel_rfl) (fun _ _ _ h => h) (Or.inl ⟨by rfl, ?_⟩) hSw ?_
  rotate_left
  · (intro W hW; (try dsimp only at hW); go_simp; try with_reducible rfl)
  try simp only [Act.put, List.setIfInBounds_toArray, List.set_cons_zero, List.set_cons_succ]
  refine wpAnyH_ready (rs := [5]) (by kernel_rfl) (by simp) ?_
  refine AllReadyH.cons (o := { dst := some 6, op := Go.Op.assign (Go.Operand.tmp 30), type := 4, pos := "law.go:50", after := #[{ on := 4, ground := Go.Ground.data }, { on := 1, ground := Go.Ground.chain }, { on := 0, ground := Go.Ground.phase }, { on := 1, ground := Go.Ground.phase }, { on := 2, ground := Go.Ground.phase }, { on := 3, ground := Go.Ground.phase }, { on := 4, ground := Go.Ground.phase }], guard := none }) rfl (fun K hK => ?_) AllReadyH.nil
  rw [if_pos (by rfl)]
  go_simp
  refine hK.out _ _ hS1 (fun hSw => ?_)
  clear hK
  try simp only [Act.put, List.setIfInBounds_toArray, List.set_cons_zero, List.set_cons_succ]
  refine wpAnyH_done (by kernel_rfl) ?_ _

  have HV' := HV.out
  go_wp2
  go_ret
  refine ⟨?_, hr1, (HC0.out.mono (fun _ _ x => x.elim)).one hc1 (.inr rfl)⟩
  have hw8 : IntKind.u64.wrap ((rByte R).1.toNat : Int) = ((rByte R).1.toNat : Int) := wrap_u64_nat _ (by have := (rByte R).1.toNat_lt; omega)
  simp [← HV', hw8]

set_option maxRecDepth 100000 in
set_option maxHeartbeats 1600000 in
theorem told_text (w : World) (g d : Nat) (R : Rd) (h : RdrAt w g d R) (hx : R.rest.length ≤ 140737488355328) (k : Int) (x : Nat) (A2 : Option Addr) (n2 c2 : Nat) (hk : k ≤ 9223372036854775807) (hsub : ∀ w', Chg (One g) w w' → Bytes w' (.slice A2 n2 c2) (rText k R).1) :
    Calls Try.prog 30 #[.pointer (some ⟨g, 0, none⟩), .agg #[.int .i64 3, .int .i64 k], .agg #[.int .u64 (x : Int), .slice A2 n2 c2]] w fun e w' => e = .returned (.bool true) ∧ RdrAt w' g d (rText k R).2 ∧ Chg (One g) w w' := by
  have hlt := h.lt
  have H := Lib.hid h
  clear h
  have HSUB := Lib.hid hsub
  clear hsub
  go_enter Try.func30, Try.ntmps30
  go_wp2
  have hc0 : Chg No w ((w.alloc (.cells #[.int .i64 3, .int .i64 k] 50)).alloc (.cells #[.int .u64 (x : Int), .slice A2 n2 c2] 52)).drew := (((Chg.refl No w).alloc _).alloc _).drew
  have HC0 := Lib.hid hc0
  have e1 := heap_alloc_new (w.alloc (.cells #[.int .i64 3, .int .i64 k] 50)) (.cells #[.int .u64 (x : Int), .slice A2 n2 c2] 52)
  rw [show (w.alloc (.cells #[.int .i64 3, .int .i64 k] 50)).heap.size = w.heap.size + 1 by simp] at e1
  have e0 := ((Chg.refl No (w.alloc (.cells #[.int .i64 3, .int .i64 k] 50))).alloc (.cells #[.int .u64 (x : Int), .slice A2 n2 c2] 52)).heap (heap_alloc_new w (.cells #[.int .i64 3, .int .i64 k] 50)) (fun x => x)
  have hS1 := (cells2 (((Chg.refl No _).drew).heap e0 (fun x => x))).2.1
  have hS2 := (cells2 (((Chg.refl No _).drew).heap e1 (fun x => x))).2.1
  have hS3 := (HSUB.out _ (HC0.out.mono (S' := One g) (fun _ _ x => x.elim))).text (P := Try.prog) Try.underlying22 Try.underlying5 Try.underlying9
  clear hc0 e0 e1
  refine wp_region_held_drew (S := fun W => W.cell? ⟨w.heap.size, 1, none⟩ = some (.int .i64 k) ∧ W.cell? ⟨w.heap.size + 1, 1, none⟩ = some (.slice A2 n2 c2) ∧ (convert 22 9 (.slice A2 n2 c2)).run Try.prog W = .ok (.string (mkS (rText k R).1)) W) (by kernel_rfl) ⟨hS1, hS2, hS3⟩ (fun hSw => ?_)
  refine wpAnyH_take (i := 0) (oi := { dst := some 33, op := Go.Op.move (Go.Operand.tmp 0), type := 32, pos := "law.go:52", after := #[], guard := none }) (v := ?_) rfl (by kernel_rfl) (by kernel_rfl) (by kernel_rfl) (fun _ _ _ h => h) (Or.inl ⟨by rfl, ?_⟩) hSw ?_
  rotate_left
  · (intro W hW; (try dsimp only at hW); go_simp; try with_reducible rfl)
  try simp only [Act.put, List.setIfInBounds_toArray, List.set_cons_zero, List.set_cons_succ]
  refine wpAnyH_take (i := 1) (oi := { dst := some 34, op := Go.Op.fieldAddr 50 (Go.Operand.tmp 4) 1, type := 0, pos := "law.go:52", after := #[], guard := none }) (v := ?_) rfl (by kernel_rfl) (by kernel_rfl) (by kernel_rfl) (fun _ _ _ h => h) (Or.inl ⟨by rfl, ?_⟩) hSw ?_
  rotate_left
  · (intro W hW; (try dsimp only at hW); go_simp; try with_reducible rfl)
  try simp only [Act.put, List.setIfInBounds_toArray, List.set_cons_zero, List.set_cons_succ]
  refine wpAnyH_take (i := 2) (oi := { dst := some 35, op := Go.Op.load 3 (Go.Operand.tmp 34), type := 3, pos := "law.go:52", after := #[{ on := 1, ground := Go.Ground.data }], guard := none }) (v := ?_) rfl (by kernel_rfl) (by kernel_rfl) (by kernel_rfl) (fun _ _ _ h => h) (Or.inl ⟨by rfl, ?_⟩) hSw ?_
  rotate_left
  · (intro W hW; (try dsimp only at hW); go_simp; try with_reducible rfl)
  try simp only [Act.put, List.setIfInBounds_toArray, List.set_cons_zero, List.set_cons_succ]
  refine wpAnyH_take (i := 4) (oi := { dst := some 37, op := Go.Op.fieldAddr 52 (Go.Operand.tmp 5) 1, type := 0, pos := "law.go:52", after := #[], guard := none }) (v := ?_) rfl (by kernel_rfl) (by kernel_rfl) (by kernel_rfl) (fun _ _ _ h => h) (Or.inl ⟨by rfl, ?_⟩) hSw ?_
  rotate_left
  · (intro W hW; (try dsimp only at hW); go_simp; try with_reducible rfl)
  try simp only [Act.put, List.setIfInBounds_toArray, List.set_cons_zero, List.set_cons_succ]
  refine wpAnyH_take (i := 5) (oi := { dst := some 38, op := Go.Op.load 22 (Go.Operand.tmp 37), type := 22, pos := "law.go:52", after := #[{ on := 4, ground := Go.Ground.data }], guard := none }) (v := ?_) rfl (by kernel_rfl) (by kernel_rfl) (by kernel_rfl) (fun _ _ _ h => h) (Or.inl ⟨by rfl, ?_⟩) hSw ?_
  rotate_left
  · (intro W hW; (try dsimp only at hW); go_simp; try with_reducible rfl)
  try simp only [Act.put, List.setIfInBounds_toArray, List.set_cons_zero, List.set_cons_succ]
  refine wpAnyH_take (i := 6) (oi := { dst := some 39, op := Go.Op.convert 22 9 (Go.Operand.tmp 38), type := 9, pos := "law.go:52", after := #[{ on := 5, ground := Go.Ground.data }], guard := none }) (v := ?_) rfl (by kernel_rfl) (by kernel_rfl) (by kernel_rfl) (fun _ _ _ h => h) (Or.inl ⟨by rfl, ?_⟩) hSw ?_
  rotate_left
  · (intro W hW; (try dsimp only at hW); go_simp; try with_reducible rfl)
  try simp only [Act.put, List.setIfInBounds_toArray, List.set_cons_zero, List.set_cons_succ]
  refine wpAnyH_ready (rs := [3]) (by kernel_rfl) (by simp) ?_
  refine AllReadyH.cons (o := { dst := some 36, op := Go.Op.call { callee := Go.Callee.value (Go.Operand.func 35), args := #[Go.Operand.tmp 33, Go.Operand.tmp 35], argTypes := #[32, 3] }, type := 9, pos := "law.go:52", after := #[{ on := 0, ground := Go.Ground.data }, { on := 2, ground := Go.Ground.data }], guard := none }) rfl (fun K hK => ?_) AllReadyH.nil
  rw [if_pos (by rfl)]
  go_simp
  refine (text_calls _ g d R k hk (H.out.no HC0.out) hx).mono ?_
  rintro e w1 ⟨rfl, hr1, hc1⟩
  have hT1 := hc1.cell hS1 (by show ¬ (w.heap.size = g); omega)
  have hT2 := hc1.cell hS2 (by show ¬ (w.heap.size + 1 = g); omega)
  have hT3 := (HSUB.out _ ((HC0.out.mono (fun _ _ x => x.elim)).one hc1 (.inr rfl))).text (P := Try.prog) Try.underlying22 Try.underlying5 Try.underlying9
  refine hK.out _ _ ⟨hT1, hT2, hT3⟩ (fun hSw => ?_)
  clear hK
  try simp only [Act.put, List.setIfInBounds_toArray, List.set_cons_zero, List.set_cons_succ]
  refine wpAnyH_take (i := 7) (oi := { dst := some 40, op := Go.Op.binOp Go.BinOp.eql 9 (Go.Operand.tmp 36) (Go.Operand.tmp 39) 9, type := 4, pos := "law.go:52", after := #[{ on := 3, ground := Go.Ground.data }, { on := 6, ground := Go.Ground.data }], guard := none }) (v := ?_) rfl (by kernel_rfl) (by kernel_rfl) (by kernel_rfl) (fun _ _ _ h => h) (Or.inl ⟨by rfl, ?_⟩) hSw ?_
  rotate_left
  · (intro W hW; (try dsimp only at hW); go_simp; try with_reducible rfl)
  try simp only [Act.put, List.setIfInBounds_toArray, List.set_cons_zero, List.set_cons_succ]
  refine wpAnyH_ready (rs := [8]) (by kernel_rfl) (by simp) ?_
  refine AllReadyH.cons (o := { dst := some 6, op := Go.Op.assign (Go.Operand.tmp 40), type := 4, pos := "law.go:52", after := #[{ on := 7, ground := Go.Ground.data }, { on := 3, ground := Go.Ground.chain }, { on := 0, ground := Go.Ground.phase }, { on := 1, ground := Go.Ground.phase }, { on := 2, ground := Go.Ground.phase }, { on := 3, ground := Go.Ground.phase }, { on := 4, ground := Go.Ground.phase }, { on := 5, ground := Go.Ground.phase }, { on := 6, ground := Go.Ground.phase }, { on := 7, ground := Go.Ground.phase }], guard := none }) rfl (fun K hK => ?_) AllReadyH.nil
  rw [if_pos (by rfl)]
  go_simp
  refine hK.out _ _ ⟨hT1, hT2, hT3⟩ (fun hSw => ?_)
  clear hK
  try simp only [Act.put, List.setIfInBounds_toArray, List.set_cons_zero, List.set_cons_succ]
  refine wpAnyH_done (by kernel_rfl) ?_ _

  go_wp2
  go_ret
  refine ⟨?_, hr1, (HC0.out.mono (fun _ _ x => x.elim)).one hc1 (.inr rfl)⟩
  simp

set_option maxRecDepth 100000 in
set_option maxHeartbeats 1600000 in
theorem told_raw (w : World) (g d : Nat) (R : Rd) (h : RdrAt w g d R) (hx : R.rest.length ≤ 140737488355328) (k : Int) (x : Nat) (A2 : Option Addr) (n2 c2 : Nat) (hsub : ∀ w', Chg (One g) w w' → Bytes w' (.slice A2 n2 c2) (rRaw k R).1) :
    Calls Try.prog 30 #[.pointer (some ⟨g, 0, none⟩), .agg #[.int .i64 4, .int .i64 k], .agg #[.int .u64 (x : Int), .slice A2 n2 c2]] w fun e w' => e = .returned (.bool true) ∧ RdrAt w' g d (rRaw k R).2 ∧ Chg (One g) w w' := by
  have hlt := h.lt
  have H := Lib.hid h
  clear h
  have HSUB := Lib.hid hsub
  clear hsub
  go_enter Try.func30, Try.ntmps30
  go_wp2
  have hc0 : Chg No w ((w.alloc (.cells #[.int .i64 4, .int .i64 k] 50)).alloc (.cells #[.int .u64 (x : Int), .slice A2 n2 c2] 52)).drew := (((Chg.refl No w).alloc _).alloc _).drew
  have HC0 := Lib.hid hc0
  have e1 := heap_alloc_new (w.alloc (.cells #[.int .i64 4, .int .i64 k] 50)) (.cells #[.int .u64 (x : Int), .slice A2 n2 c2] 52)
  rw [show (w.alloc (.cells #[.int .i64 4, .int .i64 k] 50)).heap.size = w.heap.size + 1 by simp] at e1
  have e0 := ((Chg.refl No (w.alloc (.cells #[.int .i64 4, .int .i64 k] 50))).alloc (.cells #[.int .u64 (x : Int), .slice A2 n2 c2] 52)).heap (heap_alloc_new w (.cells #[.int .i64 4, .int .i64 k] 50)) (fun x => x)
  have hS1 := (cells2 (((Chg.refl No _).drew).heap e0 (fun x => x))).2.1
  have hS2 := (cells2 (((Chg.refl No _).drew).heap e1 (fun x => x))).2.1
  have hS3 := (HSUB.out _ (HC0.out.mono (S' := One g) (fun _ _ x => x.elim))).text (P := Try.prog) Try.underlying22 Try.underlying5 Try.underlying9
  clear hc0 e0 e1
  refine wp_region_held_drew (S := fun W => W.cell? ⟨w.heap.size, 1, none⟩ = some (.int .i64 k) ∧ W.cell? ⟨w.heap.size + 1, 1, none⟩ = some (.slice A2 n2 c2) ∧ (convert 22 9 (.slice A2 n2 c2)).run Try.prog W = .ok (.string (mkS (rRaw k R).1)) W) (by kernel_rfl) ⟨hS1, hS2, hS3⟩ (fun hSw => ?_)
  refine wpAnyH_take (i := 0) (oi := { dst := some 41, op := Go.Op.move (Go.Operand.tmp 0), type := 32, pos := "law.go:54", after := #[], guard := none }) (v := ?_) rfl (by kernel_rfl) (by kernel_rfl) (by kernel_rfl) (fun _ _ _ h => h) (Or.inl ⟨by rfl, ?_⟩) hSw ?_
  rotate_left
  · (intro W hW; (try dsimp only at hW); go_simp; try with_reducible rfl)
  try simp only [Act.put, List.setIfInBounds_toArray, List.set_cons_zero, List.set_cons_succ]
  refine wpAnyH_take (i := 1) (oi := { dst := some 42, op := Go.Op.fieldAddr 50 (Go.Operand.tmp 4) 1, type := 0, pos := "law.go:54", after := #[], guard := none }) (v := ?_) rfl (by kernel_rfl) (by kernel_rfl) (by kernel_rfl) (fun _ _ _ h => h) (Or.inl ⟨by rfl, ?_⟩) hSw ?_
  rotate_left
  · (intro W hW; (try dsimp only at hW); go_simp; try with_reducible rfl)
  try simp only [Act.put, List.setIfInBounds_toArray, List.set_cons_zero, List.set_cons_succ]
  refine wpAnyH_take (i := 2) (oi := { dst := some 43, op := Go.Op.load 3 (Go.Operand.tmp 42), type := 3, pos := "law.go:54", after := #[{ on := 1, ground := Go.Ground.data }], guard := none }) (v := ?_) rfl (by kernel_rfl) (by kernel_rfl) (by kernel_rfl) (fun _ _ _ h => h) (Or.inl ⟨by rfl, ?_⟩) hSw ?_
  rotate_left
  · (intro W hW; (try dsimp only at hW); go_simp; try with_reducible rfl)
  try simp only [Act.put, List.setIfInBounds_toArray, List.set_cons_zero, List.set_cons_succ]
  refine wpAnyH_take (i := 4) (oi := { dst := some 45, op := Go.Op.fieldAddr 52 (Go.Operand.tmp 5) 1, type := 0, pos := "law.go:54", after := #[], guard := none }) (v := ?_) rfl (by kernel_rfl) (by kernel_rfl) (by kernel_rfl) (fun _ _ _ h => h) (Or.inl ⟨by rfl, ?_⟩) hSw ?_
  rotate_left
  · (intro W hW; (try dsimp only at hW); go_simp; try with_reducible rfl)
  try simp only [Act.put, List.setIfInBounds_toArray, List.set_cons_zero, List.set_cons_succ]
  refine wpAnyH_take (i := 5) (oi := { dst := some 46, op := Go.Op.load 22 (Go.Operand.tmp 45), type := 22, pos := "law.go:54", after := #[{ on := 4, ground := Go.Ground.data }], guard := none }) (v := ?_) rfl (by kernel_rfl) (by kernel_rfl) (by kernel_rfl) (fun _ _ _ h => h) (Or.inl ⟨by rfl, ?_⟩) hSw ?_
  rotate_left
  · (intro W hW; (try dsimp only at hW); go_simp; try with_reducible rfl)
  try simp only [Act.put, List.setIfInBounds_toArray, List.set_cons_zero, List.set_cons_succ]
  refine wpAnyH_ready (rs := [3]) (by kernel_rfl) (by simp) ?_
  refine AllReadyH.cons (o := { dst := some 44, op := Go.Op.call { callee := Go.Callee.value (Go.Operand.func 36), args := #[Go.Operand.tmp 41, Go.Operand.tmp 43], argTypes := #[32, 3] }, type := 22, pos := "law.go:54", after := #[{ on := 0, ground := Go.Ground.data }, { on := 2, ground := Go.Ground.data }], guard := none }) rfl (fun K hK => ?_) AllReadyH.nil
  rw [if_pos (by rfl)]
  go_simp
  refine (raw_calls _ g d R k (H.out.no HC0.out) hx).mono ?_
  rintro e w1 ⟨v1, rfl, ho1, hr1, hc1⟩
  obtain ⟨A1, n1, c1, rfl, HL1, HO1⟩ := OwnB.form (w := w1) (v := v1) (xs := (rRaw k R).1) ho1
  have HB1 := Lib.hid HO1.out.bytes
  clear ho1
  have hT1 := hc1.cell hS1 (by show ¬ (w.heap.size = g); omega)
  have hT2 := hc1.cell hS2 (by show ¬ (w.heap.size + 1 = g); omega)
  have hT3 := (HSUB.out _ ((HC0.out.mono (fun _ _ x => x.elim)).one hc1 (.inr rfl))).text (P := Try.prog) Try.underlying22 Try.underlying5 Try.underlying9
  refine hK.out _ _ ⟨hT1, hT2, hT3⟩ (fun hSw => ?_)
  clear hK
  try simp only [Act.put, List.setIfInBounds_toArray, List.set_cons_zero, List.set_cons_succ]
  refine wpAnyH_ready (rs := [6]) (by kernel_rfl) (by simp) ?_
  refine AllReadyH.cons (o := { dst := some 47, op := Go.Op.call { callee := Go.Callee.value (Go.Operand.func 15), args := #[Go.Operand.tmp 44, Go.Operand.tmp 46], argTypes := #[22, 22] }, type := 4, pos := "law.go:54", after := #[{ on := 3, ground := Go.Ground.data }, { on := 5, ground := Go.Ground.data }, { on := 3, ground := Go.Ground.chain }], guard := none }) rfl (fun K hK => ?_) AllReadyH.nil
  rw [if_pos (by rfl)]
  go_simp
  refine (same_calls _ _ _ _ _ _ _ _ _ HB1.out (HSUB.out _ ((HC0.out.mono (fun _ _ x => x.elim)).one hc1 (.inr rfl)))).mono ?_
  rintro e w' ⟨rfl, rfl⟩
  refine hK.out _ _ ⟨hT1, hT2, hT3⟩ (fun hSw => ?_)
  clear hK
  try simp only [Act.put, List.setIfInBounds_toArray, List.set_cons_zero, List.set_cons_succ]
  refine wpAnyH_ready (rs := [7]) (by kernel_rfl) (by simp) ?_
  refine AllReadyH.cons (o := { dst := some 6, op := Go.Op.assign (Go.Operand.tmp 47), type := 4, pos := "law.go:54", after := #[{ on := 6, ground := Go.Ground.data }, { on := 6, ground := Go.Ground.chain }, { on := 0, ground := Go.Ground.phase }, { on := 1, ground := Go.Ground.phase }, { on := 2, ground := Go.Ground.phase }, { on := 3, ground := Go.Ground.phase }, { on := 4, ground := Go.Ground.phase }, { on := 5, ground := Go.Ground.phase }, { on := 6, ground := Go.Ground.phase }], guard := none }) rfl (fun K hK => ?_) AllReadyH.nil
  rw [if_pos (by rfl)]
  go_simp
  refine hK.out _ _ ⟨hT1, hT2, hT3⟩ (fun hSw => ?_)
  clear hK
  try simp only [Act.put, List.setIfInBounds_toArray, List.set_cons_zero, List.set_cons_succ]
  refine wpAnyH_done (by kernel_rfl) ?_ _

  go_wp2
  go_ret
  refine ⟨?_, hr1, (HC0.out.mono (fun _ _ x => x.elim)).one hc1 (.inr rfl)⟩
  simp
end Go.Proofs.Ytikfplfhndhjbaa
