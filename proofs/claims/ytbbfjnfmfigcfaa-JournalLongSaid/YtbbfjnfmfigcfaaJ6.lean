/-
  The other writes of a disk: an empty file, too long a file, Truncate; and Writes.
-/
import Derived.Test.YtbbfjnfmfigcfaaJ5
namespace Go.Proofs.Ytbbfjnfmfigcfaa
open Go.RowKit Go.Shelf
set_option linter.unusedVariables false
set_option linter.unusedSimpArgs false
set_option maxRecDepth 100000

theorem DiskAt.dm {w : World} {d m wr : Nat} {f : Option (ByteArray × Value)} (h : DiskAt w d m wr f) : d ≠ m := by
  rintro rfl; have := h.1.symm.trans h.2; unfold mapObj at this; split at this <;> cases this
theorem DiskAt.put {w : World} {d m wr : Nat} {f : Option (ByteArray × Value)} (h : DiskAt w d m wr f) (f' : Option (ByteArray × Value)) : DiskAt (w.putObj m (mapObj f')) d m wr f' ∧ Chg (One m) w (w.putObj m (mapObj f')) := by
  have hc : Chg (One m) w (w.putObj m (mapObj f')) := ⟨rfl, rfl, rfl, (grownBy_putObj' w m _).size, fun i hi hs => (grownBy_putObj' w m _).block i hi (fun e => hs (Option.some.inj e))⟩
  have hlt : m < w.heap.size := (Array.getElem?_eq_some_iff.1 h.2).1
  exact ⟨⟨hc.heap h.1 h.dm, by simp [World.putObj, hlt]⟩, hc⟩
theorem box_ne_map {w : World} {b m : Nat} {t : TypeId} {v : Value} {f : Option (ByteArray × Value)} (h : Boxed w b t v) (hm : w.heap[m]? = some (mapObj f)) : b ≠ m := by
  rintro rfl; have := (show w.heap[b]? = _ from h).symm.trans hm; unfold mapObj at this; split at this <;> cases this
theorem box_ne_disk {w : World} {b d m wr : Nat} {t : TypeId} {v : Value} {f : Option (ByteArray × Value)} (h : Boxed w b t v) (hm : DiskAt w d m wr f) : b ≠ d := by
  rintro rfl; have := (show w.heap[b]? = _ from h).symm.trans hm.1; cases this
theorem DiskAt.count {w : World} {d m wr : Nat} {f : Option (ByteArray × Value)} (h : DiskAt w d m wr f) : DiskAt (w.setCell ⟨d, 1, none⟩ (.int .i64 ((wr : Int) + 1))) d m (wr + 1) f ∧ Chg (One d) w (w.setCell ⟨d, 1, none⟩ (.int .i64 ((wr : Int) + 1))) := by
  have hc : Chg (One d) w (w.setCell ⟨d, 1, none⟩ (.int .i64 ((wr : Int) + 1))) := Chg.put _ _ _ _
  refine ⟨⟨?_, hc.heap h.2 (fun e => h.dm e.symm)⟩, hc⟩
  obtain ⟨hlt, hk⟩ := Array.getElem?_eq_some_iff.1 h.1
  show (w.heap.modify d _)[d]? = _
  rw [Array.getElem?_eq_getElem (by rw [Array.size_modify]; exact hlt), Array.getElem_modify_self, hk]
  simp
/-- The blocks that a disk itself is. -/
def DM (d m : Nat) : Nat → Prop := fun i => i = d ∨ i = m

set_option maxHeartbeats 1600000 in
theorem store_nil (w : World) (d m wr B0 B1 : Nat) (k : ByteArray) (h : DiskAt w d m wr none) (h0 : Boxed w B0 24 (.pointer (some ⟨d, 0, none⟩))) (h1 : Boxed w B1 9 (.string k)) :
    Calls Try.prog 42 #[.pointer (some ⟨B0, 0, none⟩), .pointer (some ⟨B1, 0, none⟩)] w fun e w' => e = .returned (.tuple #[]) ∧ DiskAt w' d m wr (some (k, .slice none 0 0)) ∧ Chg (One m) w w' := by
  obtain ⟨c0, c1, c2', c3, c4⟩ := h.cells
  have e0 := h0.cell
  have e1 := h1.cell
  have hD1 : DiskAt w.drew d m wr none := h
  obtain ⟨hD2, hcm⟩ := hD1.put (some (k, .slice none 0 0))
  have hup := update_none w.drew m k (.slice none 0 0) hD1.2
  have M0 := box_ne_map h0 h.2
  have M1 := box_ne_map h1 h.2
  have MD := h.dm
  have e0 : w.drew.cell? _ = _ := e0
  have e1 : w.drew.cell? _ = _ := e1
  have c0 : w.drew.cell? _ = _ := c0
  clear hD1 h h0 h1
  go_enter Try.func42, Try.ntmps42
  refine wp_region_held_drew (S := (fun W => W.cell? ⟨B0, 0, none⟩ = some (.pointer (some ⟨d, 0, none⟩)) ∧ W.cell? ⟨B1, 0, none⟩ = some (.string k) ∧ W.cell? ⟨d, 0, none⟩ = some (.map (some m)))) (by kernel_rfl) ⟨e0, e1, c0⟩ (fun hSw => ?_)
  refine wpAnyH_take (i := 0) (oi := { dst := some 2, op := Go.Op.load 24 (Go.Operand.tmp 0), type := 24, pos := "disk.go:109", after := #[], guard := none }) (v := ?_) rfl (by kernel_rfl) (by kernel_rfl) (by kernel_rfl) (fun _ _ _ h => h) (Or.inl ⟨by rfl, ?_⟩) hSw ?_
  rotate_left
  · (intro W hW; obtain ⟨hq1, hq2, hq3⟩ := hW; go_simp; try with_reducible rfl)
  try simp only [Act.put, List.setIfInBounds_toArray, List.set_cons_zero, List.set_cons_succ]
  refine wpAnyH_take (i := 1) (oi := { dst := some 3, op := Go.Op.nilCheck (Go.Operand.tmp 2), type := 0, pos := "disk.go:109", after := #[{ on := 0, ground := Go.Ground.data }], guard := none }) (v := ?_) rfl (by kernel_rfl) (by kernel_rfl) (by kernel_rfl) (fun _ _ _ h => h) (Or.inl ⟨by rfl, ?_⟩) hSw ?_
  rotate_left
  · (intro W hW; obtain ⟨hq1, hq2, hq3⟩ := hW; go_simp; try with_reducible rfl)
  try simp only [Act.put, List.setIfInBounds_toArray, List.set_cons_zero, List.set_cons_succ]
  refine wpAnyH_take (i := 2) (oi := { dst := some 4, op := Go.Op.fieldAddr 67 (Go.Operand.tmp 3) 0, type := 0, pos := "disk.go:109", after := #[{ on := 1, ground := Go.Ground.data }], guard := none }) (v := ?_) rfl (by kernel_rfl) (by kernel_rfl) (by kernel_rfl) (fun _ _ _ h => h) (Or.inl ⟨by rfl, ?_⟩) hSw ?_
  rotate_left
  · (intro W hW; obtain ⟨hq1, hq2, hq3⟩ := hW; go_simp; try with_reducible rfl)
  try simp only [Act.put, List.setIfInBounds_toArray, List.set_cons_zero, List.set_cons_succ]
  refine wpAnyH_take (i := 3) (oi := { dst := some 5, op := Go.Op.load 65 (Go.Operand.tmp 4), type := 65, pos := "disk.go:109", after := #[{ on := 2, ground := Go.Ground.data }], guard := none }) (v := ?_) rfl (by kernel_rfl) (by kernel_rfl) (by kernel_rfl) (fun _ _ _ h => h) (Or.inl ⟨by rfl, ?_⟩) hSw ?_
  rotate_left
  · (intro W hW; obtain ⟨hq1, hq2, hq3⟩ := hW; go_simp; try with_reducible rfl)
  try simp only [Act.put, List.setIfInBounds_toArray, List.set_cons_zero, List.set_cons_succ]
  refine wpAnyH_take (i := 4) (oi := { dst := some 6, op := Go.Op.load 9 (Go.Operand.tmp 1), type := 9, pos := "disk.go:109", after := #[], guard := none }) (v := ?_) rfl (by kernel_rfl) (by kernel_rfl) (by kernel_rfl) (fun _ _ _ h => h) (Or.inl ⟨by rfl, ?_⟩) hSw ?_
  rotate_left
  · (intro W hW; obtain ⟨hq1, hq2, hq3⟩ := hW; go_simp; try with_reducible rfl)
  try simp only [Act.put, List.setIfInBounds_toArray, List.set_cons_zero, List.set_cons_succ]
  refine wpAnyH_ready (rs := [5]) (by kernel_rfl) (by simp) ?_
  refine AllReadyH.cons (o := { dst := none, op := Go.Op.mapUpdate 65 (Go.Operand.tmp 5) (Go.Operand.tmp 6) (Go.Operand.const (Go.Value.slice none 0 0)), type := 0, pos := "disk.go:109", after := #[{ on := 3, ground := Go.Ground.data }, { on := 4, ground := Go.Ground.data }, { on := 0, ground := Go.Ground.phase }, { on := 1, ground := Go.Ground.phase }, { on := 2, ground := Go.Ground.phase }, { on := 3, ground := Go.Ground.phase }, { on := 4, ground := Go.Ground.phase }], guard := none }) rfl (fun K hK => ?_) AllReadyH.nil
  rw [if_pos (by rfl)]
  go_simp
  refine hK.out _ _ ⟨hcm.cell e0 M0, hcm.cell e1 M1, hcm.cell c0 MD⟩ (fun hSw => ?_)
  clear hK
  try simp only [Act.put, List.setIfInBounds_toArray, List.set_cons_zero, List.set_cons_succ]
  refine wpAnyH_done (by kernel_rfl) ?_ _
  go_wp2
  go_end0
  exact ⟨rfl, hD2, ⟨hcm.os, hcm.tape, hcm.output, hcm.size, hcm.block⟩⟩

set_option maxHeartbeats 3200000 in
theorem trunc1 (w : World) (d m wr B0 B1 B2 B3 : Nat) (k : ByteArray) (A : Option Addr) (n c q : Nat) (xs : List UInt8) (h : DiskAt w d m wr (some (k, .slice A n c))) (h0 : Boxed w B0 22 (.slice A n c)) (h1 : Boxed w B1 3 (.int .i64 (q : Int))) (h2 : Boxed w B2 24 (.pointer (some ⟨d, 0, none⟩))) (h3 : Boxed w B3 9 (.string k))
    (hb : Bytes w (.slice A n c) xs) (hl : xs.length = n) (hq : q ≤ n) (hn : n ≤ 140737488355328) :
    Calls Try.prog 48 #[.pointer (some ⟨B0, 0, none⟩), .pointer (some ⟨B1, 0, none⟩), .pointer (some ⟨B2, 0, none⟩), .pointer (some ⟨B3, 0, none⟩)] w fun e w' => e = .returned (.tuple #[]) ∧ ∃ v', DiskAt w' d m wr (some (k, v')) ∧ OwnB w' w.heap.size v' (xs.take q) ∧ Chg (One m) w w' := by
  obtain ⟨c0, c1, c2', c3, c4⟩ := h.cells
  have e0 := h0.cell
  have e1 := h1.cell
  have e2 := h2.cell
  have e3 := h3.cell
  have HD := Lib.hid h
  have M0 := box_ne_map h0 h.2
  have M1 := box_ne_map h1 h.2
  have M2 := box_ne_map h2 h.2
  have M3 := box_ne_map h3 h.2
  have MD := h.dm
  have hform : n ≤ c ∧ c ≤ 9223372036854775807 := by
    obtain ⟨A3, c3, h3, h4, h5⟩ := hb.form
    simp only [Value.slice.injEq] at h3
    obtain ⟨-, h6, rfl⟩ := h3
    exact ⟨by omega, h5⟩
  have q1 : (q : Int) ≤ (c : Int) := by omega
  have HB : Hid (Bytes w (.slice A q c) (xs.take q)) := Bytes.takeN hb hl hq (by omega) (Nat.le_refl _)
  clear h h0 h1 h2 h3 hb
  go_enter Try.func48, Try.ntmps48
  refine wp_region_held_drew (S := (fun W => W.cell? ⟨B0, 0, none⟩ = some (.slice A n c) ∧ W.cell? ⟨B1, 0, none⟩ = some (.int .i64 (q : Int)) ∧ W.cell? ⟨B2, 0, none⟩ = some (.pointer (some ⟨d, 0, none⟩)) ∧ W.cell? ⟨B3, 0, none⟩ = some (.string k) ∧ W.cell? ⟨d, 0, none⟩ = some (.map (some m)))) (by kernel_rfl) ⟨e0, e1, e2, e3, c0⟩ (fun hSw => ?_)
  refine wpAnyH_take (i := 0) (oi := { dst := some 4, op := Go.Op.load 24 (Go.Operand.tmp 2), type := 24, pos := "disk.go:137", after := #[], guard := none }) (v := ?_) rfl (by kernel_rfl) (by kernel_rfl) (by kernel_rfl) (fun _ _ _ h => h) (Or.inl ⟨by rfl, ?_⟩) hSw ?_
  rotate_left
  · (intro W hW; obtain ⟨hq1, hq2, hq3, hq4, hq5⟩ := hW; go_simp; try with_reducible rfl)
  try simp only [Act.put, List.setIfInBounds_toArray, List.set_cons_zero, List.set_cons_succ]
  refine wpAnyH_take (i := 1) (oi := { dst := some 5, op := Go.Op.nilCheck (Go.Operand.tmp 4), type := 0, pos := "disk.go:137", after := #[{ on := 0, ground := Go.Ground.data }], guard := none }) (v := ?_) rfl (by kernel_rfl) (by kernel_rfl) (by kernel_rfl) (fun _ _ _ h => h) (Or.inl ⟨by rfl, ?_⟩) hSw ?_
  rotate_left
  · (intro W hW; obtain ⟨hq1, hq2, hq3, hq4, hq5⟩ := hW; go_simp; try with_reducible rfl)
  try simp only [Act.put, List.setIfInBounds_toArray, List.set_cons_zero, List.set_cons_succ]
  refine wpAnyH_take (i := 2) (oi := { dst := some 6, op := Go.Op.fieldAddr 67 (Go.Operand.tmp 5) 0, type := 0, pos := "disk.go:137", after := #[{ on := 1, ground := Go.Ground.data }], guard := none }) (v := ?_) rfl (by kernel_rfl) (by kernel_rfl) (by kernel_rfl) (fun _ _ _ h => h) (Or.inl ⟨by rfl, ?_⟩) hSw ?_
  rotate_left
  · (intro W hW; obtain ⟨hq1, hq2, hq3, hq4, hq5⟩ := hW; go_simp; try with_reducible rfl)
  try simp only [Act.put, List.setIfInBounds_toArray, List.set_cons_zero, List.set_cons_succ]
  refine wpAnyH_take (i := 3) (oi := { dst := some 7, op := Go.Op.load 65 (Go.Operand.tmp 6), type := 65, pos := "disk.go:137", after := #[{ on := 2, ground := Go.Ground.data }], guard := none }) (v := ?_) rfl (by kernel_rfl) (by kernel_rfl) (by kernel_rfl) (fun _ _ _ h => h) (Or.inl ⟨by rfl, ?_⟩) hSw ?_
  rotate_left
  · (intro W hW; obtain ⟨hq1, hq2, hq3, hq4, hq5⟩ := hW; go_simp; try with_reducible rfl)
  try simp only [Act.put, List.setIfInBounds_toArray, List.set_cons_zero, List.set_cons_succ]
  refine wpAnyH_take (i := 4) (oi := { dst := some 8, op := Go.Op.load 9 (Go.Operand.tmp 3), type := 9, pos := "disk.go:137", after := #[], guard := none }) (v := ?_) rfl (by kernel_rfl) (by kernel_rfl) (by kernel_rfl) (fun _ _ _ h => h) (Or.inl ⟨by rfl, ?_⟩) hSw ?_
  rotate_left
  · (intro W hW; obtain ⟨hq1, hq2, hq3, hq4, hq5⟩ := hW; go_simp; try with_reducible rfl)
  try simp only [Act.put, List.setIfInBounds_toArray, List.set_cons_zero, List.set_cons_succ]
  refine wpAnyH_take (i := 5) (oi := { dst := some 9, op := Go.Op.load 22 (Go.Operand.tmp 0), type := 22, pos := "disk.go:137", after := #[], guard := none }) (v := ?_) rfl (by kernel_rfl) (by kernel_rfl) (by kernel_rfl) (fun _ _ _ h => h) (Or.inl ⟨by rfl, ?_⟩) hSw ?_
  rotate_left
  · (intro W hW; obtain ⟨hq1, hq2, hq3, hq4, hq5⟩ := hW; go_simp; try with_reducible rfl)
  try simp only [Act.put, List.setIfInBounds_toArray, List.set_cons_zero, List.set_cons_succ]
  refine wpAnyH_take (i := 6) (oi := { dst := some 10, op := Go.Op.load 3 (Go.Operand.tmp 1), type := 3, pos := "disk.go:137", after := #[], guard := none }) (v := ?_) rfl (by kernel_rfl) (by kernel_rfl) (by kernel_rfl) (fun _ _ _ h => h) (Or.inl ⟨by rfl, ?_⟩) hSw ?_
  rotate_left
  · (intro W hW; obtain ⟨hq1, hq2, hq3, hq4, hq5⟩ := hW; go_simp; try with_reducible rfl)
  try simp only [Act.put, List.setIfInBounds_toArray, List.set_cons_zero, List.set_cons_succ]
  refine wpAnyH_take (i := 7) (oi := { dst := some 11, op := Go.Op.slice 22 (Go.Operand.tmp 9) none (some (Go.Operand.tmp 10)) none, type := 22, pos := "disk.go:137", after := #[{ on := 5, ground := Go.Ground.data }, { on := 6, ground := Go.Ground.data }], guard := none }) (v := ?_) rfl (by kernel_rfl) (by kernel_rfl) (by kernel_rfl) (fun _ _ _ h => h) (Or.inl ⟨by rfl, ?_⟩) hSw ?_
  rotate_left
  · (intro W hW; obtain ⟨hq1, hq2, hq3, hq4, hq5⟩ := hW; go_simp; try with_reducible rfl)
  try simp only [Act.put, List.setIfInBounds_toArray, List.set_cons_zero, List.set_cons_succ]
  refine wpAnyH_ready (rs := [8]) (by kernel_rfl) (by simp) ?_
  refine AllReadyH.cons (o := { dst := some 12, op := Go.Op.call { callee := Go.Callee.value (Go.Operand.func 32), args := #[Go.Operand.tmp 11], argTypes := #[22] }, type := 22, pos := "disk.go:137", after := #[{ on := 7, ground := Go.Ground.data }], guard := none }) rfl (fun K hK => ?_) AllReadyH.nil
  rw [if_pos (by rfl)]
  go_simp
  refine (clone_any _ A q c (xs.take q) (HB.out.no (Chg.refl No w).drew) (by omega)).mono ?_
  rintro e w1 ⟨v', rfl, ho, hc⟩
  have hc1 : Chg No w w1 := (Chg.refl No w).drew.no hc
  have HO1 := Lib.hid ho
  have hD1 := HD.out.chg hc1 (fun x => x) (fun x => x)
  have hup := update_same w1 m k (.slice A n c) v' hD1.2
  obtain ⟨hD2, hcm⟩ := hD1.put (some (k, v'))
  have hc2 : Chg (One m) w (w1.putObj m (mapObj (some (k, v')))) := (hc1.mono (fun _ _ x => x.elim)).trans hcm (fun _ _ x => x)
  refine hK.out _ _ ⟨hc1.cell e0 (fun x => x), hc1.cell e1 (fun x => x), hc1.cell e2 (fun x => x), hc1.cell e3 (fun x => x), hc1.cell c0 (fun x => x)⟩ (fun hSw => ?_)
  clear hK
  try simp only [Act.put, List.setIfInBounds_toArray, List.set_cons_zero, List.set_cons_succ]
  refine wpAnyH_ready (rs := [9]) (by kernel_rfl) (by simp) ?_
  refine AllReadyH.cons (o := { dst := none, op := Go.Op.mapUpdate 65 (Go.Operand.tmp 7) (Go.Operand.tmp 8) (Go.Operand.tmp 12), type := 0, pos := "disk.go:137", after := #[{ on := 3, ground := Go.Ground.data }, { on := 4, ground := Go.Ground.data }, { on := 8, ground := Go.Ground.data }, { on := 8, ground := Go.Ground.chain }, { on := 0, ground := Go.Ground.phase }, { on := 1, ground := Go.Ground.phase }, { on := 2, ground := Go.Ground.phase }, { on := 3, ground := Go.Ground.phase }, { on := 4, ground := Go.Ground.phase }, { on := 5, ground := Go.Ground.phase }, { on := 6, ground := Go.Ground.phase }, { on := 7, ground := Go.Ground.phase }, { on := 8, ground := Go.Ground.phase }], guard := none }) rfl (fun K hK => ?_) AllReadyH.nil
  rw [if_pos (by rfl)]
  go_simp
  refine hK.out _ _ ⟨hc2.cell e0 M0, hc2.cell e1 M1, hc2.cell e2 M2, hc2.cell e3 M3, hc2.cell c0 MD⟩ (fun hSw => ?_)
  clear hK
  try simp only [Act.put, List.setIfInBounds_toArray, List.set_cons_zero, List.set_cons_succ]
  refine wpAnyH_done (by kernel_rfl) ?_ _
  have ho2 : OwnB (w1.putObj m (mapObj (some (k, v')))) w.heap.size v' (xs.take q) := by
    refine (OwnB.mono HO1.out (Nat.le_refl _)).chg hcm (fun b hb hx => ?_)
    have hx : b = m := hx
    obtain ⟨cc, fz, hcc⟩ := OwnB.cells HO1.out b hb
    rw [hx, hD1.2] at hcc
    cases hcc
  clear hup
  go_wp2
  go_end0
  exact ⟨rfl, v', hD2, ho2, hc2⟩

set_option maxHeartbeats 3200000 in
theorem dappend_nil (w : World) (d m wr0 : Nat) (k : ByteArray) (hmay : ∀ w, Calls Try.prog 40 #[.string k] w fun e w' => e = .returned (.bool true) ∧ Chg No w w') (A2 : Option Addr) (c2 : Nat)
    (h : DiskAt w d m wr0 none) (hw : wr0 < 9223372036850000000) :
    Calls Try.prog 22 #[.pointer (some ⟨d, 0, none⟩), .string k, .slice A2 0 c2] w fun e w' => e = .returned (.int .i64 0) ∧ DiskAt w' d m (wr0 + 1) (some (k, .slice none 0 0)) ∧ Chg (DM d m) w w' := by
  have HD := Lib.hid h
  clear h
  go_enter Try.func22, Try.ntmps22
  go_wp2
  go_step3
  go_wp2_with fail
  refine (hmay _).mono ?_
  rintro e w1 ⟨rfl, hc1⟩
  have hx0 : Boxed w1 w.heap.size 24 (.pointer (some ⟨d, 0, none⟩)) := hc1.heap ((Boxed.new w 24 (.pointer (some ⟨d, 0, none⟩))).alloc _) (fun x => x)
  have hx1 : Boxed w1 (w.heap.size + 1) 9 (.string k) := by
    have h0 := Boxed.new (w.alloc (.cells #[.pointer (some ⟨d, 0, none⟩)] 24)) 9 (.string k)
    rw [World.size_alloc] at h0
    exact hc1.heap h0 (fun x => x)
  have hcw : Chg No w w1 := (((Chg.refl No w).alloc _).alloc _).no hc1
  have hD1 := HD.out.chg hcw (fun x => x) (fun x => x)
  obtain ⟨c0, c1, c2', c3, c4⟩ := hD1.cells
  have e0 := hx0.cell
  have e1 := hx1.cell
  have hlk := look_none w1 m k hD1.2
  have hlkd := look_none w1.drew m k hD1.2
  have hmp := run_len_map (P := Try.prog) (w := w1.drew) 65 3 m #[] 0 (Try.underlying65) hD1.2
  have HC1 := Lib.hid hcw
  have HX0 := Lib.hid hx0
  have HX1 := Lib.hid hx1
  have HD1 := Lib.hid hD1
  clear hc1 hcw hx0 hx1 hD1
  go_wp2
  go_region
  have hDd : DiskAt w1.drew d m wr0 none := HD1.out
  have hX0d : Boxed w1.drew w.heap.size 24 (.pointer (some ⟨d, 0, none⟩)) := HX0.out
  have hX1d : Boxed w1.drew (w.heap.size + 1) 9 (.string k) := HX1.out
  clear hlk hlkd c1 c2' c3 c4
  go_wp2_with fail
  refine (raw_calls w1.drew d m wr0 none hDd (by omega) _ _ (fun w' => DiskAt w' d m (wr0 + 1) (some (k, .slice none 0 0)) ∧ Chg (DM d m) w w') (enters_of Try.func42 (by kernel_rfl) rfl) ?_).mono ?_
  · obtain ⟨hD3, hc3⟩ := hDd.count
    refine (store_nil _ d m (wr0 + 1) w.heap.size (w.heap.size + 1) k hD3 (hc3.heap hX0d (box_ne_disk hX0d hDd)) (hc3.heap hX1d (box_ne_disk hX1d hDd))).mono ?_
    rintro e w4 ⟨rfl, hD4, hc4⟩
    refine ⟨rfl, hD4, (((HC1.out.drew).mono (fun _ _ x => x.elim)).trans hc3 (fun i _ hi => .inl hi)).trans hc4 (fun i _ hi => .inr hi)⟩
  rintro e w2 ⟨rfl, hD5, hc5⟩
  have HD5 := Lib.hid hD5
  have HC5 := Lib.hid hc5
  clear hD5 hc5 hDd hX0d hX1d e0 e1
  go_wp2
  all_goals (try rw [Exit.noGoto_ret])
  go_ret
  exact ⟨rfl, HD5.out, HC5.out⟩

set_option maxHeartbeats 3200000 in
theorem dappend_long (w : World) (d m wr0 : Nat) (k : ByteArray) (hmay : ∀ w, Calls Try.prog 40 #[.string k] w fun e w' => e = .returned (.bool true) ∧ Chg No w w') (A A2 : Option Addr) (n c n2 c2 : Nat)
    (h : DiskAt w d m wr0 (some (k, .slice A n c))) (hn1 : n ≤ 4194304) (hn : 4194304 < n + n2) :
    Calls Try.prog 22 #[.pointer (some ⟨d, 0, none⟩), .string k, .slice A2 n2 c2] w fun e w' => e = .returned (.int .i64 3) ∧ Chg No w w' := by
  have HD := Lib.hid h
  clear h
  go_enter Try.func22, Try.ntmps22
  go_wp2
  go_step3
  go_wp2_with fail
  refine (hmay _).mono ?_
  rintro e w1 ⟨rfl, hc1⟩
  have hx0 : Boxed w1 w.heap.size 24 (.pointer (some ⟨d, 0, none⟩)) := hc1.heap ((Boxed.new w 24 (.pointer (some ⟨d, 0, none⟩))).alloc _) (fun x => x)
  have hx1 : Boxed w1 (w.heap.size + 1) 9 (.string k) := by
    have h0 := Boxed.new (w.alloc (.cells #[.pointer (some ⟨d, 0, none⟩)] 24)) 9 (.string k)
    rw [World.size_alloc] at h0
    exact hc1.heap h0 (fun x => x)
  have hcw : Chg No w w1 := (((Chg.refl No w).alloc _).alloc _).no hc1
  have hD1 := HD.out.chg hcw (fun x => x) (fun x => x)
  obtain ⟨c0, c1, c2', c3, c4⟩ := hD1.cells
  have e0 := hx0.cell
  have e1 := hx1.cell
  have hlk := look_same w1 m k _ hD1.2
  have hlkd := look_same w1.drew m k _ hD1.2
  have HC1 := Lib.hid hcw
  clear hc1 hcw hx0 hx1 hD1
  have q1 : (4194304 : Int) - (n : Int) < (n2 : Int) := by omega
  go_wp2
  go_region
  go_wp2
  rw [Exit.noGoto_ret]
  go_ret
  exact ⟨rfl, HC1.out.drew⟩

set_option maxHeartbeats 3200000 in
theorem truncate_calls (w : World) (d m wr : Nat) (k : ByteArray) (A : Option Addr) (n c q : Nat) (xs : List UInt8) (h : DiskAt w d m wr (some (k, .slice A n c))) (hw : wr < 9223372036850000000)
    (hb : Bytes w (.slice A n c) xs) (hl : xs.length = n) (hq : q < n) (hn : n ≤ 140737488355328) (hbd : ∀ b, (Value.slice A n c).ownBlock = some b → b ≠ d) :
    Calls Try.prog 31 #[.pointer (some ⟨d, 0, none⟩), .string k, .int .i64 (q : Int)] w fun e w' => e = .returned (.int .i64 0) ∧ ∃ v', DiskAt w' d m (wr + 1) (some (k, v')) ∧ OwnB w' w.heap.size v' (xs.take q) ∧ Chg (DM d m) w w' := by
  have HD := Lib.hid h
  have HB := Lib.hid hb
  have HBD := Lib.hid hbd
  have dlt : d < w.heap.size := (Array.getElem?_eq_some_iff.1 h.1).1
  have mlt : m < w.heap.size := (Array.getElem?_eq_some_iff.1 h.2).1
  have q2 : (q : Int) < (n : Int) := by omega
  have q3 : ¬ ((n : Int) < (q : Int)) := by omega
  have q4 : ¬ ((q : Int) < 0) := by omega
  have q5 : ((q : Int) == (n : Int)) = false := by rw [beq_eq_false_iff_ne]; omega
  have HX : Hid (∀ w3, w3 = (((w.alloc (.cells #[.pointer (some ⟨d, 0, none⟩)] 24)).alloc (.cells #[.string k] 9)).alloc (.cells #[.int .i64 (q : Int)] 3)) → Boxed w3 w.heap.size 24 (.pointer (some ⟨d, 0, none⟩)) ∧ Boxed w3 (w.heap.size + 1) 9 (.string k) ∧ Boxed w3 (w.heap.size + 2) 3 (.int .i64 (q : Int)) ∧ w3.heap.size = w.heap.size + 3 ∧ Chg No w w3) := by
    rintro w3 rfl
    have h1 := Boxed.new (w.alloc (.cells #[.pointer (some ⟨d, 0, none⟩)] 24)) 9 (.string k)
    have h2 := Boxed.new ((w.alloc (.cells #[.pointer (some ⟨d, 0, none⟩)] 24)).alloc (.cells #[.string k] 9)) 3 (.int .i64 (q : Int))
    simp only [World.size_alloc] at h1 h2
    refine ⟨((Boxed.new w _ _).alloc _).alloc _, h1.alloc _, h2, by simp only [World.size_alloc], (((Chg.refl No w).alloc _).alloc _).alloc _⟩
  clear h hb hbd
  go_enter Try.func31, Try.ntmps31
  go_wp2
  generalize hw3 : (((w.alloc (.cells #[.pointer (some ⟨d, 0, none⟩)] 24)).alloc (.cells #[.string k] 9)).alloc (.cells #[.int .i64 (q : Int)] 3)) = w3
  obtain ⟨b0, b1, b2, hsz, hc3⟩ := HX.out w3 hw3.symm
  have hD3 := HD.out.chg hc3 (fun x => x) (fun x => x)
  obtain ⟨c0, c1, c2', c3, c4⟩ := hD3.cells
  have e0 := b0.cell
  have e1 := b1.cell
  have e2 := b2.cell
  have hlk := look_same w3 m k _ hD3.2
  have hlke := look_same w3.drew m k _ hD3.2
  have hlkd := fun o => look_same (w3.alloc o).drew m k _ (((Chg.refl No w3).alloc o).drew.heap hD3.2 (fun x => x))
  have c0a := fun o => ((Chg.refl No w3).alloc o).drew.cell c0 (fun x => x)
  have e0a := fun o => ((Chg.refl No w3).alloc o).drew.cell e0 (fun x => x)
  have e1a := fun o => ((Chg.refl No w3).alloc o).drew.cell e1 (fun x => x)
  clear hw3
  go_region
  clear hlk hlkd hlke c0 c1 c2' c3 c4 c0a e0a e1a e0 e1 e2
  have hcd : Chg No w3 (w3.alloc (.cells #[.slice A n c] 22)).drew := ((Chg.refl No w3).alloc _).drew
  have b3 : Boxed (w3.alloc (.cells #[.slice A n c] 22)).drew w3.heap.size 22 (.slice A n c) := (Chg.refl No _).drew.heap (Boxed.new w3 22 (.slice A n c)) (fun x => x)
  rw [hsz] at b3
  generalize (w3.alloc (.cells #[.slice A n c] 22)).drew = w4 at hcd b3 ⊢
  have b0 := hcd.heap b0 (fun x => x)
  have b1 := hcd.heap b1 (fun x => x)
  have b2 := hcd.heap b2 (fun x => x)
  have hD4 := hD3.chg hcd (fun x => x) (fun x => x)
  have hc4 := hc3.no hcd
  have e0 : w4.cell? ⟨w.heap.size, 0, none⟩ = _ := Boxed.cell b0
  have e1 : w4.cell? ⟨w.heap.size + 1, 0, none⟩ = _ := Boxed.cell b1
  have e2 : w4.cell? ⟨w.heap.size + 2, 0, none⟩ = _ := Boxed.cell b2
  have e3 : w4.cell? ⟨w.heap.size + 3, 0, none⟩ = _ := Boxed.cell b3
  have HC4 := Lib.hid hc4
  have HB0 : Hid (Boxed w4 w.heap.size 24 (.pointer (some ⟨d, 0, none⟩))) := b0
  have HB1 : Hid (Boxed w4 (w.heap.size + 1) 9 (.string k)) := b1
  have HB2 : Hid (Boxed w4 (w.heap.size + 2) 3 (.int .i64 (q : Int))) := b2
  have HB3 : Hid (Boxed w4 (w.heap.size + 3) 22 (.slice A n c)) := b3
  have HD4 := Lib.hid hD4
  clear hD3 hD4 hc4 hcd b0 b1 b2 b3 hc3
  go_wp2_with fail
  refine (raw_calls w4 d m wr _ HD4.out (by omega) _ _ (fun w' => ∃ v', DiskAt w' d m (wr + 1) (some (k, v')) ∧ OwnB w' w.heap.size v' (xs.take q) ∧ Chg (DM d m) w w') (enters_of Try.func48 (by kernel_rfl) rfl) ?_).mono ?_
  · obtain ⟨hD3, hc3⟩ := HD4.out.count
    have hb4 := HB.out.no HC4.out
    refine (trunc1 _ d m (wr + 1) (w.heap.size + 3) (w.heap.size + 2) w.heap.size (w.heap.size + 1) k A n c q xs hD3 (hc3.heap HB3.out (box_ne_disk HB3.out HD4.out)) (hc3.heap HB2.out (box_ne_disk HB2.out HD4.out)) (hc3.heap HB0.out (box_ne_disk HB0.out HD4.out)) (hc3.heap HB1.out (box_ne_disk HB1.out HD4.out)) (hb4.chg hc3 (fun b hb e => HBD.out b hb e)) hl (by omega) hn).mono ?_
    rintro e w5 ⟨rfl, v', hD5, ho5, hc5⟩
    exact ⟨rfl, v', hD5, ho5.mono (Nat.le_trans HC4.out.size hc3.size), ((HC4.out.mono (fun _ _ x => x.elim)).trans hc3 (fun i _ hi => .inl hi)).trans hc5 (fun i _ hi => .inr hi)⟩
  rintro e w5 ⟨rfl, v', hD5, ho5, hc5⟩
  have HD5 := Lib.hid hD5
  have HO5 := Lib.hid ho5
  have HC5 := Lib.hid hc5
  clear hD5 ho5 hc5 e0 e1 e2 e3
  go_wp2
  go_ret
  exact ⟨rfl, v', HD5.out, HO5.out, HC5.out⟩

theorem writes_calls (w : World) (d m wr : Nat) (f : Option (ByteArray × Value)) (h : DiskAt w d m wr f) :
    Calls Try.prog 21 #[.pointer (some ⟨d, 0, none⟩)] w fun e w' => e = .returned (.int .i64 (wr : Int)) ∧ Chg No w w' := by
  obtain ⟨c0, c1, c2', c3, c4⟩ := h.cells
  go_enter Try.func21, Try.ntmps21
  go_wp2
  go_ret
  exact ⟨rfl, Chg.refl _ _⟩
end Go.Proofs.Ytbbfjnfmfigcfaa
