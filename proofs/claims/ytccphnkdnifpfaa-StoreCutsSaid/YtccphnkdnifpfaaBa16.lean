/-
  C1, C3, C4, C5: in one text.
-/
import Derived.Test.YtccphnkdnifpfaaBa3
import Derived.Test.YtccphnkdnifpfaaBa6
import Derived.Test.YtccphnkdnifpfaaBa1
import Derived.Deep.RegionHeld3
import Derived.Test.YtccphnkdnifpfaaBa2
namespace Go.Proofs.Ytccphnkdnifpfaa
set_option linter.unnecessarySimpa false
open Go.RowKit
set_option linter.unusedVariables false
set_option linter.unusedSimpArgs false
set_option maxRecDepth 100000

/-- A disk that is cut. -/
def DiskC (lf : Nat) (w : World) (d m : Nat) (writes : Nat) (f : Option (ByteArray × Value)) : Prop :=
  w.heap[d]? = some (.cells #[.map (some m), .int .i64 (writes : Int), .int .i64 (lf : Int), .bool true] 88 (0, 0)) ∧ w.heap[m]? = some (mapObj f)
theorem DiskC.chg {lf : Nat} {S : Nat → Prop} {w w' : World} {d m writes : Nat} {f : Option (ByteArray × Value)} (h : DiskC lf w d m writes f) (hc : Chg S w w') (h1 : ¬ S d) (h2 : ¬ S m) : DiskC lf w' d m writes f :=
  ⟨hc.heap h.1 h1, hc.heap h.2 h2⟩
theorem DiskC.no {lf : Nat} {w w' : World} {d m writes : Nat} {f : Option (ByteArray × Value)} (h : DiskC lf w d m writes f) (hc : Chg No w w') : DiskC lf w' d m writes f := h.chg hc (fun x => x) (fun x => x)
theorem DiskC.cells {lf : Nat} {w : World} {d m writes : Nat} {f : Option (ByteArray × Value)} (h : DiskC lf w d m writes f) :
    w.cell? ⟨d, 0, none⟩ = some (.map (some m)) ∧ w.cell? ⟨d, 1, none⟩ = some (.int .i64 (writes : Int)) ∧ w.cell? ⟨d, 2, none⟩ = some (.int .i64 (lf : Int)) ∧ w.cell? ⟨d, 3, none⟩ = some (.bool true) ∧ w.frozen? ⟨d, 1, none⟩ = false := by
  simp [World.cell?, World.frozen?, h.1]
theorem DiskC.fr {lf : Nat} {w : World} {d m writes : Nat} {f : Option (ByteArray × Value)} (h : DiskC lf w d m writes f) (i : Nat) : w.frozen? ⟨d, i, none⟩ = false := by
  simp [World.frozen?, h.1]
theorem DiskC.dm {lf : Nat} {w : World} {d m wr : Nat} {f : Option (ByteArray × Value)} (h : DiskC lf w d m wr f) : m ≠ d := by
  rintro rfl
  have := h.1.symm.trans h.2
  unfold mapObj at this
  split at this <;> cases this
theorem DiskC.nd {lf : Nat} {w : World} {d m wr : Nat} {f : Option (ByteArray × Value)} (h : DiskC lf w d m wr f) {base size n : Nat} {e : TypeId} {v : Value} {xs : List Value} (ho : w.ownsRow base e size v n xs) (he : e ≠ 88) : ¬ some d = v.ownBlock := by
  intro hx
  obtain ⟨cc, fz, hcc⟩ := ownsRow_cells ho d hx.symm
  have := h.1.symm.trans hcc
  cases this
  exact he rfl
theorem DiskC.nm {lf : Nat} {w : World} {d m wr : Nat} {f : Option (ByteArray × Value)} (h : DiskC lf w d m wr f) {base size n : Nat} {e : TypeId} {v : Value} {xs : List Value} (ho : w.ownsRow base e size v n xs) : ¬ some m = v.ownBlock := by
  intro hx
  obtain ⟨cc, fz, hcc⟩ := ownsRow_cells ho m hx.symm
  have := h.2.symm.trans hcc
  unfold mapObj at this
  split at this <;> cases this
set_option maxHeartbeats 800000 in
theorem dcut_calls (w : World) (d m wr : Nat) (f : Option (ByteArray × Value)) (h : DiskAt w d m wr f) (n : Nat) :
    Calls Try.prog 22 #[.pointer (some ⟨d, 0, none⟩), .int .i64 (n : Int)] w fun e w' => e = .returned (.int .i64 0) ∧ DiskC n w' d m wr f ∧ Chg (One d) w w' := by
  have h0 : ¬ (n : Int) < 0 := by omega
  have f2 : w.frozen? ⟨d, 2, none⟩ = false := by simp [World.frozen?, h.1]
  have f3 : w.frozen? ⟨d, 3, none⟩ = false := by simp [World.frozen?, h.1]
  obtain ⟨c0, c1, c2, c3, c4⟩ := h.cells
  have HD := Lib.hid h
  clear h
  go_enter Try.func22, Try.ntmps22
  go_wp2
  try (go_region; go_wp2)
  all_goals
    go_ret
    have hdm : m ≠ d := fun e => HD.out.dm e.symm
    first
    | (have hc : Chg (One d) w ((w.setCell ⟨d, 2, none⟩ (.int .i64 (n : Int))).setCell ⟨d, 3, none⟩ (.bool true)) := ((Chg.refl (One d) w).setCell (p := ⟨d, 2, none⟩) (.inr rfl) _).setCell (p := ⟨d, 3, none⟩) (.inr rfl) _
       exact ⟨rfl, ⟨heap_set (heap_set HD.out.1 2 _) 3 _, hc.heap HD.out.2 hdm⟩, hc⟩)
    | (have hc : Chg (One d) w ((w.setCell ⟨d, 2, none⟩ (.int .i64 (n : Int))).setCell ⟨d, 3, none⟩ (.bool true)) := ((Chg.refl (One d) w).setCell (p := ⟨d, 2, none⟩) (.inr rfl) _).setCell (p := ⟨d, 3, none⟩) (.inr rfl) _
       exact ⟨rfl, ⟨heap_set (heap_set HD.out.1 2 _) 3 _, hc.heap HD.out.2 hdm⟩, hc.drew⟩)
set_option maxHeartbeats 800000 in
theorem dmend_calls (lf : Nat) (w : World) (d m wr : Nat) (f : Option (ByteArray × Value)) (h : DiskC lf w d m wr f) :
    Calls Try.prog 23 #[.pointer (some ⟨d, 0, none⟩)] w fun e w' => e = .returned (.int .i64 0) ∧ DiskAt w' d m wr f ∧ Chg (One d) w w' := by
  have f2 := h.fr 2
  have f3 := h.fr 3
  obtain ⟨c0, c1, c2, c3, c4⟩ := h.cells
  have HD := Lib.hid h
  clear h
  go_enter Try.func23, Try.ntmps23
  go_wp2
  try (go_region; go_wp2)
  all_goals
    go_ret
    have hdm : m ≠ d := HD.out.dm
    first
    | (have hc : Chg (One d) w ((w.setCell ⟨d, 2, none⟩ (.int .i64 0)).setCell ⟨d, 3, none⟩ (.bool false)) := ((Chg.refl (One d) w).setCell (p := ⟨d, 2, none⟩) (.inr rfl) _).setCell (p := ⟨d, 3, none⟩) (.inr rfl) _
       exact ⟨rfl, ⟨heap_set (heap_set HD.out.1 2 _) 3 _, hc.heap HD.out.2 hdm⟩, hc⟩)
    | (have hc : Chg (One d) w ((w.setCell ⟨d, 2, none⟩ (.int .i64 0)).setCell ⟨d, 3, none⟩ (.bool false)) := ((Chg.refl (One d) w).setCell (p := ⟨d, 2, none⟩) (.inr rfl) _).setCell (p := ⟨d, 3, none⟩) (.inr rfl) _
       exact ⟨rfl, ⟨heap_set (heap_set HD.out.1 2 _) 3 _, hc.heap HD.out.2 hdm⟩, hc.drew⟩)
/-- A raw write where none is left. -/
theorem raw_zero (w : World) (d m wr : Nat) (f : Option (ByteArray × Value)) (h : DiskC 0 w d m wr f) (fv : Value) :
    Calls Try.prog 85 #[.pointer (some ⟨d, 0, none⟩), fv] w fun e w' => e = .returned (.int .i64 6) ∧ w' = w := by
  obtain ⟨c0, c1, c2, c3, c4⟩ := h.cells
  have hz : (((0 : Nat) : Int) == 0) = true := rfl
  clear h
  go_enter Try.func85, Try.ntmps85
  go_wp2
  go_ret
  exact ⟨rfl, rfl⟩
/-- A raw write where some are left. -/
theorem raw_some (L : Nat) (hL : 0 < L) (hL2 : L ≤ 9223372036854775807) (w : World) (d m wr : Nat) (f : Option (ByteArray × Value)) (h : DiskC L w d m wr f) (hw : wr < 9223372036854775807) (g : Nat) (caps : Array Value) (R : World → Prop) (hen : ∀ args w, (callFunc g args).run Try.prog w = .ok (.enter g args) w)
    (hF : Calls Try.prog g caps ((w.setCell ⟨d, 2, none⟩ (.int .i64 ((L : Int) - 1))).setCell ⟨d, 1, none⟩ (.int .i64 ((wr : Int) + 1))) fun e w' => e = .returned (.tuple #[]) ∧ R w') :
    Calls Try.prog 85 #[.pointer (some ⟨d, 0, none⟩), .func (.func g) #[] caps] w fun e w' => e = .returned (.int .i64 0) ∧ R w' := by
  have f1 := h.fr 1
  have f2 := h.fr 2
  obtain ⟨c0, c1, c2, c3, c4⟩ := h.cells
  have hz : ((L : Int) == 0) = false := by rw [beq_eq_false_iff_ne]; omega
  have HF := Lib.hid hF
  clear hF h
  go_enter Try.func85, Try.ntmps85
  go_wp2_with fail
  refine HF.out.mono ?_
  rintro e w2 ⟨rfl, hr⟩
  go_wp2
  go_ret
  exact ⟨rfl, hr⟩
end Go.Proofs.Ytccphnkdnifpfaa

namespace Go.Proofs.Ytccphnkdnifpfaa
set_option linter.unnecessarySimpa false
open Go.RowKit
set_option linter.unusedVariables false
set_option linter.unusedSimpArgs false
set_option maxRecDepth 100000

set_option maxHeartbeats 1600000 in
theorem append_moreC (lf : Nat) (w : World) (base d m wr B0 B1 B2 : Nat) (k : ByteArray) (A A2 : Option Addr) (n c n2 c2 : Nat) (xs ys : List UInt8) (h : DiskC lf w d m wr (some (k, .slice A n c))) (h0 : Boxed w B0 24 (.pointer (some ⟨d, 0, none⟩))) (h1 : Boxed w B1 9 (.string k)) (h2 : Boxed w B2 30 (.slice A2 n2 c2))
    (ho : OwnB w base (.slice A n c) xs) (hl : xs.length = n) (hb : Bytes w (.slice A2 n2 c2) ys) (hl2 : ys.length = n2) (hn : n + n2 ≤ 140737488355328) (hbase : base ≤ w.heap.size)  :
    Calls Try.prog 89 #[.pointer (some ⟨B0, 0, none⟩), .pointer (some ⟨B1, 0, none⟩), .pointer (some ⟨B2, 0, none⟩)] w fun e w' => e = .returned (.tuple #[]) ∧ ∃ v', DiskC lf w' d m wr (some (k, v')) ∧ OwnB w' base v' (xs ++ ys) ∧ Chg (fun i => i = m ∨ some i = (Value.slice A n c).ownBlock) w w' ∧ From w (.slice A n c) v' := by
  have HO := Lib.hid ho
  have HL := Lib.hid hl
  have HB := Lib.hid hb
  have HL2 := Lib.hid hl2
  have HM := Lib.hid h.2
  obtain ⟨c0, c1, c2', c3, c4⟩ := h.cells
  have e0 := h0.cell
  have e1 := h1.cell
  have e2 := h2.cell
  have hlk := look_same1 w m k (.slice A n c) h.2
  have hlkd := look_same1 w.drew m k (.slice A n c) h.2
  have mlt : m < w.heap.size := (Array.getElem?_eq_some_iff.1 h.2).1
  have HMN : some m ≠ (Value.slice A n c).ownBlock := by
    intro e
    obtain ⟨cc, fz, hcc⟩ := OwnB.cells ho m e.symm
    rw [h.2] at hcc
    cases hcc
  have HDN : some d ≠ (Value.slice A n c).ownBlock := by
    intro e
    obtain ⟨cc, fz, hcc⟩ := OwnB.cells ho d e.symm
    rw [h.1] at hcc
    cases hcc
  have hmd : d ≠ m := by rintro rfl; have := h.1.symm.trans h.2; unfold mapObj at this; cases this
  have HD := Lib.hid h.1
  skip
  have N0 : ¬ (some B0 = (Value.slice A n c).ownBlock) := h0.not_row (by decide) ho
  have N1 : ¬ (some B1 = (Value.slice A n c).ownBlock) := h1.not_row (by decide) ho
  have N2 : ¬ (some B2 = (Value.slice A n c).ownBlock) := h2.not_row (by decide) ho
  have M0 : ¬ (B0 = m ∨ some B0 = (Value.slice A n c).ownBlock) := by
    rintro (e | e)
    · rw [e] at h0; have := (show w.heap[m]? = _ from h0).symm.trans h.2; unfold mapObj at this; cases this
    · exact N0 e
  have M1 : ¬ (B1 = m ∨ some B1 = (Value.slice A n c).ownBlock) := by
    rintro (e | e)
    · rw [e] at h1; have := (show w.heap[m]? = _ from h1).symm.trans h.2; unfold mapObj at this; cases this
    · exact N1 e
  have M2 : ¬ (B2 = m ∨ some B2 = (Value.slice A n c).ownBlock) := by
    rintro (e | e)
    · rw [e] at h2; have := (show w.heap[m]? = _ from h2).symm.trans h.2; unfold mapObj at this; cases this
    · exact N2 e
  have MD : ¬ (d = m ∨ some d = (Value.slice A n c).ownBlock) := by rintro (e | e); exact hmd e; exact HDN e
  have hc2 : ∀ (v' : Value) (w1 : World), Chg (fun i => some i = (Value.slice A n c).ownBlock) w w1 → Chg (fun i => i = m ∨ some i = (Value.slice A n c).ownBlock) w (w1.putObj m (mapObj (some (k, v')))) := by
    intro v' w1 hc
    refine ⟨hc.os, hc.tape, hc.output, Nat.le_trans hc.size (grownBy_putObj' w1 m _).size, fun i hi hs => ?_⟩
    refine ((grownBy_putObj' w1 m _).block i (Nat.lt_of_lt_of_le hi hc.size) (fun e => hs (.inl (Option.some.inj e)))).trans (hc.block i hi (fun e => hs (.inr e)))
  clear ho hl hb hl2 h h0 h1 h2
  go_enter Try.func89, Try.ntmps89
  refine wp_region_held_drew (S := (fun W => W.cell? ⟨B0, 0, none⟩ = some (.pointer (some ⟨d, 0, none⟩)) ∧ W.cell? ⟨B1, 0, none⟩ = some (.string k) ∧ W.cell? ⟨B2, 0, none⟩ = some (.slice A2 n2 c2) ∧ W.cell? ⟨d, 0, none⟩ = some (.map (some m)))) (by kernel_rfl) ⟨e0, e1, e2, c0⟩ (fun hSw => ?_)
  refine wpAnyH_take (i := 0) (oi := { dst := some 3, op := Go.Op.load 24 (Go.Operand.tmp 0), type := 24, pos := "disk.go:115", after := #[], guard := none }) (v := ?_) rfl (by kernel_rfl) (by kernel_rfl) (by kernel_rfl) (fun _ _ _ h => h) (Or.inl ⟨by rfl, ?_⟩) hSw ?_
  rotate_left
  · (intro W hW; obtain ⟨hq1, hq2, hq3, hq4⟩ := hW; go_simp; try with_reducible rfl)
  try simp only [Act.put, List.setIfInBounds_toArray, List.set_cons_zero, List.set_cons_succ]
  refine wpAnyH_take (i := 4) (oi := { dst := some 7, op := Go.Op.load 9 (Go.Operand.tmp 1), type := 9, pos := "disk.go:115", after := #[], guard := none }) (v := ?_) rfl (by kernel_rfl) (by kernel_rfl) (by kernel_rfl) (fun _ _ _ h => h) (Or.inl ⟨by rfl, ?_⟩) hSw ?_
  rotate_left
  · (intro W hW; obtain ⟨hq1, hq2, hq3, hq4⟩ := hW; go_simp; try with_reducible rfl)
  try simp only [Act.put, List.setIfInBounds_toArray, List.set_cons_zero, List.set_cons_succ]
  refine wpAnyH_take (i := 5) (oi := { dst := some 8, op := Go.Op.load 24 (Go.Operand.tmp 0), type := 24, pos := "disk.go:115", after := #[], guard := none }) (v := ?_) rfl (by kernel_rfl) (by kernel_rfl) (by kernel_rfl) (fun _ _ _ h => h) (Or.inl ⟨by rfl, ?_⟩) hSw ?_
  rotate_left
  · (intro W hW; obtain ⟨hq1, hq2, hq3, hq4⟩ := hW; go_simp; try with_reducible rfl)
  try simp only [Act.put, List.setIfInBounds_toArray, List.set_cons_zero, List.set_cons_succ]
  refine wpAnyH_take (i := 9) (oi := { dst := some 12, op := Go.Op.load 9 (Go.Operand.tmp 1), type := 9, pos := "disk.go:115", after := #[], guard := none }) (v := ?_) rfl (by kernel_rfl) (by kernel_rfl) (by kernel_rfl) (fun _ _ _ h => h) (Or.inl ⟨by rfl, ?_⟩) hSw ?_
  rotate_left
  · (intro W hW; obtain ⟨hq1, hq2, hq3, hq4⟩ := hW; go_simp; try with_reducible rfl)
  try simp only [Act.put, List.setIfInBounds_toArray, List.set_cons_zero, List.set_cons_succ]
  refine wpAnyH_take (i := 11) (oi := { dst := some 14, op := Go.Op.load 30 (Go.Operand.tmp 2), type := 30, pos := "disk.go:115", after := #[], guard := none }) (v := ?_) rfl (by kernel_rfl) (by kernel_rfl) (by kernel_rfl) (fun _ _ _ h => h) (Or.inl ⟨by rfl, ?_⟩) hSw ?_
  rotate_left
  · (intro W hW; obtain ⟨hq1, hq2, hq3, hq4⟩ := hW; go_simp; try with_reducible rfl)
  try simp only [Act.put, List.setIfInBounds_toArray, List.set_cons_zero, List.set_cons_succ]
  refine wpAnyH_take (i := 1) (oi := { dst := some 4, op := Go.Op.nilCheck (Go.Operand.tmp 3), type := 0, pos := "disk.go:115", after := #[{ on := 0, ground := Go.Ground.data }], guard := none }) (v := ?_) rfl (by kernel_rfl) (by kernel_rfl) (by kernel_rfl) (fun _ _ _ h => h) (Or.inl ⟨by rfl, ?_⟩) hSw ?_
  rotate_left
  · (intro W hW; obtain ⟨hq1, hq2, hq3, hq4⟩ := hW; go_simp; try with_reducible rfl)
  try simp only [Act.put, List.setIfInBounds_toArray, List.set_cons_zero, List.set_cons_succ]
  refine wpAnyH_take (i := 6) (oi := { dst := some 9, op := Go.Op.nilCheck (Go.Operand.tmp 8), type := 0, pos := "disk.go:115", after := #[{ on := 5, ground := Go.Ground.data }], guard := none }) (v := ?_) rfl (by kernel_rfl) (by kernel_rfl) (by kernel_rfl) (fun _ _ _ h => h) (Or.inl ⟨by rfl, ?_⟩) hSw ?_
  rotate_left
  · (intro W hW; obtain ⟨hq1, hq2, hq3, hq4⟩ := hW; go_simp; try with_reducible rfl)
  try simp only [Act.put, List.setIfInBounds_toArray, List.set_cons_zero, List.set_cons_succ]
  refine wpAnyH_take (i := 2) (oi := { dst := some 5, op := Go.Op.fieldAddr 88 (Go.Operand.tmp 4) 0, type := 0, pos := "disk.go:115", after := #[{ on := 1, ground := Go.Ground.data }], guard := none }) (v := ?_) rfl (by kernel_rfl) (by kernel_rfl) (by kernel_rfl) (fun _ _ _ h => h) (Or.inl ⟨by rfl, ?_⟩) hSw ?_
  rotate_left
  · (intro W hW; obtain ⟨hq1, hq2, hq3, hq4⟩ := hW; go_simp; try with_reducible rfl)
  try simp only [Act.put, List.setIfInBounds_toArray, List.set_cons_zero, List.set_cons_succ]
  refine wpAnyH_take (i := 7) (oi := { dst := some 10, op := Go.Op.fieldAddr 88 (Go.Operand.tmp 9) 0, type := 0, pos := "disk.go:115", after := #[{ on := 6, ground := Go.Ground.data }], guard := none }) (v := ?_) rfl (by kernel_rfl) (by kernel_rfl) (by kernel_rfl) (fun _ _ _ h => h) (Or.inl ⟨by rfl, ?_⟩) hSw ?_
  rotate_left
  · (intro W hW; obtain ⟨hq1, hq2, hq3, hq4⟩ := hW; go_simp; try with_reducible rfl)
  try simp only [Act.put, List.setIfInBounds_toArray, List.set_cons_zero, List.set_cons_succ]
  refine wpAnyH_take (i := 3) (oi := { dst := some 6, op := Go.Op.load 86 (Go.Operand.tmp 5), type := 86, pos := "disk.go:115", after := #[{ on := 2, ground := Go.Ground.data }], guard := none }) (v := ?_) rfl (by kernel_rfl) (by kernel_rfl) (by kernel_rfl) (fun _ _ _ h => h) (Or.inl ⟨by rfl, ?_⟩) hSw ?_
  rotate_left
  · (intro W hW; obtain ⟨hq1, hq2, hq3, hq4⟩ := hW; go_simp; try with_reducible rfl)
  try simp only [Act.put, List.setIfInBounds_toArray, List.set_cons_zero, List.set_cons_succ]
  refine wpAnyH_take (i := 8) (oi := { dst := some 11, op := Go.Op.load 86 (Go.Operand.tmp 10), type := 86, pos := "disk.go:115", after := #[{ on := 7, ground := Go.Ground.data }], guard := none }) (v := ?_) rfl (by kernel_rfl) (by kernel_rfl) (by kernel_rfl) (fun _ _ _ h => h) (Or.inl ⟨by rfl, ?_⟩) hSw ?_
  rotate_left
  · (intro W hW; obtain ⟨hq1, hq2, hq3, hq4⟩ := hW; go_simp; try with_reducible rfl)
  try simp only [Act.put, List.setIfInBounds_toArray, List.set_cons_zero, List.set_cons_succ]
  refine wpAnyH_ready (rs := [10]) (by kernel_rfl) (by simp) ?_
  refine AllReadyH.cons (o := { dst := some 13, op := Go.Op.lookup 86 (Go.Operand.tmp 11) (Go.Operand.tmp 12) false, type := 30, pos := "disk.go:115", after := #[{ on := 8, ground := Go.Ground.data }, { on := 9, ground := Go.Ground.data }], guard := none }) rfl (fun K hK => ?_) AllReadyH.nil
  rw [if_pos (by rfl)]
  go_simp
  refine hK.out _ _ ⟨e0, e1, e2, c0⟩ (fun hSw => ?_)
  clear hK
  try simp only [Act.put, List.setIfInBounds_toArray, List.set_cons_zero, List.set_cons_succ]
  refine wpAnyH_ready (rs := [12]) (by kernel_rfl) (by simp) ?_
  refine AllReadyH.cons (o := { dst := some 15, op := Go.Op.call { callee := Go.Callee.builtin Go.Builtin.append, args := #[Go.Operand.tmp 13, Go.Operand.tmp 14], argTypes := #[30, 30] }, type := 30, pos := "disk.go:115", after := #[{ on := 10, ground := Go.Ground.data }, { on := 11, ground := Go.Ground.data }], guard := none }) rfl (fun K hK => ?_) AllReadyH.nil
  rw [if_pos (by rfl)]
  refine wp_app2 (.tmp 13) (.tmp 14) 30 30 rfl base 5 (.int .u8 0) 1 1 infoU8 Try.underlying30 rfl (by decide) (.slice A n c) (.slice A2 n2 c2) n n2 (u8s xs) (u8s ys) rfl rfl ?_ ?_ ?_ ?_ ?_ ?_
  · exact OwnB.n (OwnB.chg (S := No) HO.out (Chg.refl No _).drew (fun _ _ x => x)) HL.out
  · exact Src.ofBytes Try.underlying30 (Bytes.no HB.out (Chg.refl No _).drew) HL2.out
  · omega
  · unfold maxLen; omega
  · exact hbase
  intro v' w1 hown hg hfrom
  have hc1 : Chg (fun i => some i = (Value.slice A n c).ownBlock) w w1 := ⟨hg.os, hg.tape, hg.output, hg.size, fun i hi hn => hg.block i hi hn⟩
  have hw1m := hc1.heap HM.out HMN
  have hup := update_same w1 m k (.slice A n c) v' hw1m
  refine hK.out _ _ ⟨hc1.cell e0 N0, hc1.cell e1 N1, hc1.cell e2 N2, hc1.cell c0 HDN⟩ (fun hSw => ?_)
  clear hK
  try simp only [Act.put, List.setIfInBounds_toArray, List.set_cons_zero, List.set_cons_succ]
  refine wpAnyH_ready (rs := [13]) (by kernel_rfl) (by simp) ?_
  refine AllReadyH.cons (o := { dst := none, op := Go.Op.mapUpdate 86 (Go.Operand.tmp 6) (Go.Operand.tmp 7) (Go.Operand.tmp 15), type := 0, pos := "disk.go:115", after := #[{ on := 3, ground := Go.Ground.data }, { on := 4, ground := Go.Ground.data }, { on := 12, ground := Go.Ground.data }, { on := 12, ground := Go.Ground.chain }, { on := 0, ground := Go.Ground.phase }, { on := 1, ground := Go.Ground.phase }, { on := 2, ground := Go.Ground.phase }, { on := 3, ground := Go.Ground.phase }, { on := 4, ground := Go.Ground.phase }, { on := 5, ground := Go.Ground.phase }, { on := 6, ground := Go.Ground.phase }, { on := 7, ground := Go.Ground.phase }, { on := 8, ground := Go.Ground.phase }, { on := 9, ground := Go.Ground.phase }, { on := 10, ground := Go.Ground.phase }, { on := 11, ground := Go.Ground.phase }, { on := 12, ground := Go.Ground.phase }], guard := none }) rfl (fun K hK => ?_) AllReadyH.nil
  rw [if_pos (by rfl)]
  go_simp
  refine hK.out _ _ ⟨(hc2 v' w1 hc1).cell e0 M0, (hc2 v' w1 hc1).cell e1 M1, (hc2 v' w1 hc1).cell e2 M2, (hc2 v' w1 hc1).cell c0 MD⟩ (fun hSw => ?_)
  clear hK
  try simp only [Act.put, List.setIfInBounds_toArray, List.set_cons_zero, List.set_cons_succ]
  refine wpAnyH_done (by kernel_rfl) ?_ _
  have hm2 : (w1.putObj m (mapObj (some (k, v')))).heap[m]? = some (mapObj (some (k, v'))) := by
    have hlt : m < w1.heap.size := (Array.getElem?_eq_some_iff.1 hw1m).1
    simp [World.putObj, hlt]
  have hd2 := (hc2 v' w1 hc1).heap HD.out MD
  have ho2 : OwnB (w1.putObj m (mapObj (some (k, v')))) base v' (xs ++ ys) := by
    have ho1 : OwnB w1 base v' (xs ++ ys) := .of hown (by rw [u8s_append])
    refine ho1.chg (S := One m) ⟨rfl, rfl, rfl, (grownBy_putObj' w1 m _).size, fun i hi hs => (grownBy_putObj' w1 m _).block i hi (fun e => hs (Option.some.inj e))⟩ (fun b hb hx => ?_)
    obtain ⟨cc, fz, hcc⟩ := OwnB.cells ho1 b hb
    have hx : b = m := hx
    rw [hx, hw1m] at hcc
    cases hcc
  have hc3 := hc2 v' w1 hc1
  clear hup hown hg
  go_wp2
  go_end0
  exact ⟨rfl, v', ⟨hd2, hm2⟩, ho2, hc3, From.ofApp hfrom⟩

set_option maxHeartbeats 1600000 in
theorem append_firstC (lf : Nat) (w : World) (base d m wr B0 B1 B2 : Nat) (k : ByteArray) (A2 : Option Addr) (n2 c2 : Nat) (ys : List UInt8) (h : DiskC lf w d m wr none) (h0 : Boxed w B0 24 (.pointer (some ⟨d, 0, none⟩))) (h1 : Boxed w B1 9 (.string k)) (h2 : Boxed w B2 30 (.slice A2 n2 c2))
    (hb : Bytes w (.slice A2 n2 c2) ys) (hl2 : ys.length = n2) (hn : 0 + n2 ≤ 140737488355328) (hbase : base ≤ w.heap.size)  :
    Calls Try.prog 89 #[.pointer (some ⟨B0, 0, none⟩), .pointer (some ⟨B1, 0, none⟩), .pointer (some ⟨B2, 0, none⟩)] w fun e w' => e = .returned (.tuple #[]) ∧ ∃ v', DiskC lf w' d m wr (some (k, v')) ∧ OwnB w' base v' ([] ++ ys) ∧ Chg (fun i => i = m ∨ some i = (Value.slice none 0 0).ownBlock) w w' ∧ From w (.slice none 0 0) v' := by
  have ho : OwnB w base (.slice none 0 0) [] := World.ownsRow_nil _ _ _ _
  have hl : ([] : List UInt8).length = 0 := rfl
  have HO := Lib.hid ho
  have HL := Lib.hid hl
  have HB := Lib.hid hb
  have HL2 := Lib.hid hl2
  have HM := Lib.hid h.2
  obtain ⟨c0, c1, c2', c3, c4⟩ := h.cells
  have e0 := h0.cell
  have e1 := h1.cell
  have e2 := h2.cell
  have hlk := look_none1 w m k h.2
  have hlkd := look_none1 w.drew m k h.2
  have mlt : m < w.heap.size := (Array.getElem?_eq_some_iff.1 h.2).1
  have HMN : some m ≠ (Value.slice none 0 0).ownBlock := by
    intro e
    obtain ⟨cc, fz, hcc⟩ := OwnB.cells ho m e.symm
    rw [h.2] at hcc
    cases hcc
  have HDN : some d ≠ (Value.slice none 0 0).ownBlock := by
    intro e
    obtain ⟨cc, fz, hcc⟩ := OwnB.cells ho d e.symm
    rw [h.1] at hcc
    cases hcc
  have hmd : d ≠ m := by rintro rfl; have := h.1.symm.trans h.2; unfold mapObj at this; cases this
  have HD := Lib.hid h.1
  have N0 : ¬ (some B0 = (Value.slice none 0 0).ownBlock) := h0.not_row (by decide) ho
  have N1 : ¬ (some B1 = (Value.slice none 0 0).ownBlock) := h1.not_row (by decide) ho
  have N2 : ¬ (some B2 = (Value.slice none 0 0).ownBlock) := h2.not_row (by decide) ho
  have M0 : ¬ (B0 = m ∨ some B0 = (Value.slice none 0 0).ownBlock) := by
    rintro (e | e)
    · rw [e] at h0; have := (show w.heap[m]? = _ from h0).symm.trans h.2; unfold mapObj at this; cases this
    · exact N0 e
  have M1 : ¬ (B1 = m ∨ some B1 = (Value.slice none 0 0).ownBlock) := by
    rintro (e | e)
    · rw [e] at h1; have := (show w.heap[m]? = _ from h1).symm.trans h.2; unfold mapObj at this; cases this
    · exact N1 e
  have M2 : ¬ (B2 = m ∨ some B2 = (Value.slice none 0 0).ownBlock) := by
    rintro (e | e)
    · rw [e] at h2; have := (show w.heap[m]? = _ from h2).symm.trans h.2; unfold mapObj at this; cases this
    · exact N2 e
  have MD : ¬ (d = m ∨ some d = (Value.slice none 0 0).ownBlock) := by rintro (e | e); exact hmd e; exact HDN e
  have hc2 : ∀ (v' : Value) (w1 : World), Chg (fun i => some i = (Value.slice none 0 0).ownBlock) w w1 → Chg (fun i => i = m ∨ some i = (Value.slice none 0 0).ownBlock) w (w1.putObj m (mapObj (some (k, v')))) := by
    intro v' w1 hc
    refine ⟨hc.os, hc.tape, hc.output, Nat.le_trans hc.size (grownBy_putObj' w1 m _).size, fun i hi hs => ?_⟩
    refine ((grownBy_putObj' w1 m _).block i (Nat.lt_of_lt_of_le hi hc.size) (fun e => hs (.inl (Option.some.inj e)))).trans (hc.block i hi (fun e => hs (.inr e)))
  clear ho hl hb hl2 h h0 h1 h2
  go_enter Try.func89, Try.ntmps89
  refine wp_region_held_drew (S := (fun W => W.cell? ⟨B0, 0, none⟩ = some (.pointer (some ⟨d, 0, none⟩)) ∧ W.cell? ⟨B1, 0, none⟩ = some (.string k) ∧ W.cell? ⟨B2, 0, none⟩ = some (.slice A2 n2 c2) ∧ W.cell? ⟨d, 0, none⟩ = some (.map (some m)))) (by kernel_rfl) ⟨e0, e1, e2, c0⟩ (fun hSw => ?_)
  refine wpAnyH_take (i := 0) (oi := { dst := some 3, op := Go.Op.load 24 (Go.Operand.tmp 0), type := 24, pos := "disk.go:115", after := #[], guard := none }) (v := ?_) rfl (by kernel_rfl) (by kernel_rfl) (by kernel_rfl) (fun _ _ _ h => h) (Or.inl ⟨by rfl, ?_⟩) hSw ?_
  rotate_left
  · (intro W hW; obtain ⟨hq1, hq2, hq3, hq4⟩ := hW; go_simp; try with_reducible rfl)
  try simp only [Act.put, List.setIfInBounds_toArray, List.set_cons_zero, List.set_cons_succ]
  refine wpAnyH_take (i := 4) (oi := { dst := some 7, op := Go.Op.load 9 (Go.Operand.tmp 1), type := 9, pos := "disk.go:115", after := #[], guard := none }) (v := ?_) rfl (by kernel_rfl) (by kernel_rfl) (by kernel_rfl) (fun _ _ _ h => h) (Or.inl ⟨by rfl, ?_⟩) hSw ?_
  rotate_left
  · (intro W hW; obtain ⟨hq1, hq2, hq3, hq4⟩ := hW; go_simp; try with_reducible rfl)
  try simp only [Act.put, List.setIfInBounds_toArray, List.set_cons_zero, List.set_cons_succ]
  refine wpAnyH_take (i := 5) (oi := { dst := some 8, op := Go.Op.load 24 (Go.Operand.tmp 0), type := 24, pos := "disk.go:115", after := #[], guard := none }) (v := ?_) rfl (by kernel_rfl) (by kernel_rfl) (by kernel_rfl) (fun _ _ _ h => h) (Or.inl ⟨by rfl, ?_⟩) hSw ?_
  rotate_left
  · (intro W hW; obtain ⟨hq1, hq2, hq3, hq4⟩ := hW; go_simp; try with_reducible rfl)
  try simp only [Act.put, List.setIfInBounds_toArray, List.set_cons_zero, List.set_cons_succ]
  refine wpAnyH_take (i := 9) (oi := { dst := some 12, op := Go.Op.load 9 (Go.Operand.tmp 1), type := 9, pos := "disk.go:115", after := #[], guard := none }) (v := ?_) rfl (by kernel_rfl) (by kernel_rfl) (by kernel_rfl) (fun _ _ _ h => h) (Or.inl ⟨by rfl, ?_⟩) hSw ?_
  rotate_left
  · (intro W hW; obtain ⟨hq1, hq2, hq3, hq4⟩ := hW; go_simp; try with_reducible rfl)
  try simp only [Act.put, List.setIfInBounds_toArray, List.set_cons_zero, List.set_cons_succ]
  refine wpAnyH_take (i := 11) (oi := { dst := some 14, op := Go.Op.load 30 (Go.Operand.tmp 2), type := 30, pos := "disk.go:115", after := #[], guard := none }) (v := ?_) rfl (by kernel_rfl) (by kernel_rfl) (by kernel_rfl) (fun _ _ _ h => h) (Or.inl ⟨by rfl, ?_⟩) hSw ?_
  rotate_left
  · (intro W hW; obtain ⟨hq1, hq2, hq3, hq4⟩ := hW; go_simp; try with_reducible rfl)
  try simp only [Act.put, List.setIfInBounds_toArray, List.set_cons_zero, List.set_cons_succ]
  refine wpAnyH_take (i := 1) (oi := { dst := some 4, op := Go.Op.nilCheck (Go.Operand.tmp 3), type := 0, pos := "disk.go:115", after := #[{ on := 0, ground := Go.Ground.data }], guard := none }) (v := ?_) rfl (by kernel_rfl) (by kernel_rfl) (by kernel_rfl) (fun _ _ _ h => h) (Or.inl ⟨by rfl, ?_⟩) hSw ?_
  rotate_left
  · (intro W hW; obtain ⟨hq1, hq2, hq3, hq4⟩ := hW; go_simp; try with_reducible rfl)
  try simp only [Act.put, List.setIfInBounds_toArray, List.set_cons_zero, List.set_cons_succ]
  refine wpAnyH_take (i := 6) (oi := { dst := some 9, op := Go.Op.nilCheck (Go.Operand.tmp 8), type := 0, pos := "disk.go:115", after := #[{ on := 5, ground := Go.Ground.data }], guard := none }) (v := ?_) rfl (by kernel_rfl) (by kernel_rfl) (by kernel_rfl) (fun _ _ _ h => h) (Or.inl ⟨by rfl, ?_⟩) hSw ?_
  rotate_left
  · (intro W hW; obtain ⟨hq1, hq2, hq3, hq4⟩ := hW; go_simp; try with_reducible rfl)
  try simp only [Act.put, List.setIfInBounds_toArray, List.set_cons_zero, List.set_cons_succ]
  refine wpAnyH_take (i := 2) (oi := { dst := some 5, op := Go.Op.fieldAddr 88 (Go.Operand.tmp 4) 0, type := 0, pos := "disk.go:115", after := #[{ on := 1, ground := Go.Ground.data }], guard := none }) (v := ?_) rfl (by kernel_rfl) (by kernel_rfl) (by kernel_rfl) (fun _ _ _ h => h) (Or.inl ⟨by rfl, ?_⟩) hSw ?_
  rotate_left
  · (intro W hW; obtain ⟨hq1, hq2, hq3, hq4⟩ := hW; go_simp; try with_reducible rfl)
  try simp only [Act.put, List.setIfInBounds_toArray, List.set_cons_zero, List.set_cons_succ]
  refine wpAnyH_take (i := 7) (oi := { dst := some 10, op := Go.Op.fieldAddr 88 (Go.Operand.tmp 9) 0, type := 0, pos := "disk.go:115", after := #[{ on := 6, ground := Go.Ground.data }], guard := none }) (v := ?_) rfl (by kernel_rfl) (by kernel_rfl) (by kernel_rfl) (fun _ _ _ h => h) (Or.inl ⟨by rfl, ?_⟩) hSw ?_
  rotate_left
  · (intro W hW; obtain ⟨hq1, hq2, hq3, hq4⟩ := hW; go_simp; try with_reducible rfl)
  try simp only [Act.put, List.setIfInBounds_toArray, List.set_cons_zero, List.set_cons_succ]
  refine wpAnyH_take (i := 3) (oi := { dst := some 6, op := Go.Op.load 86 (Go.Operand.tmp 5), type := 86, pos := "disk.go:115", after := #[{ on := 2, ground := Go.Ground.data }], guard := none }) (v := ?_) rfl (by kernel_rfl) (by kernel_rfl) (by kernel_rfl) (fun _ _ _ h => h) (Or.inl ⟨by rfl, ?_⟩) hSw ?_
  rotate_left
  · (intro W hW; obtain ⟨hq1, hq2, hq3, hq4⟩ := hW; go_simp; try with_reducible rfl)
  try simp only [Act.put, List.setIfInBounds_toArray, List.set_cons_zero, List.set_cons_succ]
  refine wpAnyH_take (i := 8) (oi := { dst := some 11, op := Go.Op.load 86 (Go.Operand.tmp 10), type := 86, pos := "disk.go:115", after := #[{ on := 7, ground := Go.Ground.data }], guard := none }) (v := ?_) rfl (by kernel_rfl) (by kernel_rfl) (by kernel_rfl) (fun _ _ _ h => h) (Or.inl ⟨by rfl, ?_⟩) hSw ?_
  rotate_left
  · (intro W hW; obtain ⟨hq1, hq2, hq3, hq4⟩ := hW; go_simp; try with_reducible rfl)
  try simp only [Act.put, List.setIfInBounds_toArray, List.set_cons_zero, List.set_cons_succ]
  refine wpAnyH_ready (rs := [10]) (by kernel_rfl) (by simp) ?_
  refine AllReadyH.cons (o := { dst := some 13, op := Go.Op.lookup 86 (Go.Operand.tmp 11) (Go.Operand.tmp 12) false, type := 30, pos := "disk.go:115", after := #[{ on := 8, ground := Go.Ground.data }, { on := 9, ground := Go.Ground.data }], guard := none }) rfl (fun K hK => ?_) AllReadyH.nil
  rw [if_pos (by rfl)]
  go_simp
  refine hK.out _ _ ⟨e0, e1, e2, c0⟩ (fun hSw => ?_)
  clear hK
  try simp only [Act.put, List.setIfInBounds_toArray, List.set_cons_zero, List.set_cons_succ]
  refine wpAnyH_ready (rs := [12]) (by kernel_rfl) (by simp) ?_
  refine AllReadyH.cons (o := { dst := some 15, op := Go.Op.call { callee := Go.Callee.builtin Go.Builtin.append, args := #[Go.Operand.tmp 13, Go.Operand.tmp 14], argTypes := #[30, 30] }, type := 30, pos := "disk.go:115", after := #[{ on := 10, ground := Go.Ground.data }, { on := 11, ground := Go.Ground.data }], guard := none }) rfl (fun K hK => ?_) AllReadyH.nil
  rw [if_pos (by rfl)]
  refine wp_app2 (.tmp 13) (.tmp 14) 30 30 rfl base 5 (.int .u8 0) 1 1 infoU8 Try.underlying30 rfl (by decide) (.slice none 0 0) (.slice A2 n2 c2) 0 n2 (u8s []) (u8s ys) rfl rfl ?_ ?_ ?_ ?_ ?_ ?_
  · exact OwnB.n (OwnB.chg (S := No) HO.out (Chg.refl No _).drew (fun _ _ x => x)) HL.out
  · exact Src.ofBytes Try.underlying30 (Bytes.no HB.out (Chg.refl No _).drew) HL2.out
  · omega
  · unfold maxLen; omega
  · exact hbase
  intro v' w1 hown hg hfrom
  have hc1 : Chg (fun i => some i = (Value.slice none 0 0).ownBlock) w w1 := ⟨hg.os, hg.tape, hg.output, hg.size, fun i hi hn => hg.block i hi hn⟩
  have hw1m := hc1.heap HM.out HMN
  have hup := update_none w1 m k v' hw1m
  refine hK.out _ _ ⟨hc1.cell e0 N0, hc1.cell e1 N1, hc1.cell e2 N2, hc1.cell c0 HDN⟩ (fun hSw => ?_)
  clear hK
  try simp only [Act.put, List.setIfInBounds_toArray, List.set_cons_zero, List.set_cons_succ]
  refine wpAnyH_ready (rs := [13]) (by kernel_rfl) (by simp) ?_
  refine AllReadyH.cons (o := { dst := none, op := Go.Op.mapUpdate 86 (Go.Operand.tmp 6) (Go.Operand.tmp 7) (Go.Operand.tmp 15), type := 0, pos := "disk.go:115", after := #[{ on := 3, ground := Go.Ground.data }, { on := 4, ground := Go.Ground.data }, { on := 12, ground := Go.Ground.data }, { on := 12, ground := Go.Ground.chain }, { on := 0, ground := Go.Ground.phase }, { on := 1, ground := Go.Ground.phase }, { on := 2, ground := Go.Ground.phase }, { on := 3, ground := Go.Ground.phase }, { on := 4, ground := Go.Ground.phase }, { on := 5, ground := Go.Ground.phase }, { on := 6, ground := Go.Ground.phase }, { on := 7, ground := Go.Ground.phase }, { on := 8, ground := Go.Ground.phase }, { on := 9, ground := Go.Ground.phase }, { on := 10, ground := Go.Ground.phase }, { on := 11, ground := Go.Ground.phase }, { on := 12, ground := Go.Ground.phase }], guard := none }) rfl (fun K hK => ?_) AllReadyH.nil
  rw [if_pos (by rfl)]
  go_simp
  refine hK.out _ _ ⟨(hc2 v' w1 hc1).cell e0 M0, (hc2 v' w1 hc1).cell e1 M1, (hc2 v' w1 hc1).cell e2 M2, (hc2 v' w1 hc1).cell c0 MD⟩ (fun hSw => ?_)
  clear hK
  try simp only [Act.put, List.setIfInBounds_toArray, List.set_cons_zero, List.set_cons_succ]
  refine wpAnyH_done (by kernel_rfl) ?_ _
  have hm2 : (w1.putObj m (mapObj (some (k, v')))).heap[m]? = some (mapObj (some (k, v'))) := by
    have hlt : m < w1.heap.size := (Array.getElem?_eq_some_iff.1 hw1m).1
    simp [World.putObj, hlt]
  have hd2 := (hc2 v' w1 hc1).heap HD.out MD
  have ho2 : OwnB (w1.putObj m (mapObj (some (k, v')))) base v' ([] ++ ys) := by
    have ho1 : OwnB w1 base v' ([] ++ ys) := .of hown (by rw [u8s_append])
    refine ho1.chg (S := One m) ⟨rfl, rfl, rfl, (grownBy_putObj' w1 m _).size, fun i hi hs => (grownBy_putObj' w1 m _).block i hi (fun e => hs (Option.some.inj e))⟩ (fun b hb hx => ?_)
    obtain ⟨cc, fz, hcc⟩ := OwnB.cells ho1 b hb
    have hx : b = m := hx
    rw [hx, hw1m] at hcc
    cases hcc
  have hc3 := hc2 v' w1 hc1
  clear hup hown hg
  go_wp2
  go_end0
  exact ⟨rfl, v', ⟨hd2, hm2⟩, ho2, hc3, From.ofApp hfrom⟩
end Go.Proofs.Ytccphnkdnifpfaa

namespace Go.Proofs.Ytccphnkdnifpfaa
set_option linter.unnecessarySimpa false
open Go.RowKit
set_option linter.unusedVariables false
set_option linter.unusedSimpArgs false
set_option maxRecDepth 100000

theorem append_anyC (lf : Nat) (w : World) (base d m wr B0 B1 B2 : Nat) (k : ByteArray) (A A2 : Option Addr) (n c n2 c2 : Nat) (xs ys : List UInt8) (f : Option (ByteArray × Value)) (hf : f = some (k, .slice A n c) ∨ (f = none ∧ A = none ∧ n = 0 ∧ c = 0 ∧ xs = [])) (h : DiskC lf w d m wr f) (h0 : Boxed w B0 24 (.pointer (some ⟨d, 0, none⟩))) (h1 : Boxed w B1 9 (.string k)) (h2 : Boxed w B2 30 (.slice A2 n2 c2))
    (ho : OwnB w base (.slice A n c) xs) (hl : xs.length = n) (hb : Bytes w (.slice A2 n2 c2) ys) (hl2 : ys.length = n2) (hn : n + n2 ≤ 140737488355328) (hbase : base ≤ w.heap.size) :
    Calls Try.prog 89 #[.pointer (some ⟨B0, 0, none⟩), .pointer (some ⟨B1, 0, none⟩), .pointer (some ⟨B2, 0, none⟩)] w fun e w' => e = .returned (.tuple #[]) ∧ ∃ v', DiskC lf w' d m wr (some (k, v')) ∧ OwnB w' base v' (xs ++ ys) ∧ Chg (fun i => i = m ∨ some i = (Value.slice A n c).ownBlock) w w' ∧ From w (.slice A n c) v' := by
  rcases hf with rfl | ⟨rfl, rfl, rfl, rfl, rfl⟩
  · exact append_moreC lf w base d m wr B0 B1 B2 k A A2 n c n2 c2 xs ys h h0 h1 h2 ho hl hb hl2 hn hbase
  · exact append_firstC lf w base d m wr B0 B1 B2 k A2 n2 c2 ys h h0 h1 h2 hb hl2 hn hbase

/-- One raw write of a piece. -/
theorem piece_callsC (L : Nat) (hL : 0 < L) (hL2 : L ≤ 9223372036854775807) (w : World) (base d m wr B0 B1 B2 : Nat) (k : ByteArray) (A A2 : Option Addr) (n c n2 c2 : Nat) (xs ys : List UInt8) (f : Option (ByteArray × Value)) (hf : f = some (k, .slice A n c) ∨ (f = none ∧ A = none ∧ n = 0 ∧ c = 0 ∧ xs = [])) (h : DiskC L w d m wr f) (hw : wr < 9223372036854775807) (h0 : Boxed w B0 24 (.pointer (some ⟨d, 0, none⟩))) (h1 : Boxed w B1 9 (.string k)) (h2 : Boxed w B2 30 (.slice A2 n2 c2))
    (ho : OwnB w base (.slice A n c) xs) (hl : xs.length = n) (hb : Bytes w (.slice A2 n2 c2) ys) (hl2 : ys.length = n2) (hn : n + n2 ≤ 140737488355328) (hbase : base ≤ w.heap.size) (hbd : ∀ b, (Value.slice A2 n2 c2).ownBlock = some b → b ≠ d) :
    Calls Try.prog 85 #[.pointer (some ⟨d, 0, none⟩), .func (.func 89) #[] #[.pointer (some ⟨B0, 0, none⟩), .pointer (some ⟨B1, 0, none⟩), .pointer (some ⟨B2, 0, none⟩)]] w fun e w' => e = .returned (.int .i64 0) ∧ ∃ v', DiskC (L - 1) w' d m (wr + 1) (some (k, v')) ∧ OwnB w' base v' (xs ++ ys) ∧ Chg (DS d m (.slice A n c)) w w' ∧ From w (.slice A n c) v' := by
  have hdo : ∀ b, (Value.slice A n c).ownBlock = some b → b ≠ d := by
    intro b hbb e
    obtain ⟨cc, fz, hcc⟩ := OwnB.cells ho b hbb
    rw [e, h.1] at hcc
    cases hcc
  have hdm : m ≠ d := by rintro rfl; have := h.1.symm.trans h.2; unfold mapObj at this; split at this <;> cases this
  have hc : Chg (One d) w ((w.setCell ⟨d, 2, none⟩ (.int .i64 ((L : Int) - 1))).setCell ⟨d, 1, none⟩ (.int .i64 ((wr : Int) + 1))) := ((Chg.refl (One d) w).setCell (p := ⟨d, 2, none⟩) (.inr rfl) _).setCell (p := ⟨d, 1, none⟩) (.inr rfl) _
  have hD1 : DiskC (L - 1) ((w.setCell ⟨d, 2, none⟩ (.int .i64 ((L : Int) - 1))).setCell ⟨d, 1, none⟩ (.int .i64 ((wr : Int) + 1))) d m (wr + 1) f := by
    refine ⟨?_, hc.heap h.2 hdm⟩
    have h1 := heap_set (heap_set h.1 2 (.int .i64 ((L : Int) - 1))) 1 (.int .i64 ((wr : Int) + 1))
    have e : ((L - 1 : Nat) : Int) = (L : Int) - 1 := by omega
    rw [e]
    exact h1
  have nb : ∀ {B : Nat} {t : TypeId} {v : Value}, Boxed w B t v → B ≠ d := by
    rintro B t v hB rfl
    have := (show w.heap[B]? = _ from hB).symm.trans h.1
    cases this
  refine raw_some L hL hL2 w d m wr f h hw _ _ (fun w' => ∃ v', DiskC (L - 1) w' d m (wr + 1) (some (k, v')) ∧ OwnB w' base v' (xs ++ ys) ∧ Chg (DS d m (.slice A n c)) w w' ∧ From w (.slice A n c) v') (enters_of Try.func89 (by kernel_rfl) rfl) ?_
  refine (append_anyC (L - 1) _ base d m (wr + 1) B0 B1 B2 k A A2 n c n2 c2 xs ys f hf hD1 (hc.heap h0 (nb h0)) (hc.heap h1 (nb h1)) (hc.heap h2 (nb h2)) (ho.chg hc (fun b hb' e => hdo b hb' e)) hl (hb.chg hc (fun b hb' e => hbd b hb' e)) hl2 hn (Nat.le_trans hbase hc.size)).mono ?_
  rintro e w' ⟨rfl, v', h1', h2', h3', h4'⟩
  exact ⟨rfl, v', h1', h2', (hc.mono (S' := DS d m (.slice A n c)) (fun i _ hi => .inl hi)).trans h3' (fun i _ hi => .inr hi), fun b hb => (h4' b hb).imp id (fun e => Nat.le_trans hc.size e)⟩
end Go.Proofs.Ytccphnkdnifpfaa

namespace Go.Proofs.Ytccphnkdnifpfaa
set_option linter.unnecessarySimpa false
open Go.RowKit Go.Shelf
set_option linter.unusedVariables false
set_option linter.unusedSimpArgs false
set_option maxRecDepth 100000

set_option maxHeartbeats 6400000 in
theorem dappend_moreC (l0 : Nat) (hl0 : l0 ≤ 9223372036854775807) (w : World) (base d m wr0 : Nat) (k : ByteArray) (hmay : ∀ w, Calls Try.prog 87 #[.string k] w fun e w' => e = .returned (.bool true) ∧ Chg No w w') (A A2 : Option Addr) (n c n2 c2 : Nat) (xs ys : List UInt8)
    (h : DiskC l0 w d m wr0 (some (k, .slice A n c))) (hw : wr0 < 9223372036850000000) (ho : OwnB w base (.slice A n c) xs) (hl : xs.length = n) (hb : Bytes w (.slice A2 n2 c2) ys) (hl2 : ys.length = n2) (hn : n + n2 ≤ 4194304) (hpos : 0 < n2) (hbase : base ≤ w.heap.size)
    (hbd : ∀ b, (Value.slice A2 n2 c2).ownBlock = some b → b ≠ d ∧ b ≠ m ∧ some b ≠ (Value.slice A n c).ownBlock)  :
    Calls Try.prog 61 #[.pointer (some ⟨d, 0, none⟩), .string k, .slice A2 n2 c2] w fun e w' => ((e = .returned (.int .i64 0) ∧ (n2 + 31) / 32 ≤ l0 ∧ ∃ v', DiskC (l0 - (n2 + 31) / 32) w' d m (wr0 + (n2 + 31) / 32) (some (k, v')) ∧ OwnB w' base v' (xs ++ ys) ∧ Chg (DS d m (.slice A n c)) w w' ∧ From w (.slice A n c) v') ∨ (e = .returned (.int .i64 6) ∧ l0 < (n2 + 31) / 32 ∧ ∃ f' A' n' c', (f' = some (k, .slice A' n' c') ∨ (f' = none ∧ A' = none ∧ n' = 0 ∧ c' = 0 ∧ xs ++ ys.take (32 * l0) = [])) ∧ DiskC 0 w' d m (wr0 + l0) f' ∧ OwnB w' base (.slice A' n' c') (xs ++ ys.take (32 * l0)) ∧ Chg (DS d m (.slice A n c)) w w' ∧ From w (.slice A n c) (.slice A' n' c'))) := by
  have hbd2 : ∀ b, (Value.slice A2 n2 c2).ownBlock = some b → b ≠ d ∧ b ≠ m ∧ some b ≠ (Value.slice A n c).ownBlock ∧ b < w.heap.size := by
    intro b hb3
    obtain ⟨b3, o3, e3, hcell⟩ := hb.addr (by omega)
    subst e3
    cases hb3
    exact ⟨(hbd _ rfl).1, (hbd _ rfl).2.1, (hbd _ rfl).2.2, World.block_lt_of_cell? w _ (hcell 0 (by omega))⟩
  have HO := Lib.hid ho
  have HL := Lib.hid hl
  have HB := Lib.hid hb
  have HL2 := Lib.hid hl2
  have HD := Lib.hid h
  clear ho hl hb hl2 h hbd
  skip
  go_enter Try.func61, Try.ntmps61
  go_wp2
  go_step3
  go_wp2_with fail
  refine (hmay _).mono ?_
  rintro e w1 ⟨rfl, hc1⟩
  have hx0 : Boxed w1 w.heap.size 24 (.pointer (some ⟨d, 0, none⟩)) := hc1.heap ((Boxed.new w 24 (.pointer (some ⟨d, 0, none⟩))).alloc _) (fun x => x)
  have hx1 : Boxed w1 (w.heap.size + 1) 9 (.string k) := by
    have h0 := Boxed.new (w.alloc (.cells #[.pointer (some ⟨d, 0, none⟩)] 24)) 9 (.string k)
    rw [World.size_alloc] at h0
    exact hc1.heap h0 (fun x => x)
  have hcw : Chg No w w1 := (((Chg.refl No w).alloc _).alloc _).no hc1
  have hD1 := HD.out.chg hcw (fun x => x) (fun x => x)
  obtain ⟨c0, c1, c2', c3, c4⟩ := hD1.cells
  have e0 := hx0.cell
  have e1 := hx1.cell
  have hlk := look_same w1 m k _ hD1.2
  have hlkd := look_same w1.drew m k _ hD1.2
  skip
  have HC1 := Lib.hid hcw
  have HX0 := Lib.hid hx0
  have HX1 := Lib.hid hx1
  have HD1 := Lib.hid hD1
  clear hc1 hcw hx0 hx1 hD1
  have hz : ((n2 : Int) == 0) = false := by rw [beq_eq_false_iff_ne]; omega
  go_wp2
  go_region
  go_wp2
  clear hlk hlkd c0 c1 c2' c3 c4 e0 e1 
  have HC2 : Hid (Chg No w w1.drew) := HC1.out.drew
  have HX2 : Hid (Boxed w1.drew w.heap.size 24 (.pointer (some ⟨d, 0, none⟩))) := HX0.out
  have HX3 : Hid (Boxed w1.drew (w.heap.size + 1) 9 (.string k)) := HX1.out
  have HD2 : Hid (DiskC l0 w1.drew d m wr0 (some (k, .slice A n c))) := HD1.out
  clear HC1 HX0 HX1 HD1
  go_step3
  go_wp2
  go_loopw [2] (fun b wr' => ∃ (i : Nat) (f' : Option (ByteArray × Value)) (A' : Option Addr) (Ar : Option Addr) (c' cr : Nat), i ≤ n2 ∧ b = .slice Ar (n2 - i) cr ∧ (i < n2 → i % 32 = 0) ∧ Hid (Bytes wr' (.slice Ar (n2 - i) cr) (ys.drop i)) ∧ (∀ b, (Value.slice Ar (n2 - i) cr).ownBlock = some b → (Value.slice A2 n2 c2).ownBlock = some b) ∧ (f' = some (k, .slice A' (n + i) c') ∨ (f' = none ∧ A' = none ∧ n + i = 0 ∧ c' = 0 ∧ xs ++ ys.take i = [])) ∧ (f' = none → i = 0) ∧ (i + 31) / 32 ≤ l0 ∧ Hid (DiskC (l0 - (i + 31) / 32) wr' d m (wr0 + (i + 31) / 32) f') ∧ Hid (OwnB wr' base (.slice A' (n + i) c') (xs ++ ys.take i)) ∧ Hid (Chg (DS d m (.slice A n c)) w wr') ∧ Hid (Boxed wr' w.heap.size 24 (.pointer (some ⟨d, 0, none⟩))) ∧ Hid (Boxed wr' (w.heap.size + 1) 9 (.string k)) ∧ From w (.slice A n c) (.slice A' (n + i) c')) (fun b _ => match b with | .slice _ n _ => n | _ => 0)
  case atStart =>
    refine ⟨0, (some (k, .slice A n c)), A, A2, c, c2, Nat.zero_le _, rfl, fun _ => rfl, HB.out.no HC2.out, fun b hb => hb, .inl rfl, fun hx => rfl, Nat.zero_le _, ?_, ?_, HC2.out.mono (fun _ _ x => x.elim), HX2, HX3, From.refl _ _⟩
    · exact HD2
    · have h := HO.out.chg HC2.out (fun _ _ x => x)
      rw [List.take_zero, List.append_nil]
      exact h
  case round =>
    obtain ⟨i, f', A', Ar, c', cr, hi, rfl, hi32, HBr, hrb, hff, hfi, hil, HDr, HOr, HCr, HXa, HXb, hfr⟩ := hrel
    have ea := HXa.out.cell
    have eb := HXb.out.cell
    have hlr : (ys.drop i).length = n2 - i := by rw [List.length_drop, HL2.out]
    have hlx := HL.out
    have hly := HL2.out
    have hszr := HCr.out.size
    by_cases hlt : i < n2
    · have t1 : (0 : Int) < ((n2 - i : Nat) : Int) := by omega
      have ea' := fun o => ((Chg.refl No wr).alloc o).cell ea (fun x => x)
      have eb' := fun o => ((Chg.refl No wr).alloc o).cell eb (fun x => x)
      have hi0 := hi32 hlt
      have hform : n2 - i ≤ cr ∧ cr ≤ 9223372036854775807 := by
        obtain ⟨A3, c3, h3, h4, h5⟩ := HBr.out.form
        simp only [Value.slice.injEq] at h3
        obtain ⟨-, h6, rfl⟩ := h3
        exact ⟨by omega, h5⟩
      obtain ⟨br, orr, rfl, -⟩ := HBr.out.addr (by omega)
      by_cases hp : n2 - i ≤ 32
      · have t2 : ((n2 - i : Nat) : Int) ≤ 32 := by omega
        have hmn : min ((n2 - i : Nat) : Int) 32 = ((n2 - i : Nat) : Int) := by omega
        have hmx : max ((n2 - i : Nat) : Int) 0 = ((n2 - i : Nat) : Int) := by omega
        by_cases hcr : cr = n2 - i
        · subst hcr
          rcases Nat.lt_or_ge (i / 32) l0 with hleft | hleft
          rotate_left
          · go_wp2_with fail
            have hz0 : l0 - (i + 31) / 32 = 0 := by omega
            have HDz := Lib.hid (HDr.out.no ((Chg.refl No wr).alloc (.cells #[.slice (some ⟨br, orr, none⟩) (n2 - i) (n2 - i)] 30)))
            rw [hz0] at HDz
            refine (raw_zero _ d m _ f' HDz.out _).mono ?_
            rintro e w2 ⟨rfl, rfl⟩
            have hca : Chg No wr (wr.alloc (.cells #[.slice (some ⟨br, orr, none⟩) (n2 - i) (n2 - i)] 30)) := (Chg.refl No wr).alloc _
            have hie : i = 32 * l0 := by omega
            have HC9 := Lib.hid (HCr.out.no hca)
            have HO9 := Lib.hid (HOr.out.chg hca (fun _ _ x => x))
            have HIE := Lib.hid hie
            have hwe : wr0 + (i + 31) / 32 = wr0 + l0 := by omega
            have HWE := Lib.hid hwe
            clear hca hie hz0 hwe
            go_wp2
            rw [Exit.noGoto_ret]
            go_ret
            refine .inr ⟨rfl, by have := HIE.out; omega, f', A', _, c', ?_, ?_, ?_, HC9.out, hfr⟩
            · rw [← HIE.out]; exact hff
            · have h := HDz.out
              rw [HWE.out] at h
              exact h
            · rw [← HIE.out]; exact HO9.out
          go_wp2_with fail
          have hbx : Bytes wr (.slice (some ⟨br, orr, none⟩) (n2 - i) (n2 - i)) ((ys.drop i).take (n2 - i)) := by
            have h := Bytes.takeN (k := n2 - i) (m := (n2 - i)) HBr.out hlr (by omega) (by omega) (Nat.le_refl _)
            exact h
          have hby : Bytes wr (.slice (some ⟨br, orr, none⟩) 0 0) ((ys.drop i).drop (n2 - i)) := by rw [List.drop_of_length_le (by omega)]; exact Bytes.empty _ _ _
          have HBY := Lib.hid hby
          refine (piece_callsC (l0 - (i + 31) / 32) (by omega) (by omega) (wr.alloc _) base d m (wr0 + (i + 31) / 32) w.heap.size (w.heap.size + 1) wr.heap.size k A' (some ⟨br, orr, none⟩) (n + i) c' (n2 - i) (n2 - i) (xs ++ ys.take i) ((ys.drop i).take (n2 - i)) f' ?_ (HDr.out.chg ((Chg.refl No wr).alloc _) (fun x => x) (fun x => x)) (by omega) (HXa.out.alloc _) (HXb.out.alloc _) (Boxed.new wr _ _) (HOr.out.alloc _) (by simp only [List.length_append, List.length_take]; omega) (hbx.no ((Chg.refl No wr).alloc _)) (by rw [List.length_take, hlr]; omega) (by omega) (by rw [World.size_alloc]; omega) ?_).mono ?_
          · exact hff
          · intro b hb; exact (hbd2 b (hrb b hb)).1
          rintro e w2 ⟨rfl, v', h1', h2', h3', h4'⟩
          obtain ⟨A3, n3, c3, rfl, HL3, HO3⟩ := h2'.form
          have hn3 : n3 = n + (i + (n2 - i)) := by have := HL3.out; simp only [List.length_append, List.length_take, List.length_drop] at this; omega
          subst hn3
          have hca : Chg No wr (wr.alloc (Obj.cells #[Value.slice (some ⟨br, orr, none⟩) (n2 - i) (n2 - i)] 30)) := (Chg.refl No wr).alloc _
          have hds : ∀ j, j < w.heap.size → DS d m (.slice A' (n + i) c') j → DS d m (.slice A n c) j := by
            rintro j hj (e | e | e)
            · exact .inl e
            · exact .inr (.inl e)
            · rcases hfr j e.symm with e2 | e2
              · exact .inr (.inr e2.symm)
              · omega
          have hc2 : Chg (DS d m (.slice A n c)) w w2 := (HCr.out.no hca).trans h3' hds
          have hcr2 : Chg (DS d m (.slice A' (n + i) c')) wr w2 := (Chg.mono hca (fun _ _ x => x.elim)).trans h3' (fun _ _ x => x)
          have hnx : ∀ {b : Nat} {t : TypeId} {v : Value}, t ≠ 5 → t ≠ 88 → Boxed wr b t v → ¬ DS d m (.slice A' (n + i) c') b := by
            rintro b t v ht ht2 hB (e | e | e)
            · subst e; have := (show wr.heap[b]? = _ from hB).symm.trans HDr.out.1; cases this
            · subst e; have := (show wr.heap[b]? = _ from hB).symm.trans HDr.out.2; unfold mapObj at this; split at this <;> cases this
            · exact hB.not_row ht HOr.out e
          have HC2 := Lib.hid hc2
          have HD2 := Lib.hid h1'
          have HX2a := Lib.hid (hcr2.heap HXa.out (hnx (by decide) (by decide) HXa.out))
          have HX2b := Lib.hid (hcr2.heap HXb.out (hnx (by decide) (by decide) HXb.out))
          have HY2 := Lib.hid (HBY.out.chg hcr2 (by
            rintro b hb hbs
            have hb2 := hbd2 b (by first | exact hrb b hb | (cases hb; exact hrb _ rfl))
            rcases hbs with e | e | e
            · exact hb2.1 e
            · exact hb2.2.1 e
            · rcases hfr b e.symm with e2 | e2
              · exact hb2.2.2.1 e2.symm
              · omega))
          have HF2 : From w (.slice A n c) (.slice A3 (n + (i + (n2 - i))) c3) := From.trans hfr (Nat.le_trans HCr.out.size hca.size) h4'
          clear hc2 h1' hcr2 h3' h4' h2' hby hca hbx
          go_wp2
          go_roundw
          case rel =>
            refine ⟨i + (n2 - i), some (k, .slice A3 (n + (i + (n2 - i))) c3), A3, some ⟨br, orr, none⟩, c3, 0, by omega, congrArg (fun z => Value.slice (some ⟨br, orr, none⟩) z (0)) (by omega), ?_, ?_, ?_, .inl rfl, ?_, by omega, ?_, ?_, HC2, HX2a, HX2b, HF2⟩
            · omega
            · have h := HY2.out
              rw [List.drop_drop] at h
              exact (show 0 = n2 - (i + (n2 - i)) by omega) ▸ h
            · intro b hb
              first | exact hrb b hb | (cases hb; exact hrb _ rfl)
            · intro hx; cases hx
            · have h := HD2.out
              rw [show wr0 + (i + 31) / 32 + 1 = wr0 + (i + (n2 - i) + 31) / 32 by omega, show l0 - (i + 31) / 32 - 1 = l0 - (i + (n2 - i) + 31) / 32 by omega] at h
              exact h
            · have h := HO3.out
              rw [List.append_assoc, ← List.take_add] at h
              exact h
          case measure => simp only [intOf]; omega

        · rcases Nat.lt_or_ge (i / 32) l0 with hleft | hleft
          rotate_left
          · go_wp2_with fail
            have hz0 : l0 - (i + 31) / 32 = 0 := by omega
            have HDz := Lib.hid (HDr.out.no ((Chg.refl No wr).alloc (.cells #[.slice (some ⟨br, orr, none⟩) (n2 - i) cr] 30)))
            rw [hz0] at HDz
            refine (raw_zero _ d m _ f' HDz.out _).mono ?_
            rintro e w2 ⟨rfl, rfl⟩
            have hca : Chg No wr (wr.alloc (.cells #[.slice (some ⟨br, orr, none⟩) (n2 - i) cr] 30)) := (Chg.refl No wr).alloc _
            have hie : i = 32 * l0 := by omega
            have HC9 := Lib.hid (HCr.out.no hca)
            have HO9 := Lib.hid (HOr.out.chg hca (fun _ _ x => x))
            have HIE := Lib.hid hie
            have hwe : wr0 + (i + 31) / 32 = wr0 + l0 := by omega
            have HWE := Lib.hid hwe
            clear hca hie hz0 hwe
            go_wp2
            rw [Exit.noGoto_ret]
            go_ret
            refine .inr ⟨rfl, by have := HIE.out; omega, f', A', _, c', ?_, ?_, ?_, HC9.out, hfr⟩
            · rw [← HIE.out]; exact hff
            · have h := HDz.out
              rw [HWE.out] at h
              exact h
            · rw [← HIE.out]; exact HO9.out
          go_wp2_with fail
          have hbx : Bytes wr (.slice (some ⟨br, orr, none⟩) (n2 - i) cr) ((ys.drop i).take (n2 - i)) := by
            have h := Bytes.takeN (k := n2 - i) (m := cr) HBr.out hlr (by omega) (by omega) (Nat.le_refl _)
            exact h
          have hby : Bytes wr (.slice (some ⟨br, orr + (n2 - i), none⟩) 0 (cr - (n2 - i))) ((ys.drop i).drop (n2 - i)) := by rw [List.drop_of_length_le (by omega)]; exact Bytes.empty _ _ _
          have HBY := Lib.hid hby
          refine (piece_callsC (l0 - (i + 31) / 32) (by omega) (by omega) (wr.alloc _) base d m (wr0 + (i + 31) / 32) w.heap.size (w.heap.size + 1) wr.heap.size k A' (some ⟨br, orr, none⟩) (n + i) c' (n2 - i) cr (xs ++ ys.take i) ((ys.drop i).take (n2 - i)) f' ?_ (HDr.out.chg ((Chg.refl No wr).alloc _) (fun x => x) (fun x => x)) (by omega) (HXa.out.alloc _) (HXb.out.alloc _) (Boxed.new wr _ _) (HOr.out.alloc _) (by simp only [List.length_append, List.length_take]; omega) (hbx.no ((Chg.refl No wr).alloc _)) (by rw [List.length_take, hlr]; omega) (by omega) (by rw [World.size_alloc]; omega) ?_).mono ?_
          · exact hff
          · intro b hb; exact (hbd2 b (hrb b hb)).1
          rintro e w2 ⟨rfl, v', h1', h2', h3', h4'⟩
          obtain ⟨A3, n3, c3, rfl, HL3, HO3⟩ := h2'.form
          have hn3 : n3 = n + (i + (n2 - i)) := by have := HL3.out; simp only [List.length_append, List.length_take, List.length_drop] at this; omega
          subst hn3
          have hca : Chg No wr (wr.alloc (Obj.cells #[Value.slice (some ⟨br, orr, none⟩) (n2 - i) cr] 30)) := (Chg.refl No wr).alloc _
          have hds : ∀ j, j < w.heap.size → DS d m (.slice A' (n + i) c') j → DS d m (.slice A n c) j := by
            rintro j hj (e | e | e)
            · exact .inl e
            · exact .inr (.inl e)
            · rcases hfr j e.symm with e2 | e2
              · exact .inr (.inr e2.symm)
              · omega
          have hc2 : Chg (DS d m (.slice A n c)) w w2 := (HCr.out.no hca).trans h3' hds
          have hcr2 : Chg (DS d m (.slice A' (n + i) c')) wr w2 := (Chg.mono hca (fun _ _ x => x.elim)).trans h3' (fun _ _ x => x)
          have hnx : ∀ {b : Nat} {t : TypeId} {v : Value}, t ≠ 5 → t ≠ 88 → Boxed wr b t v → ¬ DS d m (.slice A' (n + i) c') b := by
            rintro b t v ht ht2 hB (e | e | e)
            · subst e; have := (show wr.heap[b]? = _ from hB).symm.trans HDr.out.1; cases this
            · subst e; have := (show wr.heap[b]? = _ from hB).symm.trans HDr.out.2; unfold mapObj at this; split at this <;> cases this
            · exact hB.not_row ht HOr.out e
          have HC2 := Lib.hid hc2
          have HD2 := Lib.hid h1'
          have HX2a := Lib.hid (hcr2.heap HXa.out (hnx (by decide) (by decide) HXa.out))
          have HX2b := Lib.hid (hcr2.heap HXb.out (hnx (by decide) (by decide) HXb.out))
          have HY2 := Lib.hid (HBY.out.chg hcr2 (by
            rintro b hb hbs
            have hb2 := hbd2 b (by first | exact hrb b hb | (cases hb; exact hrb _ rfl))
            rcases hbs with e | e | e
            · exact hb2.1 e
            · exact hb2.2.1 e
            · rcases hfr b e.symm with e2 | e2
              · exact hb2.2.2.1 e2.symm
              · omega))
          have HF2 : From w (.slice A n c) (.slice A3 (n + (i + (n2 - i))) c3) := From.trans hfr (Nat.le_trans HCr.out.size hca.size) h4'
          clear hc2 h1' hcr2 h3' h4' h2' hby hca hbx
          go_wp2
          go_roundw
          case rel =>
            refine ⟨i + (n2 - i), some (k, .slice A3 (n + (i + (n2 - i))) c3), A3, some ⟨br, orr + (n2 - i), none⟩, c3, cr - (n2 - i), by omega, congrArg (fun z => Value.slice (some ⟨br, orr + (n2 - i), none⟩) z (cr - (n2 - i))) (by omega), ?_, ?_, ?_, .inl rfl, ?_, by omega, ?_, ?_, HC2, HX2a, HX2b, HF2⟩
            · omega
            · have h := HY2.out
              rw [List.drop_drop] at h
              exact (show 0 = n2 - (i + (n2 - i)) by omega) ▸ h
            · intro b hb
              first | exact hrb b hb | (cases hb; exact hrb _ rfl)
            · intro hx; cases hx
            · have h := HD2.out
              rw [show wr0 + (i + 31) / 32 + 1 = wr0 + (i + (n2 - i) + 31) / 32 by omega, show l0 - (i + 31) / 32 - 1 = l0 - (i + (n2 - i) + 31) / 32 by omega] at h
              exact h
            · have h := HO3.out
              rw [List.append_assoc, ← List.take_add] at h
              exact h
          case measure => simp only [intOf]; omega

      · have t2 : (32 : Int) < ((n2 - i : Nat) : Int) := by omega
        have hmn : min ((n2 - i : Nat) : Int) 32 = 32 := by omega
        have hcr : ¬ cr = 32 := by omega
        rcases Nat.lt_or_ge (i / 32) l0 with hleft | hleft
        rotate_left
        · go_wp2_with fail
          have hz0 : l0 - (i + 31) / 32 = 0 := by omega
          have HDz := Lib.hid (HDr.out.no ((Chg.refl No wr).alloc (.cells #[.slice (some ⟨br, orr, none⟩) (32) cr] 30)))
          rw [hz0] at HDz
          refine (raw_zero _ d m _ f' HDz.out _).mono ?_
          rintro e w2 ⟨rfl, rfl⟩
          have hca : Chg No wr (wr.alloc (.cells #[.slice (some ⟨br, orr, none⟩) (32) cr] 30)) := (Chg.refl No wr).alloc _
          have hie : i = 32 * l0 := by omega
          have HC9 := Lib.hid (HCr.out.no hca)
          have HO9 := Lib.hid (HOr.out.chg hca (fun _ _ x => x))
          have HIE := Lib.hid hie
          have hwe : wr0 + (i + 31) / 32 = wr0 + l0 := by omega
          have HWE := Lib.hid hwe
          clear hca hie hz0 hwe
          go_wp2
          rw [Exit.noGoto_ret]
          go_ret
          refine .inr ⟨rfl, by have := HIE.out; omega, f', A', _, c', ?_, ?_, ?_, HC9.out, hfr⟩
          · rw [← HIE.out]; exact hff
          · have h := HDz.out
            rw [HWE.out] at h
            exact h
          · rw [← HIE.out]; exact HO9.out
        go_wp2_with fail
        have hbx : Bytes wr (.slice (some ⟨br, orr, none⟩) (32) cr) ((ys.drop i).take (32)) := by
          have h := Bytes.takeN (k := 32) (m := cr) HBr.out hlr (by omega) (by omega) (Nat.le_refl _)
          exact h
        have hby : Bytes wr (.slice (some ⟨br, orr + 32, none⟩) (n2 - i - 32) (cr - 32)) ((ys.drop i).drop (32)) := Bytes.tail HBr.out hlr (by omega) (by omega)
        have HBY := Lib.hid hby
        refine (piece_callsC (l0 - (i + 31) / 32) (by omega) (by omega) (wr.alloc _) base d m (wr0 + (i + 31) / 32) w.heap.size (w.heap.size + 1) wr.heap.size k A' (some ⟨br, orr, none⟩) (n + i) c' (32) cr (xs ++ ys.take i) ((ys.drop i).take (32)) f' ?_ (HDr.out.chg ((Chg.refl No wr).alloc _) (fun x => x) (fun x => x)) (by omega) (HXa.out.alloc _) (HXb.out.alloc _) (Boxed.new wr _ _) (HOr.out.alloc _) (by simp only [List.length_append, List.length_take]; omega) (hbx.no ((Chg.refl No wr).alloc _)) (by rw [List.length_take, hlr]; omega) (by omega) (by rw [World.size_alloc]; omega) ?_).mono ?_
        · exact hff
        · intro b hb; exact (hbd2 b (hrb b hb)).1
        rintro e w2 ⟨rfl, v', h1', h2', h3', h4'⟩
        obtain ⟨A3, n3, c3, rfl, HL3, HO3⟩ := h2'.form
        have hn3 : n3 = n + (i + (32)) := by have := HL3.out; simp only [List.length_append, List.length_take, List.length_drop] at this; omega
        subst hn3
        have hca : Chg No wr (wr.alloc (Obj.cells #[Value.slice (some ⟨br, orr, none⟩) (32) cr] 30)) := (Chg.refl No wr).alloc _
        have hds : ∀ j, j < w.heap.size → DS d m (.slice A' (n + i) c') j → DS d m (.slice A n c) j := by
          rintro j hj (e | e | e)
          · exact .inl e
          · exact .inr (.inl e)
          · rcases hfr j e.symm with e2 | e2
            · exact .inr (.inr e2.symm)
            · omega
        have hc2 : Chg (DS d m (.slice A n c)) w w2 := (HCr.out.no hca).trans h3' hds
        have hcr2 : Chg (DS d m (.slice A' (n + i) c')) wr w2 := (Chg.mono hca (fun _ _ x => x.elim)).trans h3' (fun _ _ x => x)
        have hnx : ∀ {b : Nat} {t : TypeId} {v : Value}, t ≠ 5 → t ≠ 88 → Boxed wr b t v → ¬ DS d m (.slice A' (n + i) c') b := by
          rintro b t v ht ht2 hB (e | e | e)
          · subst e; have := (show wr.heap[b]? = _ from hB).symm.trans HDr.out.1; cases this
          · subst e; have := (show wr.heap[b]? = _ from hB).symm.trans HDr.out.2; unfold mapObj at this; split at this <;> cases this
          · exact hB.not_row ht HOr.out e
        have HC2 := Lib.hid hc2
        have HD2 := Lib.hid h1'
        have HX2a := Lib.hid (hcr2.heap HXa.out (hnx (by decide) (by decide) HXa.out))
        have HX2b := Lib.hid (hcr2.heap HXb.out (hnx (by decide) (by decide) HXb.out))
        have HY2 := Lib.hid (HBY.out.chg hcr2 (by
          rintro b hb hbs
          have hb2 := hbd2 b (by first | exact hrb b hb | (cases hb; exact hrb _ rfl))
          rcases hbs with e | e | e
          · exact hb2.1 e
          · exact hb2.2.1 e
          · rcases hfr b e.symm with e2 | e2
            · exact hb2.2.2.1 e2.symm
            · omega))
        have HF2 : From w (.slice A n c) (.slice A3 (n + (i + (32))) c3) := From.trans hfr (Nat.le_trans HCr.out.size hca.size) h4'
        clear hc2 h1' hcr2 h3' h4' h2' hby hca hbx
        go_wp2
        go_roundw
        case rel =>
          refine ⟨i + (32), some (k, .slice A3 (n + (i + (32))) c3), A3, some ⟨br, orr + 32, none⟩, c3, cr - 32, by omega, congrArg (fun z => Value.slice (some ⟨br, orr + 32, none⟩) z (cr - 32)) (by omega), ?_, ?_, ?_, .inl rfl, ?_, by omega, ?_, ?_, HC2, HX2a, HX2b, HF2⟩
          · omega
          · have h := HY2.out
            rw [List.drop_drop] at h
            exact (show n2 - i - 32 = n2 - (i + 32) by omega) ▸ h
          · intro b hb
            first | exact hrb b hb | (cases hb; exact hrb _ rfl)
          · intro hx; cases hx
          · have h := HD2.out
            rw [show wr0 + (i + 31) / 32 + 1 = wr0 + (i + (32) + 31) / 32 by omega, show l0 - (i + 31) / 32 - 1 = l0 - (i + (32) + 31) / 32 by omega] at h
            exact h
          · have h := HO3.out
            rw [List.append_assoc, ← List.take_add] at h
            exact h
        case measure => simp only [intOf]; omega

    · have t1 : ¬ (0 : Int) < ((n2 - i : Nat) : Int) := by omega
      have hin : i = n2 := by omega
      subst hin
      go_wp2
      go_ret
      rcases hff with rfl | ⟨rfl, -⟩
      · refine .inl ⟨rfl, hil, _, HDr.out, ?_, HCr.out, hfr⟩
        have h := HOr.out
        rw [List.take_of_length_le (by omega)] at h
        exact h
      · have := hfi rfl
        omega

set_option maxHeartbeats 6400000 in
theorem dappend_firstC (l0 : Nat) (hl0 : l0 ≤ 9223372036854775807) (w : World) (base d m wr0 : Nat) (k : ByteArray) (hmay : ∀ w, Calls Try.prog 87 #[.string k] w fun e w' => e = .returned (.bool true) ∧ Chg No w w') (A2 : Option Addr) (n2 c2 : Nat) (ys : List UInt8)
    (h : DiskC l0 w d m wr0 none) (hw : wr0 < 9223372036850000000) (hb : Bytes w (.slice A2 n2 c2) ys) (hl2 : ys.length = n2) (hn : n2 ≤ 4194304) (hpos : 0 < n2) (hbase : base ≤ w.heap.size)
    (hbd : ∀ b, (Value.slice A2 n2 c2).ownBlock = some b → b ≠ d ∧ b ≠ m ∧ some b ≠ (Value.slice none 0 0).ownBlock) :
    Calls Try.prog 61 #[.pointer (some ⟨d, 0, none⟩), .string k, .slice A2 n2 c2] w fun e w' => ((e = .returned (.int .i64 0) ∧ (n2 + 31) / 32 ≤ l0 ∧ ∃ v', DiskC (l0 - (n2 + 31) / 32) w' d m (wr0 + (n2 + 31) / 32) (some (k, v')) ∧ OwnB w' base v' ([] ++ ys) ∧ Chg (DS d m (.slice none 0 0)) w w' ∧ From w (.slice none 0 0) v') ∨ (e = .returned (.int .i64 6) ∧ l0 < (n2 + 31) / 32 ∧ ∃ f' A' n' c', (f' = some (k, .slice A' n' c') ∨ (f' = none ∧ A' = none ∧ n' = 0 ∧ c' = 0 ∧ [] ++ ys.take (32 * l0) = [])) ∧ DiskC 0 w' d m (wr0 + l0) f' ∧ OwnB w' base (.slice A' n' c') ([] ++ ys.take (32 * l0)) ∧ Chg (DS d m (.slice none 0 0)) w w' ∧ From w (.slice none 0 0) (.slice A' n' c'))) := by
  have hbd2 : ∀ b, (Value.slice A2 n2 c2).ownBlock = some b → b ≠ d ∧ b ≠ m ∧ some b ≠ (Value.slice none 0 0).ownBlock ∧ b < w.heap.size := by
    intro b hb3
    obtain ⟨b3, o3, e3, hcell⟩ := hb.addr (by omega)
    subst e3
    cases hb3
    exact ⟨(hbd _ rfl).1, (hbd _ rfl).2.1, (hbd _ rfl).2.2, World.block_lt_of_cell? w _ (hcell 0 (by omega))⟩
  have HO : Hid (OwnB w base (.slice none 0 0) []) := World.ownsRow_nil _ _ _ _
  have HL : Hid (([] : List UInt8).length = 0) := rfl
  have HB := Lib.hid hb
  have HL2 := Lib.hid hl2
  have HD := Lib.hid h
  clear hb hl2 h hbd
  go_enter Try.func61, Try.ntmps61
  go_wp2
  go_step3
  go_wp2_with fail
  refine (hmay _).mono ?_
  rintro e w1 ⟨rfl, hc1⟩
  have hx0 : Boxed w1 w.heap.size 24 (.pointer (some ⟨d, 0, none⟩)) := hc1.heap ((Boxed.new w 24 (.pointer (some ⟨d, 0, none⟩))).alloc _) (fun x => x)
  have hx1 : Boxed w1 (w.heap.size + 1) 9 (.string k) := by
    have h0 := Boxed.new (w.alloc (.cells #[.pointer (some ⟨d, 0, none⟩)] 24)) 9 (.string k)
    rw [World.size_alloc] at h0
    exact hc1.heap h0 (fun x => x)
  have hcw : Chg No w w1 := (((Chg.refl No w).alloc _).alloc _).no hc1
  have hD1 := HD.out.chg hcw (fun x => x) (fun x => x)
  obtain ⟨c0, c1, c2', c3, c4⟩ := hD1.cells
  have e0 := hx0.cell
  have e1 := hx1.cell
  have hlk := look_none w1 m k hD1.2
  have hlkd := look_none w1.drew m k hD1.2
  have hmp := run_len_map (P := Try.prog) (w := w1.drew) 86 3 m #[] 0 (Try.underlying86) hD1.2
  have HC1 := Lib.hid hcw
  have HX0 := Lib.hid hx0
  have HX1 := Lib.hid hx1
  have HD1 := Lib.hid hD1
  clear hc1 hcw hx0 hx1 hD1
  have hz : ((n2 : Int) == 0) = false := by rw [beq_eq_false_iff_ne]; omega
  go_wp2
  go_region
  go_wp2
  clear hlk hlkd c0 c1 c2' c3 c4 e0 e1 hmp
  have HC2 : Hid (Chg No w w1.drew) := HC1.out.drew
  have HX2 : Hid (Boxed w1.drew w.heap.size 24 (.pointer (some ⟨d, 0, none⟩))) := HX0.out
  have HX3 : Hid (Boxed w1.drew (w.heap.size + 1) 9 (.string k)) := HX1.out
  have HD2 : Hid (DiskC l0 w1.drew d m wr0 none) := HD1.out
  clear HC1 HX0 HX1 HD1
  go_step3
  go_wp2
  go_loopw [2] (fun b wr' => ∃ (i : Nat) (f' : Option (ByteArray × Value)) (A' : Option Addr) (Ar : Option Addr) (c' cr : Nat), i ≤ n2 ∧ b = .slice Ar (n2 - i) cr ∧ (i < n2 → i % 32 = 0) ∧ Hid (Bytes wr' (.slice Ar (n2 - i) cr) (ys.drop i)) ∧ (∀ b, (Value.slice Ar (n2 - i) cr).ownBlock = some b → (Value.slice A2 n2 c2).ownBlock = some b) ∧ (f' = some (k, .slice A' (0 + i) c') ∨ (f' = none ∧ A' = none ∧ 0 + i = 0 ∧ c' = 0 ∧ [] ++ ys.take i = [])) ∧ (f' = none → i = 0) ∧ (i + 31) / 32 ≤ l0 ∧ Hid (DiskC (l0 - (i + 31) / 32) wr' d m (wr0 + (i + 31) / 32) f') ∧ Hid (OwnB wr' base (.slice A' (0 + i) c') ([] ++ ys.take i)) ∧ Hid (Chg (DS d m (.slice none 0 0)) w wr') ∧ Hid (Boxed wr' w.heap.size 24 (.pointer (some ⟨d, 0, none⟩))) ∧ Hid (Boxed wr' (w.heap.size + 1) 9 (.string k)) ∧ From w (.slice none 0 0) (.slice A' (0 + i) c')) (fun b _ => match b with | .slice _ n _ => n | _ => 0)
  case atStart =>
    refine ⟨0, none, none, A2, 0, c2, Nat.zero_le _, rfl, fun _ => rfl, HB.out.no HC2.out, fun b hb => hb, .inr ⟨rfl, rfl, rfl, rfl, rfl⟩, fun hx => rfl, Nat.zero_le _, ?_, ?_, HC2.out.mono (fun _ _ x => x.elim), HX2, HX3, From.refl _ _⟩
    · exact HD2
    · have h := HO.out.chg HC2.out (fun _ _ x => x)
      rw [List.take_zero, List.append_nil]
      exact h
  case round =>
    obtain ⟨i, f', A', Ar, c', cr, hi, rfl, hi32, HBr, hrb, hff, hfi, hil, HDr, HOr, HCr, HXa, HXb, hfr⟩ := hrel
    have ea := HXa.out.cell
    have eb := HXb.out.cell
    have hlr : (ys.drop i).length = n2 - i := by rw [List.length_drop, HL2.out]
    have hlx := HL.out
    have hly := HL2.out
    have hszr := HCr.out.size
    by_cases hlt : i < n2
    · have t1 : (0 : Int) < ((n2 - i : Nat) : Int) := by omega
      have ea' := fun o => ((Chg.refl No wr).alloc o).cell ea (fun x => x)
      have eb' := fun o => ((Chg.refl No wr).alloc o).cell eb (fun x => x)
      have hi0 := hi32 hlt
      have hform : n2 - i ≤ cr ∧ cr ≤ 9223372036854775807 := by
        obtain ⟨A3, c3, h3, h4, h5⟩ := HBr.out.form
        simp only [Value.slice.injEq] at h3
        obtain ⟨-, h6, rfl⟩ := h3
        exact ⟨by omega, h5⟩
      obtain ⟨br, orr, rfl, -⟩ := HBr.out.addr (by omega)
      by_cases hp : n2 - i ≤ 32
      · have t2 : ((n2 - i : Nat) : Int) ≤ 32 := by omega
        have hmn : min ((n2 - i : Nat) : Int) 32 = ((n2 - i : Nat) : Int) := by omega
        have hmx : max ((n2 - i : Nat) : Int) 0 = ((n2 - i : Nat) : Int) := by omega
        by_cases hcr : cr = n2 - i
        · subst hcr
          rcases Nat.lt_or_ge (i / 32) l0 with hleft | hleft
          rotate_left
          · go_wp2_with fail
            have hz0 : l0 - (i + 31) / 32 = 0 := by omega
            have HDz := Lib.hid (HDr.out.no ((Chg.refl No wr).alloc (.cells #[.slice (some ⟨br, orr, none⟩) (n2 - i) (n2 - i)] 30)))
            rw [hz0] at HDz
            refine (raw_zero _ d m _ f' HDz.out _).mono ?_
            rintro e w2 ⟨rfl, rfl⟩
            have hca : Chg No wr (wr.alloc (.cells #[.slice (some ⟨br, orr, none⟩) (n2 - i) (n2 - i)] 30)) := (Chg.refl No wr).alloc _
            have hie : i = 32 * l0 := by omega
            have HC9 := Lib.hid (HCr.out.no hca)
            have HO9 := Lib.hid (HOr.out.chg hca (fun _ _ x => x))
            have HIE := Lib.hid hie
            have hwe : wr0 + (i + 31) / 32 = wr0 + l0 := by omega
            have HWE := Lib.hid hwe
            clear hca hie hz0 hwe
            go_wp2
            rw [Exit.noGoto_ret]
            go_ret
            refine .inr ⟨rfl, by have := HIE.out; omega, f', A', _, c', ?_, ?_, ?_, HC9.out, hfr⟩
            · rw [← HIE.out]; exact hff
            · have h := HDz.out
              rw [HWE.out] at h
              exact h
            · rw [← HIE.out]; exact HO9.out
          go_wp2_with fail
          have hbx : Bytes wr (.slice (some ⟨br, orr, none⟩) (n2 - i) (n2 - i)) ((ys.drop i).take (n2 - i)) := by
            have h := Bytes.takeN (k := n2 - i) (m := (n2 - i)) HBr.out hlr (by omega) (by omega) (Nat.le_refl _)
            exact h
          have hby : Bytes wr (.slice (some ⟨br, orr, none⟩) 0 0) ((ys.drop i).drop (n2 - i)) := by rw [List.drop_of_length_le (by omega)]; exact Bytes.empty _ _ _
          have HBY := Lib.hid hby
          refine (piece_callsC (l0 - (i + 31) / 32) (by omega) (by omega) (wr.alloc _) base d m (wr0 + (i + 31) / 32) w.heap.size (w.heap.size + 1) wr.heap.size k A' (some ⟨br, orr, none⟩) (0 + i) c' (n2 - i) (n2 - i) ([] ++ ys.take i) ((ys.drop i).take (n2 - i)) f' ?_ (HDr.out.chg ((Chg.refl No wr).alloc _) (fun x => x) (fun x => x)) (by omega) (HXa.out.alloc _) (HXb.out.alloc _) (Boxed.new wr _ _) (HOr.out.alloc _) (by simp only [List.length_append, List.length_take]; omega) (hbx.no ((Chg.refl No wr).alloc _)) (by rw [List.length_take, hlr]; omega) (by omega) (by rw [World.size_alloc]; omega) ?_).mono ?_
          · exact hff
          · intro b hb; exact (hbd2 b (hrb b hb)).1
          rintro e w2 ⟨rfl, v', h1', h2', h3', h4'⟩
          obtain ⟨A3, n3, c3, rfl, HL3, HO3⟩ := h2'.form
          have hn3 : n3 = 0 + (i + (n2 - i)) := by have := HL3.out; simp only [List.length_append, List.length_take, List.length_drop] at this; omega
          subst hn3
          have hca : Chg No wr (wr.alloc (Obj.cells #[Value.slice (some ⟨br, orr, none⟩) (n2 - i) (n2 - i)] 30)) := (Chg.refl No wr).alloc _
          have hds : ∀ j, j < w.heap.size → DS d m (.slice A' (0 + i) c') j → DS d m (.slice none 0 0) j := by
            rintro j hj (e | e | e)
            · exact .inl e
            · exact .inr (.inl e)
            · rcases hfr j e.symm with e2 | e2
              · exact .inr (.inr e2.symm)
              · omega
          have hc2 : Chg (DS d m (.slice none 0 0)) w w2 := (HCr.out.no hca).trans h3' hds
          have hcr2 : Chg (DS d m (.slice A' (0 + i) c')) wr w2 := (Chg.mono hca (fun _ _ x => x.elim)).trans h3' (fun _ _ x => x)
          have hnx : ∀ {b : Nat} {t : TypeId} {v : Value}, t ≠ 5 → t ≠ 88 → Boxed wr b t v → ¬ DS d m (.slice A' (0 + i) c') b := by
            rintro b t v ht ht2 hB (e | e | e)
            · subst e; have := (show wr.heap[b]? = _ from hB).symm.trans HDr.out.1; cases this
            · subst e; have := (show wr.heap[b]? = _ from hB).symm.trans HDr.out.2; unfold mapObj at this; split at this <;> cases this
            · exact hB.not_row ht HOr.out e
          have HC2 := Lib.hid hc2
          have HD2 := Lib.hid h1'
          have HX2a := Lib.hid (hcr2.heap HXa.out (hnx (by decide) (by decide) HXa.out))
          have HX2b := Lib.hid (hcr2.heap HXb.out (hnx (by decide) (by decide) HXb.out))
          have HY2 := Lib.hid (HBY.out.chg hcr2 (by
            rintro b hb hbs
            have hb2 := hbd2 b (by first | exact hrb b hb | (cases hb; exact hrb _ rfl))
            rcases hbs with e | e | e
            · exact hb2.1 e
            · exact hb2.2.1 e
            · rcases hfr b e.symm with e2 | e2
              · exact hb2.2.2.1 e2.symm
              · omega))
          have HF2 : From w (.slice none 0 0) (.slice A3 (0 + (i + (n2 - i))) c3) := From.trans hfr (Nat.le_trans HCr.out.size hca.size) h4'
          clear hc2 h1' hcr2 h3' h4' h2' hby hca hbx
          go_wp2
          go_roundw
          case rel =>
            refine ⟨i + (n2 - i), some (k, .slice A3 (0 + (i + (n2 - i))) c3), A3, some ⟨br, orr, none⟩, c3, 0, by omega, congrArg (fun z => Value.slice (some ⟨br, orr, none⟩) z (0)) (by omega), ?_, ?_, ?_, .inl rfl, ?_, by omega, ?_, ?_, HC2, HX2a, HX2b, HF2⟩
            · omega
            · have h := HY2.out
              rw [List.drop_drop] at h
              exact (show 0 = n2 - (i + (n2 - i)) by omega) ▸ h
            · intro b hb
              first | exact hrb b hb | (cases hb; exact hrb _ rfl)
            · intro hx; cases hx
            · have h := HD2.out
              rw [show wr0 + (i + 31) / 32 + 1 = wr0 + (i + (n2 - i) + 31) / 32 by omega, show l0 - (i + 31) / 32 - 1 = l0 - (i + (n2 - i) + 31) / 32 by omega] at h
              exact h
            · have h := HO3.out
              rw [List.append_assoc, ← List.take_add] at h
              exact h
          case measure => simp only [intOf]; omega

        · rcases Nat.lt_or_ge (i / 32) l0 with hleft | hleft
          rotate_left
          · go_wp2_with fail
            have hz0 : l0 - (i + 31) / 32 = 0 := by omega
            have HDz := Lib.hid (HDr.out.no ((Chg.refl No wr).alloc (.cells #[.slice (some ⟨br, orr, none⟩) (n2 - i) cr] 30)))
            rw [hz0] at HDz
            refine (raw_zero _ d m _ f' HDz.out _).mono ?_
            rintro e w2 ⟨rfl, rfl⟩
            have hca : Chg No wr (wr.alloc (.cells #[.slice (some ⟨br, orr, none⟩) (n2 - i) cr] 30)) := (Chg.refl No wr).alloc _
            have hie : i = 32 * l0 := by omega
            have HC9 := Lib.hid (HCr.out.no hca)
            have HO9 := Lib.hid (HOr.out.chg hca (fun _ _ x => x))
            have HIE := Lib.hid hie
            have hwe : wr0 + (i + 31) / 32 = wr0 + l0 := by omega
            have HWE := Lib.hid hwe
            clear hca hie hz0 hwe
            go_wp2
            rw [Exit.noGoto_ret]
            go_ret
            refine .inr ⟨rfl, by have := HIE.out; omega, f', A', _, c', ?_, ?_, ?_, HC9.out, hfr⟩
            · rw [← HIE.out]; exact hff
            · have h := HDz.out
              rw [HWE.out] at h
              exact h
            · rw [← HIE.out]; exact HO9.out
          go_wp2_with fail
          have hbx : Bytes wr (.slice (some ⟨br, orr, none⟩) (n2 - i) cr) ((ys.drop i).take (n2 - i)) := by
            have h := Bytes.takeN (k := n2 - i) (m := cr) HBr.out hlr (by omega) (by omega) (Nat.le_refl _)
            exact h
          have hby : Bytes wr (.slice (some ⟨br, orr + (n2 - i), none⟩) 0 (cr - (n2 - i))) ((ys.drop i).drop (n2 - i)) := by rw [List.drop_of_length_le (by omega)]; exact Bytes.empty _ _ _
          have HBY := Lib.hid hby
          refine (piece_callsC (l0 - (i + 31) / 32) (by omega) (by omega) (wr.alloc _) base d m (wr0 + (i + 31) / 32) w.heap.size (w.heap.size + 1) wr.heap.size k A' (some ⟨br, orr, none⟩) (0 + i) c' (n2 - i) cr ([] ++ ys.take i) ((ys.drop i).take (n2 - i)) f' ?_ (HDr.out.chg ((Chg.refl No wr).alloc _) (fun x => x) (fun x => x)) (by omega) (HXa.out.alloc _) (HXb.out.alloc _) (Boxed.new wr _ _) (HOr.out.alloc _) (by simp only [List.length_append, List.length_take]; omega) (hbx.no ((Chg.refl No wr).alloc _)) (by rw [List.length_take, hlr]; omega) (by omega) (by rw [World.size_alloc]; omega) ?_).mono ?_
          · exact hff
          · intro b hb; exact (hbd2 b (hrb b hb)).1
          rintro e w2 ⟨rfl, v', h1', h2', h3', h4'⟩
          obtain ⟨A3, n3, c3, rfl, HL3, HO3⟩ := h2'.form
          have hn3 : n3 = 0 + (i + (n2 - i)) := by have := HL3.out; simp only [List.length_append, List.length_take, List.length_drop] at this; omega
          subst hn3
          have hca : Chg No wr (wr.alloc (Obj.cells #[Value.slice (some ⟨br, orr, none⟩) (n2 - i) cr] 30)) := (Chg.refl No wr).alloc _
          have hds : ∀ j, j < w.heap.size → DS d m (.slice A' (0 + i) c') j → DS d m (.slice none 0 0) j := by
            rintro j hj (e | e | e)
            · exact .inl e
            · exact .inr (.inl e)
            · rcases hfr j e.symm with e2 | e2
              · exact .inr (.inr e2.symm)
              · omega
          have hc2 : Chg (DS d m (.slice none 0 0)) w w2 := (HCr.out.no hca).trans h3' hds
          have hcr2 : Chg (DS d m (.slice A' (0 + i) c')) wr w2 := (Chg.mono hca (fun _ _ x => x.elim)).trans h3' (fun _ _ x => x)
          have hnx : ∀ {b : Nat} {t : TypeId} {v : Value}, t ≠ 5 → t ≠ 88 → Boxed wr b t v → ¬ DS d m (.slice A' (0 + i) c') b := by
            rintro b t v ht ht2 hB (e | e | e)
            · subst e; have := (show wr.heap[b]? = _ from hB).symm.trans HDr.out.1; cases this
            · subst e; have := (show wr.heap[b]? = _ from hB).symm.trans HDr.out.2; unfold mapObj at this; split at this <;> cases this
            · exact hB.not_row ht HOr.out e
          have HC2 := Lib.hid hc2
          have HD2 := Lib.hid h1'
          have HX2a := Lib.hid (hcr2.heap HXa.out (hnx (by decide) (by decide) HXa.out))
          have HX2b := Lib.hid (hcr2.heap HXb.out (hnx (by decide) (by decide) HXb.out))
          have HY2 := Lib.hid (HBY.out.chg hcr2 (by
            rintro b hb hbs
            have hb2 := hbd2 b (by first | exact hrb b hb | (cases hb; exact hrb _ rfl))
            rcases hbs with e | e | e
            · exact hb2.1 e
            · exact hb2.2.1 e
            · rcases hfr b e.symm with e2 | e2
              · exact hb2.2.2.1 e2.symm
              · omega))
          have HF2 : From w (.slice none 0 0) (.slice A3 (0 + (i + (n2 - i))) c3) := From.trans hfr (Nat.le_trans HCr.out.size hca.size) h4'
          clear hc2 h1' hcr2 h3' h4' h2' hby hca hbx
          go_wp2
          go_roundw
          case rel =>
            refine ⟨i + (n2 - i), some (k, .slice A3 (0 + (i + (n2 - i))) c3), A3, some ⟨br, orr + (n2 - i), none⟩, c3, cr - (n2 - i), by omega, congrArg (fun z => Value.slice (some ⟨br, orr + (n2 - i), none⟩) z (cr - (n2 - i))) (by omega), ?_, ?_, ?_, .inl rfl, ?_, by omega, ?_, ?_, HC2, HX2a, HX2b, HF2⟩
            · omega
            · have h := HY2.out
              rw [List.drop_drop] at h
              exact (show 0 = n2 - (i + (n2 - i)) by omega) ▸ h
            · intro b hb
              first | exact hrb b hb | (cases hb; exact hrb _ rfl)
            · intro hx; cases hx
            · have h := HD2.out
              rw [show wr0 + (i + 31) / 32 + 1 = wr0 + (i + (n2 - i) + 31) / 32 by omega, show l0 - (i + 31) / 32 - 1 = l0 - (i + (n2 - i) + 31) / 32 by omega] at h
              exact h
            · have h := HO3.out
              rw [List.append_assoc, ← List.take_add] at h
              exact h
          case measure => simp only [intOf]; omega

      · have t2 : (32 : Int) < ((n2 - i : Nat) : Int) := by omega
        have hmn : min ((n2 - i : Nat) : Int) 32 = 32 := by omega
        have hcr : ¬ cr = 32 := by omega
        rcases Nat.lt_or_ge (i / 32) l0 with hleft | hleft
        rotate_left
        · go_wp2_with fail
          have hz0 : l0 - (i + 31) / 32 = 0 := by omega
          have HDz := Lib.hid (HDr.out.no ((Chg.refl No wr).alloc (.cells #[.slice (some ⟨br, orr, none⟩) (32) cr] 30)))
          rw [hz0] at HDz
          refine (raw_zero _ d m _ f' HDz.out _).mono ?_
          rintro e w2 ⟨rfl, rfl⟩
          have hca : Chg No wr (wr.alloc (.cells #[.slice (some ⟨br, orr, none⟩) (32) cr] 30)) := (Chg.refl No wr).alloc _
          have hie : i = 32 * l0 := by omega
          have HC9 := Lib.hid (HCr.out.no hca)
          have HO9 := Lib.hid (HOr.out.chg hca (fun _ _ x => x))
          have HIE := Lib.hid hie
          have hwe : wr0 + (i + 31) / 32 = wr0 + l0 := by omega
          have HWE := Lib.hid hwe
          clear hca hie hz0 hwe
          go_wp2
          rw [Exit.noGoto_ret]
          go_ret
          refine .inr ⟨rfl, by have := HIE.out; omega, f', A', _, c', ?_, ?_, ?_, HC9.out, hfr⟩
          · rw [← HIE.out]; exact hff
          · have h := HDz.out
            rw [HWE.out] at h
            exact h
          · rw [← HIE.out]; exact HO9.out
        go_wp2_with fail
        have hbx : Bytes wr (.slice (some ⟨br, orr, none⟩) (32) cr) ((ys.drop i).take (32)) := by
          have h := Bytes.takeN (k := 32) (m := cr) HBr.out hlr (by omega) (by omega) (Nat.le_refl _)
          exact h
        have hby : Bytes wr (.slice (some ⟨br, orr + 32, none⟩) (n2 - i - 32) (cr - 32)) ((ys.drop i).drop (32)) := Bytes.tail HBr.out hlr (by omega) (by omega)
        have HBY := Lib.hid hby
        refine (piece_callsC (l0 - (i + 31) / 32) (by omega) (by omega) (wr.alloc _) base d m (wr0 + (i + 31) / 32) w.heap.size (w.heap.size + 1) wr.heap.size k A' (some ⟨br, orr, none⟩) (0 + i) c' (32) cr ([] ++ ys.take i) ((ys.drop i).take (32)) f' ?_ (HDr.out.chg ((Chg.refl No wr).alloc _) (fun x => x) (fun x => x)) (by omega) (HXa.out.alloc _) (HXb.out.alloc _) (Boxed.new wr _ _) (HOr.out.alloc _) (by simp only [List.length_append, List.length_take]; omega) (hbx.no ((Chg.refl No wr).alloc _)) (by rw [List.length_take, hlr]; omega) (by omega) (by rw [World.size_alloc]; omega) ?_).mono ?_
        · exact hff
        · intro b hb; exact (hbd2 b (hrb b hb)).1
        rintro e w2 ⟨rfl, v', h1', h2', h3', h4'⟩
        obtain ⟨A3, n3, c3, rfl, HL3, HO3⟩ := h2'.form
        have hn3 : n3 = 0 + (i + (32)) := by have := HL3.out; simp only [List.length_append, List.length_take, List.length_drop] at this; omega
        subst hn3
        have hca : Chg No wr (wr.alloc (Obj.cells #[Value.slice (some ⟨br, orr, none⟩) (32) cr] 30)) := (Chg.refl No wr).alloc _
        have hds : ∀ j, j < w.heap.size → DS d m (.slice A' (0 + i) c') j → DS d m (.slice none 0 0) j := by
          rintro j hj (e | e | e)
          · exact .inl e
          · exact .inr (.inl e)
          · rcases hfr j e.symm with e2 | e2
            · exact .inr (.inr e2.symm)
            · omega
        have hc2 : Chg (DS d m (.slice none 0 0)) w w2 := (HCr.out.no hca).trans h3' hds
        have hcr2 : Chg (DS d m (.slice A' (0 + i) c')) wr w2 := (Chg.mono hca (fun _ _ x => x.elim)).trans h3' (fun _ _ x => x)
        have hnx : ∀ {b : Nat} {t : TypeId} {v : Value}, t ≠ 5 → t ≠ 88 → Boxed wr b t v → ¬ DS d m (.slice A' (0 + i) c') b := by
          rintro b t v ht ht2 hB (e | e | e)
          · subst e; have := (show wr.heap[b]? = _ from hB).symm.trans HDr.out.1; cases this
          · subst e; have := (show wr.heap[b]? = _ from hB).symm.trans HDr.out.2; unfold mapObj at this; split at this <;> cases this
          · exact hB.not_row ht HOr.out e
        have HC2 := Lib.hid hc2
        have HD2 := Lib.hid h1'
        have HX2a := Lib.hid (hcr2.heap HXa.out (hnx (by decide) (by decide) HXa.out))
        have HX2b := Lib.hid (hcr2.heap HXb.out (hnx (by decide) (by decide) HXb.out))
        have HY2 := Lib.hid (HBY.out.chg hcr2 (by
          rintro b hb hbs
          have hb2 := hbd2 b (by first | exact hrb b hb | (cases hb; exact hrb _ rfl))
          rcases hbs with e | e | e
          · exact hb2.1 e
          · exact hb2.2.1 e
          · rcases hfr b e.symm with e2 | e2
            · exact hb2.2.2.1 e2.symm
            · omega))
        have HF2 : From w (.slice none 0 0) (.slice A3 (0 + (i + (32))) c3) := From.trans hfr (Nat.le_trans HCr.out.size hca.size) h4'
        clear hc2 h1' hcr2 h3' h4' h2' hby hca hbx
        go_wp2
        go_roundw
        case rel =>
          refine ⟨i + (32), some (k, .slice A3 (0 + (i + (32))) c3), A3, some ⟨br, orr + 32, none⟩, c3, cr - 32, by omega, congrArg (fun z => Value.slice (some ⟨br, orr + 32, none⟩) z (cr - 32)) (by omega), ?_, ?_, ?_, .inl rfl, ?_, by omega, ?_, ?_, HC2, HX2a, HX2b, HF2⟩
          · omega
          · have h := HY2.out
            rw [List.drop_drop] at h
            exact (show n2 - i - 32 = n2 - (i + 32) by omega) ▸ h
          · intro b hb
            first | exact hrb b hb | (cases hb; exact hrb _ rfl)
          · intro hx; cases hx
          · have h := HD2.out
            rw [show wr0 + (i + 31) / 32 + 1 = wr0 + (i + (32) + 31) / 32 by omega, show l0 - (i + 31) / 32 - 1 = l0 - (i + (32) + 31) / 32 by omega] at h
            exact h
          · have h := HO3.out
            rw [List.append_assoc, ← List.take_add] at h
            exact h
        case measure => simp only [intOf]; omega

    · have t1 : ¬ (0 : Int) < ((n2 - i : Nat) : Int) := by omega
      have hin : i = n2 := by omega
      subst hin
      go_wp2
      go_ret
      rcases hff with rfl | ⟨rfl, -⟩
      · refine .inl ⟨rfl, hil, _, HDr.out, ?_, HCr.out, hfr⟩
        have h := HOr.out
        rw [List.take_of_length_le (by omega)] at h
        exact h
      · have := hfi rfl
        omega
end Go.Proofs.Ytccphnkdnifpfaa

