/-
  What Append does to the map of a disk.
-/
import Derived.Test.YtbbfjnfmfigcfaaJ2
import Derived.Test.YtbbfjnfmfigcfaaRep4
import Derived.Deep.RegionHeld3
namespace Go.Proofs.Ytbbfjnfmfigcfaa
open Go.RowKit
set_option linter.unusedVariables false
set_option linter.unusedSimpArgs false
set_option maxRecDepth 100000

set_option maxHeartbeats 1600000 in
theorem append_more (w : World) (base d m wr B0 B1 B2 : Nat) (k : ByteArray) (A A2 : Option Addr) (n c n2 c2 : Nat) (xs ys : List UInt8) (h : DiskAt w d m wr (some (k, .slice A n c))) (h0 : Boxed w B0 24 (.pointer (some ⟨d, 0, none⟩))) (h1 : Boxed w B1 9 (.string k)) (h2 : Boxed w B2 22 (.slice A2 n2 c2))
    (ho : OwnB w base (.slice A n c) xs) (hl : xs.length = n) (hb : Bytes w (.slice A2 n2 c2) ys) (hl2 : ys.length = n2) (hn : n + n2 ≤ 140737488355328) (hbase : base ≤ w.heap.size)  :
    Calls Try.prog 43 #[.pointer (some ⟨B0, 0, none⟩), .pointer (some ⟨B1, 0, none⟩), .pointer (some ⟨B2, 0, none⟩)] w fun e w' => e = .returned (.tuple #[]) ∧ ∃ v', DiskAt w' d m wr (some (k, v')) ∧ OwnB w' base v' (xs ++ ys) ∧ Chg (fun i => i = m ∨ some i = (Value.slice A n c).ownBlock) w w' ∧ From w (.slice A n c) v' := by
  have HO := Lib.hid ho
  have HL := Lib.hid hl
  have HB := Lib.hid hb
  have HL2 := Lib.hid hl2
  have HM := Lib.hid h.2
  obtain ⟨c0, c1, c2', c3, c4⟩ := h.cells
  have e0 := h0.cell
  have e1 := h1.cell
  have e2 := h2.cell
  have hlk := look_same1 w m k (.slice A n c) h.2
  have hlkd := look_same1 w.drew m k (.slice A n c) h.2
  have mlt : m < w.heap.size := (Array.getElem?_eq_some_iff.1 h.2).1
  have HMN : some m ≠ (Value.slice A n c).ownBlock := by
    intro e
    obtain ⟨cc, fz, hcc⟩ := OwnB.cells ho m e.symm
    rw [h.2] at hcc
    cases hcc
  have HDN : some d ≠ (Value.slice A n c).ownBlock := by
    intro e
    obtain ⟨cc, fz, hcc⟩ := OwnB.cells ho d e.symm
    rw [h.1] at hcc
    cases hcc
  have hmd : d ≠ m := by rintro rfl; have := h.1.symm.trans h.2; unfold mapObj at this; cases this
  have HD := Lib.hid h.1
  skip
  have N0 : ¬ (some B0 = (Value.slice A n c).ownBlock) := h0.not_row (by decide) ho
  have N1 : ¬ (some B1 = (Value.slice A n c).ownBlock) := h1.not_row (by decide) ho
  have N2 : ¬ (some B2 = (Value.slice A n c).ownBlock) := h2.not_row (by decide) ho
  have M0 : ¬ (B0 = m ∨ some B0 = (Value.slice A n c).ownBlock) := by
    rintro (e | e)
    · rw [e] at h0; have := (show w.heap[m]? = _ from h0).symm.trans h.2; unfold mapObj at this; cases this
    · exact N0 e
  have M1 : ¬ (B1 = m ∨ some B1 = (Value.slice A n c).ownBlock) := by
    rintro (e | e)
    · rw [e] at h1; have := (show w.heap[m]? = _ from h1).symm.trans h.2; unfold mapObj at this; cases this
    · exact N1 e
  have M2 : ¬ (B2 = m ∨ some B2 = (Value.slice A n c).ownBlock) := by
    rintro (e | e)
    · rw [e] at h2; have := (show w.heap[m]? = _ from h2).symm.trans h.2; unfold mapObj at this; cases this
    · exact N2 e
  have MD : ¬ (d = m ∨ some d = (Value.slice A n c).ownBlock) := by rintro (e | e); exact hmd e; exact HDN e
  have hc2 : ∀ (v' : Value) (w1 : World), Chg (fun i => some i = (Value.slice A n c).ownBlock) w w1 → Chg (fun i => i = m ∨ some i = (Value.slice A n c).ownBlock) w (w1.putObj m (mapObj (some (k, v')))) := by
    intro v' w1 hc
    refine ⟨hc.os, hc.tape, hc.output, Nat.le_trans hc.size (grownBy_putObj' w1 m _).size, fun i hi hs => ?_⟩
    refine ((grownBy_putObj' w1 m _).block i (Nat.lt_of_lt_of_le hi hc.size) (fun e => hs (.inl (Option.some.inj e)))).trans (hc.block i hi (fun e => hs (.inr e)))
  clear ho hl hb hl2 h h0 h1 h2
  go_enter Try.func43, Try.ntmps43
  refine wp_region_held_drew (S := (fun W => W.cell? ⟨B0, 0, none⟩ = some (.pointer (some ⟨d, 0, none⟩)) ∧ W.cell? ⟨B1, 0, none⟩ = some (.string k) ∧ W.cell? ⟨B2, 0, none⟩ = some (.slice A2 n2 c2) ∧ W.cell? ⟨d, 0, none⟩ = some (.map (some m)))) (by kernel_rfl) ⟨e0, e1, e2, c0⟩ (fun hSw => ?_)
  refine wpAnyH_take (i := 0) (oi := { dst := some 3, op := Go.Op.load 24 (Go.Operand.tmp 0), type := 24, pos := "disk.go:115", after := #[], guard := none }) (v := ?_) rfl (by kernel_rfl) (by kernel_rfl) (by kernel_rfl) (fun _ _ _ h => h) (Or.inl ⟨by rfl, ?_⟩) hSw ?_
  rotate_left
  · (intro W hW; obtain ⟨hq1, hq2, hq3, hq4⟩ := hW; go_simp; try with_reducible rfl)
  try simp only [Act.put, List.setIfInBounds_toArray, List.set_cons_zero, List.set_cons_succ]
  refine wpAnyH_take (i := 4) (oi := { dst := some 7, op := Go.Op.load 9 (Go.Operand.tmp 1), type := 9, pos := "disk.go:115", after := #[], guard := none }) (v := ?_) rfl (by kernel_rfl) (by kernel_rfl) (by kernel_rfl) (fun _ _ _ h => h) (Or.inl ⟨by rfl, ?_⟩) hSw ?_
  rotate_left
  · (intro W hW; obtain ⟨hq1, hq2, hq3, hq4⟩ := hW; go_simp; try with_reducible rfl)
  try simp only [Act.put, List.setIfInBounds_toArray, List.set_cons_zero, List.set_cons_succ]
  refine wpAnyH_take (i := 5) (oi := { dst := some 8, op := Go.Op.load 24 (Go.Operand.tmp 0), type := 24, pos := "disk.go:115", after := #[], guard := none }) (v := ?_) rfl (by kernel_rfl) (by kernel_rfl) (by kernel_rfl) (fun _ _ _ h => h) (Or.inl ⟨by rfl, ?_⟩) hSw ?_
  rotate_left
  · (intro W hW; obtain ⟨hq1, hq2, hq3, hq4⟩ := hW; go_simp; try with_reducible rfl)
  try simp only [Act.put, List.setIfInBounds_toArray, List.set_cons_zero, List.set_cons_succ]
  refine wpAnyH_take (i := 9) (oi := { dst := some 12, op := Go.Op.load 9 (Go.Operand.tmp 1), type := 9, pos := "disk.go:115", after := #[], guard := none }) (v := ?_) rfl (by kernel_rfl) (by kernel_rfl) (by kernel_rfl) (fun _ _ _ h => h) (Or.inl ⟨by rfl, ?_⟩) hSw ?_
  rotate_left
  · (intro W hW; obtain ⟨hq1, hq2, hq3, hq4⟩ := hW; go_simp; try with_reducible rfl)
  try simp only [Act.put, List.setIfInBounds_toArray, List.set_cons_zero, List.set_cons_succ]
  refine wpAnyH_take (i := 11) (oi := { dst := some 14, op := Go.Op.load 22 (Go.Operand.tmp 2), type := 22, pos := "disk.go:115", after := #[], guard := none }) (v := ?_) rfl (by kernel_rfl) (by kernel_rfl) (by kernel_rfl) (fun _ _ _ h => h) (Or.inl ⟨by rfl, ?_⟩) hSw ?_
  rotate_left
  · (intro W hW; obtain ⟨hq1, hq2, hq3, hq4⟩ := hW; go_simp; try with_reducible rfl)
  try simp only [Act.put, List.setIfInBounds_toArray, List.set_cons_zero, List.set_cons_succ]
  refine wpAnyH_take (i := 1) (oi := { dst := some 4, op := Go.Op.nilCheck (Go.Operand.tmp 3), type := 0, pos := "disk.go:115", after := #[{ on := 0, ground := Go.Ground.data }], guard := none }) (v := ?_) rfl (by kernel_rfl) (by kernel_rfl) (by kernel_rfl) (fun _ _ _ h => h) (Or.inl ⟨by rfl, ?_⟩) hSw ?_
  rotate_left
  · (intro W hW; obtain ⟨hq1, hq2, hq3, hq4⟩ := hW; go_simp; try with_reducible rfl)
  try simp only [Act.put, List.setIfInBounds_toArray, List.set_cons_zero, List.set_cons_succ]
  refine wpAnyH_take (i := 6) (oi := { dst := some 9, op := Go.Op.nilCheck (Go.Operand.tmp 8), type := 0, pos := "disk.go:115", after := #[{ on := 5, ground := Go.Ground.data }], guard := none }) (v := ?_) rfl (by kernel_rfl) (by kernel_rfl) (by kernel_rfl) (fun _ _ _ h => h) (Or.inl ⟨by rfl, ?_⟩) hSw ?_
  rotate_left
  · (intro W hW; obtain ⟨hq1, hq2, hq3, hq4⟩ := hW; go_simp; try with_reducible rfl)
  try simp only [Act.put, List.setIfInBounds_toArray, List.set_cons_zero, List.set_cons_succ]
  refine wpAnyH_take (i := 2) (oi := { dst := some 5, op := Go.Op.fieldAddr 67 (Go.Operand.tmp 4) 0, type := 0, pos := "disk.go:115", after := #[{ on := 1, ground := Go.Ground.data }], guard := none }) (v := ?_) rfl (by kernel_rfl) (by kernel_rfl) (by kernel_rfl) (fun _ _ _ h => h) (Or.inl ⟨by rfl, ?_⟩) hSw ?_
  rotate_left
  · (intro W hW; obtain ⟨hq1, hq2, hq3, hq4⟩ := hW; go_simp; try with_reducible rfl)
  try simp only [Act.put, List.setIfInBounds_toArray, List.set_cons_zero, List.set_cons_succ]
  refine wpAnyH_take (i := 7) (oi := { dst := some 10, op := Go.Op.fieldAddr 67 (Go.Operand.tmp 9) 0, type := 0, pos := "disk.go:115", after := #[{ on := 6, ground := Go.Ground.data }], guard := none }) (v := ?_) rfl (by kernel_rfl) (by kernel_rfl) (by kernel_rfl) (fun _ _ _ h => h) (Or.inl ⟨by rfl, ?_⟩) hSw ?_
  rotate_left
  · (intro W hW; obtain ⟨hq1, hq2, hq3, hq4⟩ := hW; go_simp; try with_reducible rfl)
  try simp only [Act.put, List.setIfInBounds_toArray, List.set_cons_zero, List.set_cons_succ]
  refine wpAnyH_take (i := 3) (oi := { dst := some 6, op := Go.Op.load 65 (Go.Operand.tmp 5), type := 65, pos := "disk.go:115", after := #[{ on := 2, ground := Go.Ground.data }], guard := none }) (v := ?_) rfl (by kernel_rfl) (by kernel_rfl) (by kernel_rfl) (fun _ _ _ h => h) (Or.inl ⟨by rfl, ?_⟩) hSw ?_
  rotate_left
  · (intro W hW; obtain ⟨hq1, hq2, hq3, hq4⟩ := hW; go_simp; try with_reducible rfl)
  try simp only [Act.put, List.setIfInBounds_toArray, List.set_cons_zero, List.set_cons_succ]
  refine wpAnyH_take (i := 8) (oi := { dst := some 11, op := Go.Op.load 65 (Go.Operand.tmp 10), type := 65, pos := "disk.go:115", after := #[{ on := 7, ground := Go.Ground.data }], guard := none }) (v := ?_) rfl (by kernel_rfl) (by kernel_rfl) (by kernel_rfl) (fun _ _ _ h => h) (Or.inl ⟨by rfl, ?_⟩) hSw ?_
  rotate_left
  · (intro W hW; obtain ⟨hq1, hq2, hq3, hq4⟩ := hW; go_simp; try with_reducible rfl)
  try simp only [Act.put, List.setIfInBounds_toArray, List.set_cons_zero, List.set_cons_succ]
  refine wpAnyH_ready (rs := [10]) (by kernel_rfl) (by simp) ?_
  refine AllReadyH.cons (o := { dst := some 13, op := Go.Op.lookup 65 (Go.Operand.tmp 11) (Go.Operand.tmp 12) false, type := 22, pos := "disk.go:115", after := #[{ on := 8, ground := Go.Ground.data }, { on := 9, ground := Go.Ground.data }], guard := none }) rfl (fun K hK => ?_) AllReadyH.nil
  rw [if_pos (by rfl)]
  go_simp
  refine hK.out _ _ ⟨e0, e1, e2, c0⟩ (fun hSw => ?_)
  clear hK
  try simp only [Act.put, List.setIfInBounds_toArray, List.set_cons_zero, List.set_cons_succ]
  refine wpAnyH_ready (rs := [12]) (by kernel_rfl) (by simp) ?_
  refine AllReadyH.cons (o := { dst := some 15, op := Go.Op.call { callee := Go.Callee.builtin Go.Builtin.append, args := #[Go.Operand.tmp 13, Go.Operand.tmp 14], argTypes := #[22, 22] }, type := 22, pos := "disk.go:115", after := #[{ on := 10, ground := Go.Ground.data }, { on := 11, ground := Go.Ground.data }], guard := none }) rfl (fun K hK => ?_) AllReadyH.nil
  rw [if_pos (by rfl)]
  refine wp_app2 (.tmp 13) (.tmp 14) 22 22 rfl base 5 (.int .u8 0) 1 1 infoU8 Try.underlying22 rfl (by decide) (.slice A n c) (.slice A2 n2 c2) n n2 (u8s xs) (u8s ys) rfl rfl ?_ ?_ ?_ ?_ ?_ ?_
  · exact OwnB.n (OwnB.chg (S := No) HO.out (Chg.refl No _).drew (fun _ _ x => x)) HL.out
  · exact Src.ofBytes Try.underlying22 (Bytes.no HB.out (Chg.refl No _).drew) HL2.out
  · omega
  · unfold maxLen; omega
  · exact hbase
  intro v' w1 hown hg hfrom
  have hc1 : Chg (fun i => some i = (Value.slice A n c).ownBlock) w w1 := ⟨hg.os, hg.tape, hg.output, hg.size, fun i hi hn => hg.block i hi hn⟩
  have hw1m := hc1.heap HM.out HMN
  have hup := update_same w1 m k (.slice A n c) v' hw1m
  refine hK.out _ _ ⟨hc1.cell e0 N0, hc1.cell e1 N1, hc1.cell e2 N2, hc1.cell c0 HDN⟩ (fun hSw => ?_)
  clear hK
  try simp only [Act.put, List.setIfInBounds_toArray, List.set_cons_zero, List.set_cons_succ]
  refine wpAnyH_ready (rs := [13]) (by kernel_rfl) (by simp) ?_
  refine AllReadyH.cons (o := { dst := none, op := Go.Op.mapUpdate 65 (Go.Operand.tmp 6) (Go.Operand.tmp 7) (Go.Operand.tmp 15), type := 0, pos := "disk.go:115", after := #[{ on := 3, ground := Go.Ground.data }, { on := 4, ground := Go.Ground.data }, { on := 12, ground := Go.Ground.data }, { on := 12, ground := Go.Ground.chain }, { on := 0, ground := Go.Ground.phase }, { on := 1, ground := Go.Ground.phase }, { on := 2, ground := Go.Ground.phase }, { on := 3, ground := Go.Ground.phase }, { on := 4, ground := Go.Ground.phase }, { on := 5, ground := Go.Ground.phase }, { on := 6, ground := Go.Ground.phase }, { on := 7, ground := Go.Ground.phase }, { on := 8, ground := Go.Ground.phase }, { on := 9, ground := Go.Ground.phase }, { on := 10, ground := Go.Ground.phase }, { on := 11, ground := Go.Ground.phase }, { on := 12, ground := Go.Ground.phase }], guard := none }) rfl (fun K hK => ?_) AllReadyH.nil
  rw [if_pos (by rfl)]
  go_simp
  refine hK.out _ _ ⟨(hc2 v' w1 hc1).cell e0 M0, (hc2 v' w1 hc1).cell e1 M1, (hc2 v' w1 hc1).cell e2 M2, (hc2 v' w1 hc1).cell c0 MD⟩ (fun hSw => ?_)
  clear hK
  try simp only [Act.put, List.setIfInBounds_toArray, List.set_cons_zero, List.set_cons_succ]
  refine wpAnyH_done (by kernel_rfl) ?_ _
  have hm2 : (w1.putObj m (mapObj (some (k, v')))).heap[m]? = some (mapObj (some (k, v'))) := by
    have hlt : m < w1.heap.size := (Array.getElem?_eq_some_iff.1 hw1m).1
    simp [World.putObj, hlt]
  have hd2 := (hc2 v' w1 hc1).heap HD.out MD
  have ho2 : OwnB (w1.putObj m (mapObj (some (k, v')))) base v' (xs ++ ys) := by
    have ho1 : OwnB w1 base v' (xs ++ ys) := .of hown (by rw [u8s_append])
    refine ho1.chg (S := One m) ⟨rfl, rfl, rfl, (grownBy_putObj' w1 m _).size, fun i hi hs => (grownBy_putObj' w1 m _).block i hi (fun e => hs (Option.some.inj e))⟩ (fun b hb hx => ?_)
    obtain ⟨cc, fz, hcc⟩ := OwnB.cells ho1 b hb
    have hx : b = m := hx
    rw [hx, hw1m] at hcc
    cases hcc
  have hc3 := hc2 v' w1 hc1
  clear hup hown hg
  go_wp2
  go_end0
  exact ⟨rfl, v', ⟨hd2, hm2⟩, ho2, hc3, From.ofApp hfrom⟩

set_option maxHeartbeats 1600000 in
theorem append_first (w : World) (base d m wr B0 B1 B2 : Nat) (k : ByteArray) (A2 : Option Addr) (n2 c2 : Nat) (ys : List UInt8) (h : DiskAt w d m wr none) (h0 : Boxed w B0 24 (.pointer (some ⟨d, 0, none⟩))) (h1 : Boxed w B1 9 (.string k)) (h2 : Boxed w B2 22 (.slice A2 n2 c2))
    (hb : Bytes w (.slice A2 n2 c2) ys) (hl2 : ys.length = n2) (hn : 0 + n2 ≤ 140737488355328) (hbase : base ≤ w.heap.size)  :
    Calls Try.prog 43 #[.pointer (some ⟨B0, 0, none⟩), .pointer (some ⟨B1, 0, none⟩), .pointer (some ⟨B2, 0, none⟩)] w fun e w' => e = .returned (.tuple #[]) ∧ ∃ v', DiskAt w' d m wr (some (k, v')) ∧ OwnB w' base v' ([] ++ ys) ∧ Chg (fun i => i = m ∨ some i = (Value.slice none 0 0).ownBlock) w w' ∧ From w (.slice none 0 0) v' := by
  have ho : OwnB w base (.slice none 0 0) [] := World.ownsRow_nil _ _ _ _
  have hl : ([] : List UInt8).length = 0 := rfl
  have HO := Lib.hid ho
  have HL := Lib.hid hl
  have HB := Lib.hid hb
  have HL2 := Lib.hid hl2
  have HM := Lib.hid h.2
  obtain ⟨c0, c1, c2', c3, c4⟩ := h.cells
  have e0 := h0.cell
  have e1 := h1.cell
  have e2 := h2.cell
  have hlk := look_none1 w m k h.2
  have hlkd := look_none1 w.drew m k h.2
  have mlt : m < w.heap.size := (Array.getElem?_eq_some_iff.1 h.2).1
  have HMN : some m ≠ (Value.slice none 0 0).ownBlock := by
    intro e
    obtain ⟨cc, fz, hcc⟩ := OwnB.cells ho m e.symm
    rw [h.2] at hcc
    cases hcc
  have HDN : some d ≠ (Value.slice none 0 0).ownBlock := by
    intro e
    obtain ⟨cc, fz, hcc⟩ := OwnB.cells ho d e.symm
    rw [h.1] at hcc
    cases hcc
  have hmd : d ≠ m := by rintro rfl; have := h.1.symm.trans h.2; unfold mapObj at this; cases this
  have HD := Lib.hid h.1
  have N0 : ¬ (some B0 = (Value.slice none 0 0).ownBlock) := h0.not_row (by decide) ho
  have N1 : ¬ (some B1 = (Value.slice none 0 0).ownBlock) := h1.not_row (by decide) ho
  have N2 : ¬ (some B2 = (Value.slice none 0 0).ownBlock) := h2.not_row (by decide) ho
  have M0 : ¬ (B0 = m ∨ some B0 = (Value.slice none 0 0).ownBlock) := by
    rintro (e | e)
    · rw [e] at h0; have := (show w.heap[m]? = _ from h0).symm.trans h.2; unfold mapObj at this; cases this
    · exact N0 e
  have M1 : ¬ (B1 = m ∨ some B1 = (Value.slice none 0 0).ownBlock) := by
    rintro (e | e)
    · rw [e] at h1; have := (show w.heap[m]? = _ from h1).symm.trans h.2; unfold mapObj at this; cases this
    · exact N1 e
  have M2 : ¬ (B2 = m ∨ some B2 = (Value.slice none 0 0).ownBlock) := by
    rintro (e | e)
    · rw [e] at h2; have := (show w.heap[m]? = _ from h2).symm.trans h.2; unfold mapObj at this; cases this
    · exact N2 e
  have MD : ¬ (d = m ∨ some d = (Value.slice none 0 0).ownBlock) := by rintro (e | e); exact hmd e; exact HDN e
  have hc2 : ∀ (v' : Value) (w1 : World), Chg (fun i => some i = (Value.slice none 0 0).ownBlock) w w1 → Chg (fun i => i = m ∨ some i = (Value.slice none 0 0).ownBlock) w (w1.putObj m (mapObj (some (k, v')))) := by
    intro v' w1 hc
    refine ⟨hc.os, hc.tape, hc.output, Nat.le_trans hc.size (grownBy_putObj' w1 m _).size, fun i hi hs => ?_⟩
    refine ((grownBy_putObj' w1 m _).block i (Nat.lt_of_lt_of_le hi hc.size) (fun e => hs (.inl (Option.some.inj e)))).trans (hc.block i hi (fun e => hs (.inr e)))
  clear ho hl hb hl2 h h0 h1 h2
  go_enter Try.func43, Try.ntmps43
  refine wp_region_held_drew (S := (fun W => W.cell? ⟨B0, 0, none⟩ = some (.pointer (some ⟨d, 0, none⟩)) ∧ W.cell? ⟨B1, 0, none⟩ = some (.string k) ∧ W.cell? ⟨B2, 0, none⟩ = some (.slice A2 n2 c2) ∧ W.cell? ⟨d, 0, none⟩ = some (.map (some m)))) (by kernel_rfl) ⟨e0, e1, e2, c0⟩ (fun hSw => ?_)
  refine wpAnyH_take (i := 0) (oi := { dst := some 3, op := Go.Op.load 24 (Go.Operand.tmp 0), type := 24, pos := "disk.go:115", after := #[], guard := none }) (v := ?_) rfl (by kernel_rfl) (by kernel_rfl) (by kernel_rfl) (fun _ _ _ h => h) (Or.inl ⟨by rfl, ?_⟩) hSw ?_
  rotate_left
  · (intro W hW; obtain ⟨hq1, hq2, hq3, hq4⟩ := hW; go_simp; try with_reducible rfl)
  try simp only [Act.put, List.setIfInBounds_toArray, List.set_cons_zero, List.set_cons_succ]
  refine wpAnyH_take (i := 4) (oi := { dst := some 7, op := Go.Op.load 9 (Go.Operand.tmp 1), type := 9, pos := "disk.go:115", after := #[], guard := none }) (v := ?_) rfl (by kernel_rfl) (by kernel_rfl) (by kernel_rfl) (fun _ _ _ h => h) (Or.inl ⟨by rfl, ?_⟩) hSw ?_
  rotate_left
  · (intro W hW; obtain ⟨hq1, hq2, hq3, hq4⟩ := hW; go_simp; try with_reducible rfl)
  try simp only [Act.put, List.setIfInBounds_toArray, List.set_cons_zero, List.set_cons_succ]
  refine wpAnyH_take (i := 5) (oi := { dst := some 8, op := Go.Op.load 24 (Go.Operand.tmp 0), type := 24, pos := "disk.go:115", after := #[], guard := none }) (v := ?_) rfl (by kernel_rfl) (by kernel_rfl) (by kernel_rfl) (fun _ _ _ h => h) (Or.inl ⟨by rfl, ?_⟩) hSw ?_
  rotate_left
  · (intro W hW; obtain ⟨hq1, hq2, hq3, hq4⟩ := hW; go_simp; try with_reducible rfl)
  try simp only [Act.put, List.setIfInBounds_toArray, List.set_cons_zero, List.set_cons_succ]
  refine wpAnyH_take (i := 9) (oi := { dst := some 12, op := Go.Op.load 9 (Go.Operand.tmp 1), type := 9, pos := "disk.go:115", after := #[], guard := none }) (v := ?_) rfl (by kernel_rfl) (by kernel_rfl) (by kernel_rfl) (fun _ _ _ h => h) (Or.inl ⟨by rfl, ?_⟩) hSw ?_
  rotate_left
  · (intro W hW; obtain ⟨hq1, hq2, hq3, hq4⟩ := hW; go_simp; try with_reducible rfl)
  try simp only [Act.put, List.setIfInBounds_toArray, List.set_cons_zero, List.set_cons_succ]
  refine wpAnyH_take (i := 11) (oi := { dst := some 14, op := Go.Op.load 22 (Go.Operand.tmp 2), type := 22, pos := "disk.go:115", after := #[], guard := none }) (v := ?_) rfl (by kernel_rfl) (by kernel_rfl) (by kernel_rfl) (fun _ _ _ h => h) (Or.inl ⟨by rfl, ?_⟩) hSw ?_
  rotate_left
  · (intro W hW; obtain ⟨hq1, hq2, hq3, hq4⟩ := hW; go_simp; try with_reducible rfl)
  try simp only [Act.put, List.setIfInBounds_toArray, List.set_cons_zero, List.set_cons_succ]
  refine wpAnyH_take (i := 1) (oi := { dst := some 4, op := Go.Op.nilCheck (Go.Operand.tmp 3), type := 0, pos := "disk.go:115", after := #[{ on := 0, ground := Go.Ground.data }], guard := none }) (v := ?_) rfl (by kernel_rfl) (by kernel_rfl) (by kernel_rfl) (fun _ _ _ h => h) (Or.inl ⟨by rfl, ?_⟩) hSw ?_
  rotate_left
  · (intro W hW; obtain ⟨hq1, hq2, hq3, hq4⟩ := hW; go_simp; try with_reducible rfl)
  try simp only [Act.put, List.setIfInBounds_toArray, List.set_cons_zero, List.set_cons_succ]
  refine wpAnyH_take (i := 6) (oi := { dst := some 9, op := Go.Op.nilCheck (Go.Operand.tmp 8), type := 0, pos := "disk.go:115", after := #[{ on := 5, ground := Go.Ground.data }], guard := none }) (v := ?_) rfl (by kernel_rfl) (by kernel_rfl) (by kernel_rfl) (fun _ _ _ h => h) (Or.inl ⟨by rfl, ?_⟩) hSw ?_
  rotate_left
  · (intro W hW; obtain ⟨hq1, hq2, hq3, hq4⟩ := hW; go_simp; try with_reducible rfl)
  try simp only [Act.put, List.setIfInBounds_toArray, List.set_cons_zero, List.set_cons_succ]
  refine wpAnyH_take (i := 2) (oi := { dst := some 5, op := Go.Op.fieldAddr 67 (Go.Operand.tmp 4) 0, type := 0, pos := "disk.go:115", after := #[{ on := 1, ground := Go.Ground.data }], guard := none }) (v := ?_) rfl (by kernel_rfl) (by kernel_rfl) (by kernel_rfl) (fun _ _ _ h => h) (Or.inl ⟨by rfl, ?_⟩) hSw ?_
  rotate_left
  · (intro W hW; obtain ⟨hq1, hq2, hq3, hq4⟩ := hW; go_simp; try with_reducible rfl)
  try simp only [Act.put, List.setIfInBounds_toArray, List.set_cons_zero, List.set_cons_succ]
  refine wpAnyH_take (i := 7) (oi := { dst := some 10, op := Go.Op.fieldAddr 67 (Go.Operand.tmp 9) 0, type := 0, pos := "disk.go:115", after := #[{ on := 6, ground := Go.Ground.data }], guard := none }) (v := ?_) rfl (by kernel_rfl) (by kernel_rfl) (by kernel_rfl) (fun _ _ _ h => h) (Or.inl ⟨by rfl, ?_⟩) hSw ?_
  rotate_left
  · (intro W hW; obtain ⟨hq1, hq2, hq3, hq4⟩ := hW; go_simp; try with_reducible rfl)
  try simp only [Act.put, List.setIfInBounds_toArray, List.set_cons_zero, List.set_cons_succ]
  refine wpAnyH_take (i := 3) (oi := { dst := some 6, op := Go.Op.load 65 (Go.Operand.tmp 5), type := 65, pos := "disk.go:115", after := #[{ on := 2, ground := Go.Ground.data }], guard := none }) (v := ?_) rfl (by kernel_rfl) (by kernel_rfl) (by kernel_rfl) (fun _ _ _ h => h) (Or.inl ⟨by rfl, ?_⟩) hSw ?_
  rotate_left
  · (intro W hW; obtain ⟨hq1, hq2, hq3, hq4⟩ := hW; go_simp; try with_reducible rfl)
  try simp only [Act.put, List.setIfInBounds_toArray, List.set_cons_zero, List.set_cons_succ]
  refine wpAnyH_take (i := 8) (oi := { dst := some 11, op := Go.Op.load 65 (Go.Operand.tmp 10), type := 65, pos := "disk.go:115", after := #[{ on := 7, ground := Go.Ground.data }], guard := none }) (v := ?_) rfl (by kernel_rfl) (by kernel_rfl) (by kernel_rfl) (fun _ _ _ h => h) (Or.inl ⟨by rfl, ?_⟩) hSw ?_
  rotate_left
  · (intro W hW; obtain ⟨hq1, hq2, hq3, hq4⟩ := hW; go_simp; try with_reducible rfl)
  try simp only [Act.put, List.setIfInBounds_toArray, List.set_cons_zero, List.set_cons_succ]
  refine wpAnyH_ready (rs := [10]) (by kernel_rfl) (by simp) ?_
  refine AllReadyH.cons (o := { dst := some 13, op := Go.Op.lookup 65 (Go.Operand.tmp 11) (Go.Operand.tmp 12) false, type := 22, pos := "disk.go:115", after := #[{ on := 8, ground := Go.Ground.data }, { on := 9, ground := Go.Ground.data }], guard := none }) rfl (fun K hK => ?_) AllReadyH.nil
  rw [if_pos (by rfl)]
  go_simp
  refine hK.out _ _ ⟨e0, e1, e2, c0⟩ (fun hSw => ?_)
  clear hK
  try simp only [Act.put, List.setIfInBounds_toArray, List.set_cons_zero, List.set_cons_succ]
  refine wpAnyH_ready (rs := [12]) (by kernel_rfl) (by simp) ?_
  refine AllReadyH.cons (o := { dst := some 15, op := Go.Op.call { callee := Go.Callee.builtin Go.Builtin.append, args := #[Go.Operand.tmp 13, Go.Operand.tmp 14], argTypes := #[22, 22] }, type := 22, pos := "disk.go:115", after := #[{ on := 10, ground := Go.Ground.data }, { on := 11, ground := Go.Ground.data }], guard := none }) rfl (fun K hK => ?_) AllReadyH.nil
  rw [if_pos (by rfl)]
  refine wp_app2 (.tmp 13) (.tmp 14) 22 22 rfl base 5 (.int .u8 0) 1 1 infoU8 Try.underlying22 rfl (by decide) (.slice none 0 0) (.slice A2 n2 c2) 0 n2 (u8s []) (u8s ys) rfl rfl ?_ ?_ ?_ ?_ ?_ ?_
  · exact OwnB.n (OwnB.chg (S := No) HO.out (Chg.refl No _).drew (fun _ _ x => x)) HL.out
  · exact Src.ofBytes Try.underlying22 (Bytes.no HB.out (Chg.refl No _).drew) HL2.out
  · omega
  · unfold maxLen; omega
  · exact hbase
  intro v' w1 hown hg hfrom
  have hc1 : Chg (fun i => some i = (Value.slice none 0 0).ownBlock) w w1 := ⟨hg.os, hg.tape, hg.output, hg.size, fun i hi hn => hg.block i hi hn⟩
  have hw1m := hc1.heap HM.out HMN
  have hup := update_none w1 m k v' hw1m
  refine hK.out _ _ ⟨hc1.cell e0 N0, hc1.cell e1 N1, hc1.cell e2 N2, hc1.cell c0 HDN⟩ (fun hSw => ?_)
  clear hK
  try simp only [Act.put, List.setIfInBounds_toArray, List.set_cons_zero, List.set_cons_succ]
  refine wpAnyH_ready (rs := [13]) (by kernel_rfl) (by simp) ?_
  refine AllReadyH.cons (o := { dst := none, op := Go.Op.mapUpdate 65 (Go.Operand.tmp 6) (Go.Operand.tmp 7) (Go.Operand.tmp 15), type := 0, pos := "disk.go:115", after := #[{ on := 3, ground := Go.Ground.data }, { on := 4, ground := Go.Ground.data }, { on := 12, ground := Go.Ground.data }, { on := 12, ground := Go.Ground.chain }, { on := 0, ground := Go.Ground.phase }, { on := 1, ground := Go.Ground.phase }, { on := 2, ground := Go.Ground.phase }, { on := 3, ground := Go.Ground.phase }, { on := 4, ground := Go.Ground.phase }, { on := 5, ground := Go.Ground.phase }, { on := 6, ground := Go.Ground.phase }, { on := 7, ground := Go.Ground.phase }, { on := 8, ground := Go.Ground.phase }, { on := 9, ground := Go.Ground.phase }, { on := 10, ground := Go.Ground.phase }, { on := 11, ground := Go.Ground.phase }, { on := 12, ground := Go.Ground.phase }], guard := none }) rfl (fun K hK => ?_) AllReadyH.nil
  rw [if_pos (by rfl)]
  go_simp
  refine hK.out _ _ ⟨(hc2 v' w1 hc1).cell e0 M0, (hc2 v' w1 hc1).cell e1 M1, (hc2 v' w1 hc1).cell e2 M2, (hc2 v' w1 hc1).cell c0 MD⟩ (fun hSw => ?_)
  clear hK
  try simp only [Act.put, List.setIfInBounds_toArray, List.set_cons_zero, List.set_cons_succ]
  refine wpAnyH_done (by kernel_rfl) ?_ _
  have hm2 : (w1.putObj m (mapObj (some (k, v')))).heap[m]? = some (mapObj (some (k, v'))) := by
    have hlt : m < w1.heap.size := (Array.getElem?_eq_some_iff.1 hw1m).1
    simp [World.putObj, hlt]
  have hd2 := (hc2 v' w1 hc1).heap HD.out MD
  have ho2 : OwnB (w1.putObj m (mapObj (some (k, v')))) base v' ([] ++ ys) := by
    have ho1 : OwnB w1 base v' ([] ++ ys) := .of hown (by rw [u8s_append])
    refine ho1.chg (S := One m) ⟨rfl, rfl, rfl, (grownBy_putObj' w1 m _).size, fun i hi hs => (grownBy_putObj' w1 m _).block i hi (fun e => hs (Option.some.inj e))⟩ (fun b hb hx => ?_)
    obtain ⟨cc, fz, hcc⟩ := OwnB.cells ho1 b hb
    have hx : b = m := hx
    rw [hx, hw1m] at hcc
    cases hcc
  have hc3 := hc2 v' w1 hc1
  clear hup hown hg
  go_wp2
  go_end0
  exact ⟨rfl, v', ⟨hd2, hm2⟩, ho2, hc3, From.ofApp hfrom⟩
end Go.Proofs.Ytbbfjnfmfigcfaa
