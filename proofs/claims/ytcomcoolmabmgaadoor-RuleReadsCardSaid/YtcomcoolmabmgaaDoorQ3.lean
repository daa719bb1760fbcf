/-
  byHex, digit.
-/
import Derived.Test.YtcomcoolmabmgaaDoorQ2
import Derived.Test.YtcomcoolmabmgaaDoorRep3
import Derived.Test.YtcomcoolmabmgaaDoorNum
import Derived.Deep.RegionHeld3
namespace Go.Proofs.YtcomcoolmabmgaaDoor
open Go.RowKit
set_option linter.unusedVariables false
set_option linter.unusedSimpArgs false

/-- A digit. -/
def hx (d : Nat) : UInt8 := UInt8.ofNat (if d < 10 then 48 + d else 87 + d)
def hexs (bs : List UInt8) : List UInt8 := bs.flatMap fun b => [92, 120, hx (b.toNat / 16), hx (b.toNat % 16)]
theorem hx_get : ∀ (q : Nat) (h : q < 16), ((⟨#[48, 49, 50, 51, 52, 53, 54, 55, 56, 57, 97, 98, 99, 100, 101, 102]⟩ : ByteArray)[q]'h).toNat = (hx q).toNat := by decide
theorem dig {u : Nat} (hu : u < 256) (hq : 0 ≤ (u : Int) / 16 ∧ (u : Int) / 16 < 16) : (((⟨#[48, 49, 50, 51, 52, 53, 54, 55, 56, 57, 97, 98, 99, 100, 101, 102]⟩ : ByteArray)[((u : Int) / 16).toNat]'(by show _ < 16; omega)).toNat : Int) = ((hx (u / 16)).toNat : Int) := by
  have e : ((u : Int) / 16).toNat = u / 16 := by omega
  rw [hx_get ((u : Int) / 16).toNat (by omega), e]
theorem dig2 {u : Nat} (hu : u < 256) (hq : 0 ≤ (u : Int) % 16 ∧ (u : Int) % 16 < 16) : (((⟨#[48, 49, 50, 51, 52, 53, 54, 55, 56, 57, 97, 98, 99, 100, 101, 102]⟩ : ByteArray)[((u : Int) % 16).toNat]'(by show _ < 16; omega)).toNat : Int) = ((hx (u % 16)).toNat : Int) := by
  have e : ((u : Int) % 16).toNat = u % 16 := by omega
  rw [hx_get ((u : Int) % 16).toNat (by omega), e]
theorem and15_u8 (u : Nat) (h : u < 256) : bits .and .u8 (u : Int) 15 = ((u % 16 : Nat) : Int) := by
  have := bits_mask .u8 8 (by decide) wraps_u8 4 (by decide) (u : Int) (by omega) (by omega)
  simp at this
  rw [this]; omega

set_option maxRecDepth 100000 in
set_option maxHeartbeats 1600000 in
theorem byhex_calls (w : World) (base : Nat) (A : Option Addr) (n c : Nat) (bs : List UInt8) (ho : OwnB w base (.slice A n c) bs) (hl : bs.length = n) (hb : base ≤ w.heap.size) (s : ByteArray) (hn : n + 4 * s.size ≤ 140737488355328) :
    Calls Tryd.prog 41 #[.slice A n c, .string s] w fun e w' => ∃ v, e = .returned v ∧ OwnB w' base v (bs ++ hexs s.data.toList) ∧ Chg (Rows base w) w w' := by
  have HO := Lib.hid ho
  have HL := Lib.hid hl
  have HS := Lib.hid (size_list s)
  clear ho hl
  go_enter Tryd.func41, Tryd.ntmps41
  go_wp2
  go_loopw [0, 5] (fun v i wr => ∃ (k : Nat) (A : Option Addr) (m c : Nat) (ys : List UInt8), k ≤ s.size ∧ i = .int .i64 (k : Int) ∧ v = .slice A m c ∧ m = n + 4 * k ∧ Hid (ys = bs ++ hexs (s.data.toList.take k)) ∧ Hid (ys.length = m) ∧ Hid (OwnB wr base (.slice A m c) ys) ∧ base ≤ wr.heap.size ∧ Hid (Chg (Rows base w) w wr)) (fun _ i _ => s.size - (intOf i).toNat)
  case atStart => exact ⟨0, A, n, c, bs, by omega, rfl, rfl, by omega, by simp [Hid, hexs], HL.out, HO.out, hb, Chg.refl _ _⟩
  case round =>
    clear HO HL
    obtain ⟨k, A, m, c, ys, hk, rfl, rfl, hm, HY, HL, HO, hb, HC⟩ := hrel
    by_cases hlt : k < s.size
    · have i0 : (0 : Int) ≤ (k : Int) := by omega
      have i1 : (k : Int) < (s.size : Int) := by omega
      have hm4 : m + 4 ≤ 140737488355328 := by omega
      have HM := Lib.hid hm
      have hmb : n ≤ m := by omega
      clear hm
      have hu : (s[k]'hlt).toNat < 256 := (s[k]'hlt).toNat_lt
      have HT : Hid (s.data.toList.take (k + 1) = s.data.toList.take k ++ [s[k]'hlt]) := by
        rw [Hid, List.take_succ_eq_append_getElem (by rw [HS.out]; exact hlt)]
        rfl
      have ha := and15_u8 _ hu
      have hq : 0 ≤ ((s[k]'hlt).toNat : Int) / 16 ∧ ((s[k]'hlt).toNat : Int) / 16 < 16 := by omega
      have hr : 0 ≤ ((s[k]'hlt).toNat : Int) % 16 ∧ ((s[k]'hlt).toNat : Int) % 16 < 16 := by omega
      go_wp2
      refine wp_region_held_drew (S := fun _ => True) (by kernel_rfl) trivial (fun hSw => ?_)
      refine wpAnyH_take (i := 0) (oi := { dst := some 12, op := Go.Op.move (Go.Operand.tmp 0), type := 57, pos := "quote.go:37", after := #[], guard := none }) (v := ?_) rfl (by kernel_rfl) (by kernel_rfl) (by kernel_rfl) (fun _ _ _ h => h) (Or.inl ⟨by rfl, ?_⟩) hSw ?_
      rotate_left
      · (intro W hW; (try dsimp only at hW); go_simp; try with_reducible rfl)
      try simp only [Act.put, List.setIfInBounds_toArray, List.set_cons_zero, List.set_cons_succ]
      refine wpAnyH_take (i := 1) (oi := { dst := some 13, op := Go.Op.move (Go.Operand.tmp 1), type := 9, pos := "quote.go:37", after := #[], guard := none }) (v := ?_) rfl (by kernel_rfl) (by kernel_rfl) (by kernel_rfl) (fun _ _ _ h => h) (Or.inl ⟨by rfl, ?_⟩) hSw ?_
      rotate_left
      · (intro W hW; (try dsimp only at hW); go_simp; try with_reducible rfl)
      try simp only [Act.put, List.setIfInBounds_toArray, List.set_cons_zero, List.set_cons_succ]
      refine wpAnyH_take (i := 2) (oi := { dst := some 14, op := Go.Op.move (Go.Operand.tmp 5), type := 3, pos := "quote.go:37", after := #[], guard := none }) (v := ?_) rfl (by kernel_rfl) (by kernel_rfl) (by kernel_rfl) (fun _ _ _ h => h) (Or.inl ⟨by rfl, ?_⟩) hSw ?_
      rotate_left
      · (intro W hW; (try dsimp only at hW); go_simp; try with_reducible rfl)
      try simp only [Act.put, List.setIfInBounds_toArray, List.set_cons_zero, List.set_cons_succ]
      refine wpAnyH_take (i := 3) (oi := { dst := some 15, op := Go.Op.index 9 (Go.Operand.tmp 13) (Go.Operand.tmp 14), type := 5, pos := "quote.go:37", after := #[{ on := 1, ground := Go.Ground.data }, { on := 2, ground := Go.Ground.data }], guard := none }) (v := ?_) rfl (by kernel_rfl) (by kernel_rfl) (by kernel_rfl) (fun _ _ _ h => h) (Or.inl ⟨by rfl, ?_⟩) hSw ?_
      rotate_left
      · (intro W hW; (try dsimp only at hW); go_simp; try with_reducible rfl)
      try simp only [Act.put, List.setIfInBounds_toArray, List.set_cons_zero, List.set_cons_succ]
      refine wpAnyH_take (i := 4) (oi := { dst := some 16, op := Go.Op.binOp Go.BinOp.shr 5 (Go.Operand.tmp 15) (Go.Operand.const (Go.Value.int Go.IntKind.u64 4)) 79, type := 5, pos := "quote.go:37", after := #[{ on := 3, ground := Go.Ground.data }], guard := none }) (v := ?_) rfl (by kernel_rfl) (by kernel_rfl) (by kernel_rfl) (fun _ _ _ h => h) (Or.inl ⟨by rfl, ?_⟩) hSw ?_
      rotate_left
      · (intro W hW; (try dsimp only at hW); go_simp; try with_reducible rfl)
      try simp only [Act.put, List.setIfInBounds_toArray, List.set_cons_zero, List.set_cons_succ]
      refine wpAnyH_take (i := 5) (oi := { dst := some 17, op := Go.Op.index 9 (Go.Operand.const (Go.Value.string { data := #[48, 49, 50, 51, 52, 53, 54, 55, 56, 57, 97, 98, 99, 100, 101, 102] })) (Go.Operand.tmp 16), type := 5, pos := "quote.go:37", after := #[{ on := 4, ground := Go.Ground.data }], guard := none }) (v := ?_) rfl (by kernel_rfl) (by kernel_rfl) (by kernel_rfl) (fun _ _ _ h => h) (Or.inl ⟨by rfl, ?_⟩) hSw ?_
      rotate_left
      · (intro W hW; (try dsimp only at hW); go_simp; try with_reducible rfl)
      try simp only [Act.put, List.setIfInBounds_toArray, List.set_cons_zero, List.set_cons_succ]
      refine wpAnyH_take (i := 6) (oi := { dst := some 18, op := Go.Op.move (Go.Operand.tmp 1), type := 9, pos := "quote.go:37", after := #[], guard := none }) (v := ?_) rfl (by kernel_rfl) (by kernel_rfl) (by kernel_rfl) (fun _ _ _ h => h) (Or.inl ⟨by rfl, ?_⟩) hSw ?_
      rotate_left
      · (intro W hW; (try dsimp only at hW); go_simp; try with_reducible rfl)
      try simp only [Act.put, List.setIfInBounds_toArray, List.set_cons_zero, List.set_cons_succ]
      refine wpAnyH_take (i := 7) (oi := { dst := some 19, op := Go.Op.move (Go.Operand.tmp 5), type := 3, pos := "quote.go:37", after := #[], guard := none }) (v := ?_) rfl (by kernel_rfl) (by kernel_rfl) (by kernel_rfl) (fun _ _ _ h => h) (Or.inl ⟨by rfl, ?_⟩) hSw ?_
      rotate_left
      · (intro W hW; (try dsimp only at hW); go_simp; try with_reducible rfl)
      try simp only [Act.put, List.setIfInBounds_toArray, List.set_cons_zero, List.set_cons_succ]
      refine wpAnyH_take (i := 8) (oi := { dst := some 20, op := Go.Op.index 9 (Go.Operand.tmp 18) (Go.Operand.tmp 19), type := 5, pos := "quote.go:37", after := #[{ on := 6, ground := Go.Ground.data }, { on := 7, ground := Go.Ground.data }], guard := none }) (v := ?_) rfl (by kernel_rfl) (by kernel_rfl) (by kernel_rfl) (fun _ _ _ h => h) (Or.inl ⟨by rfl, ?_⟩) hSw ?_
      rotate_left
      · (intro W hW; (try dsimp only at hW); go_simp; try with_reducible rfl)
      try simp only [Act.put, List.setIfInBounds_toArray, List.set_cons_zero, List.set_cons_succ]
      refine wpAnyH_take (i := 9) (oi := { dst := some 21, op := Go.Op.binOp Go.BinOp.and 5 (Go.Operand.tmp 20) (Go.Operand.const (Go.Value.int Go.IntKind.u8 15)) 5, type := 5, pos := "quote.go:37", after := #[{ on := 8, ground := Go.Ground.data }], guard := none }) (v := ?_) rfl (by kernel_rfl) (by kernel_rfl) (by kernel_rfl) (fun _ _ _ h => h) (Or.inl ⟨by rfl, ?_⟩) hSw ?_
      rotate_left
      · (intro W hW; (try dsimp only at hW); go_simp; try with_reducible rfl)
      try simp only [Act.put, List.setIfInBounds_toArray, List.set_cons_zero, List.set_cons_succ]
      refine wpAnyH_take (i := 10) (oi := { dst := some 22, op := Go.Op.index 9 (Go.Operand.const (Go.Value.string { data := #[48, 49, 50, 51, 52, 53, 54, 55, 56, 57, 97, 98, 99, 100, 101, 102] })) (Go.Operand.tmp 21), type := 5, pos := "quote.go:37", after := #[{ on := 9, ground := Go.Ground.data }], guard := none }) (v := ?_) rfl (by kernel_rfl) (by kernel_rfl) (by kernel_rfl) (fun _ _ _ h => h) (Or.inl ⟨by rfl, ?_⟩) hSw ?_
      rotate_left
      · (intro W hW; (try dsimp only at hW); go_simp; try with_reducible rfl)
      try simp only [Act.put, List.setIfInBounds_toArray, List.set_cons_zero, List.set_cons_succ]
      refine wpAnyH_ready (rs := [11]) (by kernel_rfl) (by simp) ?_
      refine AllReadyH.cons (o := { dst := some 23, op := Go.Op.buildSlice 57 4 #[(0, Go.Operand.const (Go.Value.int Go.IntKind.u8 92)), (1, Go.Operand.const (Go.Value.int Go.IntKind.u8 120)), (2, Go.Operand.tmp 17), (3, Go.Operand.tmp 22)], type := 57, pos := "quote.go:37", after := #[{ on := 5, ground := Go.Ground.data }, { on := 10, ground := Go.Ground.data }], guard := none }) rfl (fun K hK => ?_) AllReadyH.nil
      rw [if_pos (by rfl)]
      go_simp
      refine hK.out _ _ trivial (fun hSw => ?_)
      clear hK
      try simp only [Act.put, List.setIfInBounds_toArray, List.set_cons_zero, List.set_cons_succ]
      refine wpAnyH_ready (rs := [12]) (by kernel_rfl) (by simp) ?_
      refine AllReadyH.cons (o := { dst := some 24, op := Go.Op.call { callee := Go.Callee.builtin Go.Builtin.append, args := #[Go.Operand.tmp 12, Go.Operand.tmp 23], argTypes := #[57, 57] }, type := 57, pos := "quote.go:37", after := #[{ on := 0, ground := Go.Ground.data }, { on := 11, ground := Go.Ground.data }], guard := none }) rfl (fun K hK => ?_) AllReadyH.nil
      rw [if_pos (by rfl)]
      refine wp_app (.tmp 12) (.tmp 23) 57 57 rfl base 5 (.int .u8 0) 1 1 infoU8 Tryd.underlying57 rfl (by decide) (.slice A m c) (.slice (some ⟨wr.heap.size, 0, none⟩) 4 4) m 4 (u8s ys) (u8s [92, 120, hx ((s[k]'hlt).toNat / 16), hx ((s[k]'hlt).toNat % 16)]) rfl rfl ?own ?src ?b1 ?b2 ?b3 ?_
      · (have h0 := HO.out.chg (((Chg.refl No wr).alloc (.cells #[.int .u8 92, .int .u8 120, .int .u8 (((⟨#[48, 49, 50, 51, 52, 53, 54, 55, 56, 57, 97, 98, 99, 100, 101, 102]⟩ : ByteArray)[(((s[k]'hlt).toNat : Int) / 16).toNat]'(by show _ < 16; omega)).toNat : Int), .int .u8 (((⟨#[48, 49, 50, 51, 52, 53, 54, 55, 56, 57, 97, 98, 99, 100, 101, 102]⟩ : ByteArray)[(((s[k]'hlt).toNat : Int) % 16).toNat]'(by show _ < 16; omega)).toNat : Int)] 5)).drew) (fun _ _ h => h); unfold OwnB at h0; rw [HL.out] at h0; exact h0)
      · exact Src.four Tryd.underlying57 _ _ _ _ _ (Chg.refl No _).drew (by rw [dig hu hq, dig2 hu hr]; rfl) (u8s_one _)
      · omega
      · unfold maxLen; omega
      · simp; omega
      intro v' w' hown hg
      refine hK.out _ _ trivial (fun hSw => ?_)
      clear hK
      try simp only [Act.put, List.setIfInBounds_toArray, List.set_cons_zero, List.set_cons_succ]
      refine wpAnyH_ready (rs := [13]) (by kernel_rfl) (by simp) ?_
      refine AllReadyH.cons (o := { dst := some 0, op := Go.Op.assign (Go.Operand.tmp 24), type := 57, pos := "quote.go:37", after := #[{ on := 12, ground := Go.Ground.data }, { on := 12, ground := Go.Ground.chain }, { on := 0, ground := Go.Ground.phase }, { on := 1, ground := Go.Ground.phase }, { on := 2, ground := Go.Ground.phase }, { on := 3, ground := Go.Ground.phase }, { on := 4, ground := Go.Ground.phase }, { on := 5, ground := Go.Ground.phase }, { on := 6, ground := Go.Ground.phase }, { on := 7, ground := Go.Ground.phase }, { on := 8, ground := Go.Ground.phase }, { on := 9, ground := Go.Ground.phase }, { on := 10, ground := Go.Ground.phase }, { on := 11, ground := Go.Ground.phase }, { on := 12, ground := Go.Ground.phase }], guard := none }) rfl (fun K hK => ?_) AllReadyH.nil
      rw [if_pos (by rfl)]
      go_simp
      refine hK.out _ _ trivial (fun hSw => ?_)
      clear hK
      try simp only [Act.put, List.setIfInBounds_toArray, List.set_cons_zero, List.set_cons_succ]
      refine wpAnyH_done (by kernel_rfl) ?_ _

      have hown' : OwnB w' base v' (ys ++ [92, 120, hx ((s[k]'hlt).toNat / 16), hx ((s[k]'hlt).toNat % 16)]) := .of hown (by rw [u8s_append])
      obtain ⟨A', c', hv', -, -⟩ := hown'.bytes.form
      subst hv'
      have HCN : Hid (Chg (Rows base w) w w') := Chg.rows ((HC.out.alloc _).drew) (HO.out.chg (((Chg.refl No wr).alloc _).drew) (fun _ _ h => h)) hg
      have hbz : base ≤ w'.heap.size := Nat.le_trans hb (Chg.ofGrown (S := fun _ => True) hg (fun _ _ => trivial) |> fun h => by have := h.size; simp at this; omega)
      have HOW := Lib.hid hown'
      clear hown hown' hg
      go_wp2
      go_roundw
      case rel =>
        refine ⟨k + 1, _, _, _, _, hlt, by go_num, rfl, ?_, ?_, rfl, HOW.out, hbz, HCN.out⟩
        · have := HL.out; have := HM.out; simp only [List.length_append, List.length_cons, List.length_nil]; omega
        · rw [Hid, HT.out, HY.out]; simp [hexs]
      case measure => simp [intOf]; omega
    · have hks : k = s.size := by omega
      have HT : Hid (s.data.toList.take k = s.data.toList) := by rw [Hid]; exact List.take_of_length_le (by rw [HS.out]; omega)
      clear hm
      go_wp2
      go_ret
      exact ⟨_, rfl, by rw [← HT.out, ← HY.out]; exact HO.out, HC.out⟩
end Go.Proofs.YtcomcoolmabmgaaDoor

