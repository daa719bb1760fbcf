/-
  Append that is refused: too long a payload, a full file.
-/
import Derived.Test.YtbbfjnfmfigcfaaJ14
import Derived.Deep.RegionHeld3
namespace Go.Proofs.Ytbbfjnfmfigcfaa
open Go.RowKit Go.Shelf
set_option linter.unusedVariables false
set_option linter.unusedSimpArgs false
set_option maxRecDepth 100000

theorem jappend_over (w : World) (S : Nat → Prop) (base j d m nw : Nat) (k : ByteArray) (th : Bool) (ps : List (List UInt8)) (A2 : Option Addr) (n2 c2 : Nat) (h : JD w S base j d m nw k th ps) (hn2 : 262144 < n2) :
    Calls Try.prog 17 #[.pointer (some ⟨j, 0, none⟩), .slice A2 n2 c2] w fun e w' => e = .returned (.int .i64 3) ∧ w' = w := by
  obtain ⟨A, n, c, AP, np, cp, AF, nf, cf, h1, h2, h3, h4, h5, h6, h7, h8, h9, h10, h11, h12, h13, h14, h15, h16, h17, h18⟩ := h
  have c5 := h1.c5
  have hng2 : (262144 : Int) < (n2 : Int) := by omega
  go_enter Try.func17, Try.ntmps17
  go_wp2
  go_ret
  exact ⟨rfl, rfl⟩

set_option maxHeartbeats 3200000 in
theorem jappend_full (w : World) (S : Nat → Prop) (base j d m nw : Nat) (k : ByteArray) (hmay : ∀ w, Calls Try.prog 40 #[.string k] w fun e w' => e = .returned (.bool true) ∧ Chg No w w') (ps : List (List UInt8)) (A2 : Option Addr) (n2 c2 : Nat) (p : List UInt8)
    (h : JD w S base j d m nw k true ps) (hb : Bytes w (.slice A2 n2 c2) p) (hl2 : p.length = n2) (hn2 : n2 ≤ 262144) (hle : (encF ps).length ≤ 4194304) (hsum : 4194304 < (encF ps).length + (recF p).length) :
    Calls Try.prog 17 #[.pointer (some ⟨j, 0, none⟩), .slice A2 n2 c2] w fun e w' => e = .returned (.int .i64 3) ∧ JD w' S base j d m nw k true ps ∧ Chg S w w' := by
  obtain ⟨A, n, c, AP, np, cp, AF, nf, cf, h1, h2, h3, h4, h5, h6, h7, h8, h9, h10, h11, h12, h13, h14, h15, h16, h17, h18⟩ := h
  have c5 := h1.c5
  have HJ := Lib.hid h1
  have HD : Hid (DiskAt w d m nw (some (k, .slice AF nf cf))) := h2
  have HO := Lib.hid h3
  have HP := Lib.hid h4
  have HF := Lib.hid h5
  have HB := Lib.hid hb
  have HL := Lib.hid h6
  have HLP := Lib.hid h7
  have HLF := Lib.hid h8
  have HL2 := Lib.hid hl2
  have HTH := Lib.hid h9
  have hng2 : ¬ ((262144 : Int) < (n2 : Int)) := by omega
  clear h1 h2 h3 h4 h5 h6 h7 h8 hb hl2 h9
  go_enter Try.func17, Try.ntmps17
  go_wp2_with fail
  refine (record_calls w A2 n2 c2 p HB.out HL2.out (by omega)).mono ?_
  rintro e w1 ⟨v1, rfl, ho1, hc1⟩
  obtain ⟨A1, n1, c1, rfl, HL1, HO1⟩ := ho1.form
  have HC1 := Lib.hid hc1
  have e0 := hc1.cell HJ.out.c0 (fun x => x)
  have e1 := hc1.cell HJ.out.c1 (fun x => x)
  clear ho1 hc1 c5
  have hn1a : nf ≤ 4194304 := by have := HLF.out; omega
  have hn1b : 4194304 < nf + n1 := by have := HLF.out; have := HL1.out; omega
  clear hsum hle
  go_wp2_with fail
  refine wp_region_held_drew (S := (fun W => W.cell? ⟨j, 0, none⟩ = some (.pointer (some ⟨d, 0, none⟩)) ∧ W.cell? ⟨j, 1, none⟩ = some (.string k))) (by kernel_rfl) ⟨e0, e1⟩ (fun hSw => ?_)
  refine wpAnyH_take (i := 0) (oi := { dst := some 21, op := Go.Op.move (Go.Operand.tmp 0), type := 30, pos := "journal.go:82", after := #[], guard := none }) (v := ?_) rfl (by kernel_rfl) (by kernel_rfl) (by kernel_rfl) (fun _ _ _ h => h) (Or.inl ⟨by rfl, ?_⟩) hSw ?_
  rotate_left
  · (intro W hW; obtain ⟨hq1, hq2⟩ := hW; go_simp; try with_reducible rfl)
  try simp only [Act.put, List.setIfInBounds_toArray, List.set_cons_zero, List.set_cons_succ]
  refine wpAnyH_take (i := 1) (oi := { dst := some 22, op := Go.Op.nilCheck (Go.Operand.tmp 21), type := 0, pos := "journal.go:82", after := #[{ on := 0, ground := Go.Ground.data }], guard := none }) (v := ?_) rfl (by kernel_rfl) (by kernel_rfl) (by kernel_rfl) (fun _ _ _ h => h) (Or.inl ⟨by rfl, ?_⟩) hSw ?_
  rotate_left
  · (intro W hW; obtain ⟨hq1, hq2⟩ := hW; go_simp; try with_reducible rfl)
  try simp only [Act.put, List.setIfInBounds_toArray, List.set_cons_zero, List.set_cons_succ]
  refine wpAnyH_take (i := 2) (oi := { dst := some 23, op := Go.Op.fieldAddr 55 (Go.Operand.tmp 22) 0, type := 0, pos := "journal.go:82", after := #[{ on := 1, ground := Go.Ground.data }], guard := none }) (v := ?_) rfl (by kernel_rfl) (by kernel_rfl) (by kernel_rfl) (fun _ _ _ h => h) (Or.inl ⟨by rfl, ?_⟩) hSw ?_
  rotate_left
  · (intro W hW; obtain ⟨hq1, hq2⟩ := hW; go_simp; try with_reducible rfl)
  try simp only [Act.put, List.setIfInBounds_toArray, List.set_cons_zero, List.set_cons_succ]
  refine wpAnyH_take (i := 3) (oi := { dst := some 24, op := Go.Op.load 24 (Go.Operand.tmp 23), type := 24, pos := "journal.go:82", after := #[{ on := 2, ground := Go.Ground.data }], guard := none }) (v := ?_) rfl (by kernel_rfl) (by kernel_rfl) (by kernel_rfl) (fun _ _ _ h => h) (Or.inl ⟨by rfl, ?_⟩) hSw ?_
  rotate_left
  · (intro W hW; obtain ⟨hq1, hq2⟩ := hW; go_simp; try with_reducible rfl)
  try simp only [Act.put, List.setIfInBounds_toArray, List.set_cons_zero, List.set_cons_succ]
  refine wpAnyH_take (i := 4) (oi := { dst := some 25, op := Go.Op.move (Go.Operand.tmp 0), type := 30, pos := "journal.go:82", after := #[], guard := none }) (v := ?_) rfl (by kernel_rfl) (by kernel_rfl) (by kernel_rfl) (fun _ _ _ h => h) (Or.inl ⟨by rfl, ?_⟩) hSw ?_
  rotate_left
  · (intro W hW; obtain ⟨hq1, hq2⟩ := hW; go_simp; try with_reducible rfl)
  try simp only [Act.put, List.setIfInBounds_toArray, List.set_cons_zero, List.set_cons_succ]
  refine wpAnyH_take (i := 5) (oi := { dst := some 26, op := Go.Op.nilCheck (Go.Operand.tmp 25), type := 0, pos := "journal.go:82", after := #[{ on := 4, ground := Go.Ground.data }], guard := none }) (v := ?_) rfl (by kernel_rfl) (by kernel_rfl) (by kernel_rfl) (fun _ _ _ h => h) (Or.inl ⟨by rfl, ?_⟩) hSw ?_
  rotate_left
  · (intro W hW; obtain ⟨hq1, hq2⟩ := hW; go_simp; try with_reducible rfl)
  try simp only [Act.put, List.setIfInBounds_toArray, List.set_cons_zero, List.set_cons_succ]
  refine wpAnyH_take (i := 6) (oi := { dst := some 27, op := Go.Op.fieldAddr 55 (Go.Operand.tmp 26) 1, type := 0, pos := "journal.go:82", after := #[{ on := 5, ground := Go.Ground.data }], guard := none }) (v := ?_) rfl (by kernel_rfl) (by kernel_rfl) (by kernel_rfl) (fun _ _ _ h => h) (Or.inl ⟨by rfl, ?_⟩) hSw ?_
  rotate_left
  · (intro W hW; obtain ⟨hq1, hq2⟩ := hW; go_simp; try with_reducible rfl)
  try simp only [Act.put, List.setIfInBounds_toArray, List.set_cons_zero, List.set_cons_succ]
  refine wpAnyH_take (i := 7) (oi := { dst := some 28, op := Go.Op.load 9 (Go.Operand.tmp 27), type := 9, pos := "journal.go:82", after := #[{ on := 6, ground := Go.Ground.data }], guard := none }) (v := ?_) rfl (by kernel_rfl) (by kernel_rfl) (by kernel_rfl) (fun _ _ _ h => h) (Or.inl ⟨by rfl, ?_⟩) hSw ?_
  rotate_left
  · (intro W hW; obtain ⟨hq1, hq2⟩ := hW; go_simp; try with_reducible rfl)
  try simp only [Act.put, List.setIfInBounds_toArray, List.set_cons_zero, List.set_cons_succ]
  refine wpAnyH_take (i := 8) (oi := { dst := some 29, op := Go.Op.move (Go.Operand.tmp 5), type := 22, pos := "journal.go:82", after := #[], guard := none }) (v := ?_) rfl (by kernel_rfl) (by kernel_rfl) (by kernel_rfl) (fun _ _ _ h => h) (Or.inl ⟨by rfl, ?_⟩) hSw ?_
  rotate_left
  · (intro W hW; obtain ⟨hq1, hq2⟩ := hW; go_simp; try with_reducible rfl)
  try simp only [Act.put, List.setIfInBounds_toArray, List.set_cons_zero, List.set_cons_succ]
  refine wpAnyH_ready (rs := [9]) (by kernel_rfl) (by simp) ?_
  refine AllReadyH.cons (o := { dst := some 30, op := Go.Op.call { callee := Go.Callee.value (Go.Operand.func 22), args := #[Go.Operand.tmp 24, Go.Operand.tmp 28, Go.Operand.tmp 29], argTypes := #[24, 9, 22] }, type := 31, pos := "journal.go:82", after := #[{ on := 3, ground := Go.Ground.data }, { on := 7, ground := Go.Ground.data }, { on := 8, ground := Go.Ground.data }], guard := none }) rfl (fun K hK => ?_) AllReadyH.nil
  rw [if_pos (by rfl)]
  go_simp
  refine (dappend_long _ d m nw k hmay AF A1 nf cf n1 c1 (HD.out.chg HC1.out.drew (fun x => x) (fun x => x)) hn1a hn1b).mono ?_
  rintro e w2 ⟨rfl, hc2⟩
  have e02 := hc2.cell e0 (fun x => x)
  have e12 := hc2.cell e1 (fun x => x)
  refine hK.out _ _ ⟨e02, e12⟩ (fun hSw => ?_)
  clear hK
  try simp only [Act.put, List.setIfInBounds_toArray, List.set_cons_zero, List.set_cons_succ]
  refine wpAnyH_take (i := 10) (oi := { dst := some 6, op := Go.Op.assign (Go.Operand.tmp 30), type := 31, pos := "journal.go:82", after := #[{ on := 9, ground := Go.Ground.data }, { on := 9, ground := Go.Ground.chain }, { on := 0, ground := Go.Ground.phase }, { on := 1, ground := Go.Ground.phase }, { on := 2, ground := Go.Ground.phase }, { on := 3, ground := Go.Ground.phase }, { on := 4, ground := Go.Ground.phase }, { on := 5, ground := Go.Ground.phase }, { on := 6, ground := Go.Ground.phase }, { on := 7, ground := Go.Ground.phase }, { on := 8, ground := Go.Ground.phase }, { on := 9, ground := Go.Ground.phase }], guard := none }) (v := ?_) rfl (by kernel_rfl) (by kernel_rfl) (by kernel_rfl) (fun _ _ _ h => h) (Or.inl ⟨by rfl, ?_⟩) hSw ?_
  rotate_left
  · (intro W hW; obtain ⟨hq1, hq2⟩ := hW; go_simp; try with_reducible rfl)
  try simp only [Act.put, List.setIfInBounds_toArray, List.set_cons_zero, List.set_cons_succ]
  refine wpAnyH_done (by kernel_rfl) ?_ _
  have HJ2 := Lib.hid (show JCells w2 j d k (.slice A n c) (.slice AP np cp) (encF ps).length false from (HC1.out.drew.no hc2).heap HJ.out (fun x => x))
  have HC2 := Lib.hid (HC1.out.drew.no hc2)
  clear hc2
  have e5 := HJ2.out.c5
  have f5 := HJ2.out.fr 5
  go_wp2
  go_ret
  have hset : JCells (w2.setCell ⟨j, 5, none⟩ (.bool false)) j d k (.slice A n c) (.slice AP np cp) (encF ps).length false := HJ2.out.set 5 (.bool false)
  have hput := Chg.put w2 j 5 (.bool false)
  have hS : Chg S w (w2.setCell ⟨j, 5, none⟩ (.bool false)) := ((HC2.out.mono (fun _ _ x => x.elim)).setCell (p := ⟨j, 5, none⟩) (.inr h14) _)
  have hn := HJ2.out
  have hne : ∀ {e : TypeId} {size n' base' : Nat} {v : Value} {xs : List Value}, e ≠ 55 → w2.ownsRow base' e size v n' xs → ∀ b, v.ownBlock = some b → ¬ One j b := by
    rintro e size n' base' v xs he ho b hb rfl
    exact hn.nrow ho he hb.symm
  have hD2 := HD.out.chg HC2.out (fun x => x) (fun x => x)
  have hjd : d ≠ j ∧ m ≠ j := by
    constructor
    · rintro rfl
      have h1 := (show w2.heap[d]? = _ from hn).symm.trans hD2.1
      cases h1
    · rintro rfl
      have h1 := (show w2.heap[m]? = _ from hn).symm.trans hD2.2
      unfold mapObj at h1
      cases h1
  have hO2 := HO.out.chg HC2.out (fun _ _ x => x)
  have hP2 := ownsRow_chg HP.out HC2.out (fun _ _ x => x)
  have hF2 := HF.out.chg HC2.out (fun _ _ x => x)
  have hsz := hS.size
  refine ⟨rfl, ⟨A, n, c, AP, np, cp, AF, nf, cf, hset, hD2.chg hput hjd.1 hjd.2, hO2.chg hput (hne (by decide) hO2), ownsRow_chg hP2 hput (hne (by decide) hP2), hF2.chg hput (hne (by decide) hF2), HL.out, HLP.out, HLF.out, HTH.out, h10, h11, h12, h13, h14, h15, h16, ?_, by omega⟩, hS⟩
  intro i hi
  have := h17 i hi
  omega
end Go.Proofs.Ytbbfjnfmfigcfaa
