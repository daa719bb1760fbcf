/-
  C6, C7, C8: in one text.
-/
import Derived.Test.YtccphnkdnifpfaaBa16
import Derived.Test.YtccphnkdnifpfaaBa3
import Derived.Test.YtccphnkdnifpfaaBa8
import Derived.Test.YtccphnkdnifpfaaBa9
namespace Go.Proofs.Ytccphnkdnifpfaa
set_option linter.unnecessarySimpa false
open Go.RowKit Go.Shelf
set_option linter.unusedVariables false
set_option linter.unusedSimpArgs false
set_option maxRecDepth 100000

/-- A journal of payloads ps over a disk that is cut: lf raw writes are left, x stands behind the records; all of it lies in blocks of S. -/
def JC (lf : Nat) (x : List UInt8) (jc : Bool) (w : World) (S : Nat → Prop) (base j d m wr : Nat) (k : ByteArray) (th : Bool) (ps : List (List UInt8)) : Prop :=
  ∃ A n c AP np cp AF nf cf, JCells w j d k (.slice A n c) (.slice AP np cp) (encF ps).length jc ∧
    DiskC lf w d m wr (if th then some (k, .slice AF nf cf) else none) ∧
    OwnB w base (.slice A n c) ps.flatten ∧ w.ownsRow base 147 2 (.slice AP np cp) np (partsC 0 ps) ∧ OwnB w base (.slice AF nf cf) (encF ps ++ x) ∧
    ps.flatten.length = n ∧ ps.length = np ∧ (encF ps ++ x).length = nf ∧ (th = false → AF = none ∧ nf = 0 ∧ cf = 0 ∧ ps = [] ∧ x = []) ∧
    (∀ b, (Value.slice A n c).ownBlock = some b → ¬ (Value.slice AF nf cf).ownBlock = some b) ∧
    (∀ b, (Value.slice A n c).ownBlock = some b → S b) ∧ (∀ b, (Value.slice AP np cp).ownBlock = some b → S b) ∧ (∀ b, (Value.slice AF nf cf).ownBlock = some b → S b) ∧
    S j ∧ S d ∧ S m ∧ (∀ i, S i → base ≤ i ∧ i < w.heap.size) ∧ base ≤ w.heap.size
theorem JC.chg {lf : Nat} {x : List UInt8} {jc : Bool} {T S : Nat → Prop} {w w' : World} {base j d m wr : Nat} {k : ByteArray} {th : Bool} {ps : List (List UInt8)} (h : JC lf x jc w S base j d m wr k th ps) (hc : Chg T w w') (hs : ∀ i, S i → ¬ T i) : JC lf x jc w' S base j d m wr k th ps := by
  obtain ⟨A, n, c, AP, np, cp, AF, nf, cf, h1, h2, h3, h4, h5, h6, h7, h8, h9, h10, h11, h12, h13, h14, h15, h16, h17, h18⟩ := h
  exact ⟨A, n, c, AP, np, cp, AF, nf, cf, hc.heap h1 (hs _ h14), h2.chg hc (hs _ h15) (hs _ h16), h3.chg hc (fun b hb => hs _ (h11 b hb)), ownsRow_chg h4 hc (fun b hb => hs _ (h12 b hb)), h5.chg hc (fun b hb => hs _ (h13 b hb)), h6, h7, h8, h9, h10, h11, h12, h13, h14, h15, h16, fun i hi => ⟨(h17 i hi).1, Nat.lt_of_lt_of_le (h17 i hi).2 hc.size⟩, Nat.le_trans h18 hc.size⟩
theorem JC.no {lf : Nat} {x : List UInt8} {jc : Bool} {S : Nat → Prop} {w w' : World} {base j d m wr : Nat} {k : ByteArray} {th : Bool} {ps : List (List UInt8)} (h : JC lf x jc w S base j d m wr k th ps) (hc : Chg No w w') : JC lf x jc w' S base j d m wr k th ps := h.chg hc (fun _ _ x => x)
theorem JC.lt {lf : Nat} {x : List UInt8} {jc : Bool} {S : Nat → Prop} {w : World} {base j d m wr : Nat} {k : ByteArray} {th : Bool} {ps : List (List UInt8)} (h : JC lf x jc w S base j d m wr k th ps) : ∀ i, S i → base ≤ i ∧ i < w.heap.size := by
  obtain ⟨A, n, c, AP, np, cp, AF, nf, cf, h1, h2, h3, h4, h5, h6, h7, h8, h9, h10, h11, h12, h13, h14, h15, h16, h17, h18⟩ := h
  exact h17
theorem JC.boundary {lf : Nat} {x : List UInt8} {jc : Bool} {S : Nat → Prop} {w : World} {base j d m wr : Nat} {k : ByteArray} {th : Bool} {ps : List (List UInt8)} (h : JC lf x jc w S base j d m wr k th ps) {b : Nat} (hb : w.heap.size ≤ b) : ¬ S b := fun hs => by have := (h.lt b hs).2; omega
/-- The disk is cut. -/
theorem jd_cut (w : World) (S : Nat → Prop) (base j d m wr : Nat) (k : ByteArray) (th : Bool) (ps : List (List UInt8)) (h : JD w S base j d m wr k th ps) (n : Nat) :
    Calls Try.prog 22 #[.pointer (some ⟨d, 0, none⟩), .int .i64 (n : Int)] w fun e w' => e = .returned (.int .i64 0) ∧ JC n [] false w' S base j d m wr k th ps ∧ Chg (One d) w w' := by
  obtain ⟨A, n1, c, AP, np, cp, AF, nf, cf, h1, h2, h3, h4, h5, h6, h7, h8, h9, h10, h11, h12, h13, h14, h15, h16, h17, h18⟩ := h
  refine (dcut_calls w d m wr _ h2 n).mono ?_
  rintro e w' ⟨rfl, hD, hc⟩
  have hnd : ∀ {base size n : Nat} {e : TypeId} {v : Value} {xs : List Value}, w.ownsRow base e size v n xs → e ≠ 88 → ∀ b, v.ownBlock = some b → ¬ One d b := fun ho he b hb e => h2.nd ho he (by rw [hb]; exact congrArg some (show d = b from (show b = d from e).symm))
  refine ⟨rfl, ⟨A, n1, c, AP, np, cp, AF, nf, cf, hc.heap h1 (fun e => ?_), hD, h3.chg hc (hnd h3 (by decide)), ownsRow_chg h4 hc (hnd h4 (by decide)), ?_, h6, h7, by rw [List.append_nil]; exact h8, fun ht => ⟨(h9 ht).1, (h9 ht).2.1, (h9 ht).2.2.1, (h9 ht).2.2.2, rfl⟩, h10, h11, h12, h13, h14, h15, h16, fun i hi => ⟨(h17 i hi).1, Nat.lt_of_lt_of_le (h17 i hi).2 hc.size⟩, Nat.le_trans h18 hc.size⟩, hc⟩
  · have e : j = d := e
    subst e
    have := (show w.heap[j]? = _ from h1).symm.trans h2.1
    cases this
  · rw [List.append_nil]
    exact h5.chg hc (hnd h5 (by decide))
set_option maxHeartbeats 1600000 in
theorem payload_callsC (lf : Nat) (x : List UInt8) (jc : Bool) (w : World) (S : Nat → Prop) (base j d m wr : Nat) (k : ByteArray) (th : Bool) (ps : List (List UInt8)) (i : Nat) (hi : i < ps.length) (h : JC lf x jc w S base j d m wr k th ps) (hn : (encF ps).length ≤ 4194304) :
    Calls Try.prog 65 #[.pointer (some ⟨j, 0, none⟩), .int .i64 (i : Int)] w fun e w' => ∃ v, e = .returned v ∧ OwnB w' w.heap.size v ps[i] ∧ Chg No w w' := by
  obtain ⟨A, n, c, AP, np, cp, AF, nf, cf, h1, h2, h3, h4, h5, h6, h7, h8, h9, h10, h11, h12, h13, h14, h15, h16, h17, h18⟩ := h
  obtain ⟨p1, p2⟩ := partsC_get ps 0 i hi
  obtain ⟨q1, q2⟩ := flat_get ps i hi
  have hps := encF_len ps
  obtain ⟨g, capp, hv⟩ : ∃ g cp', AP = some ⟨g, 0, none⟩ ∧ cp' = cp ∧ np ≤ cp := by
    rcases h4.2 with ⟨he, h0⟩ | ⟨g, cap, cur, he, _, _, hle, _⟩
    · omega
    · simp only [Value.slice.injEq, true_and] at he
      exact ⟨g, cp, he.1, rfl, he.2 ▸ hle⟩
  obtain ⟨rfl, rfl, hle⟩ := hv
  have hcells := @World.ownsRow.cells w base 147 2 (.slice (some ⟨g, 0, none⟩) np capp) np (partsC 0 ps) h4 g rfl
  have x1 := hcells _ _ p1
  have x2 := hcells _ _ p2
  rw [Addr.add_lit] at x1 x2
  obtain ⟨x, hx⟩ : ∃ x, (ps.take i).flatten.length = x := ⟨_, rfl⟩
  obtain ⟨y, hy⟩ : ∃ y, x + ps[i].length = y := ⟨_, rfl⟩
  simp only [Nat.zero_add, hx] at x1 x2
  rw [hx] at q1 q2
  rw [hy] at x2 q2
  have e3 := h1.c3
  have e2 := h1.c2
  have HQ := Lib.hid q1
  have HO := Lib.hid h3
  have HL := Lib.hid h6
  have hxy : x ≤ y := by omega
  have hyn : y ≤ n := by have := HL.out; omega
  have HY : Hid (ps[i].length = y - x) := by have : ps[i].length = y - x := by omega
                                             exact this
  have hnn : n ≤ 4194304 := by have := HL.out; omega
  have hi2 : i < np := by omega
  have hnp : np ≤ 4194304 := by omega
  obtain ⟨_, c', hvv, hnc, hcm⟩ := h3.bytes.form
  simp only [Value.slice.injEq] at hvv
  obtain ⟨-, -, rfl⟩ := hvv
  have hnc2 : n ≤ c := by have := HL.out; omega
  clear h1 h2 h3 h4 h5 h6 h7 h8 h9 h10 h11 h12 h13 h14 h15 h16 h17 h18 hcells p1 p2 q1 q2 hps hx hy hn hnc
  go_enter Try.func65, Try.ntmps65
  go_wp2
  have hc1 : Chg No w (w.alloc (.cells #[.int .i64 (x : Int), .int .i64 (y : Int)] 147)) := (Chg.refl No w).alloc _
  have hh := heap_alloc_new w (.cells #[.int .i64 (x : Int), .int .i64 (y : Int)] 147)
  obtain ⟨f0, f1⟩ := two_cells hh
  have hyc : y ≤ c := by omega
  have e2 := hc1.cell e2 (fun x => x)
  have HC1 := Lib.hid hc1
  clear hc1 hh x1 x2 e3
  generalize (w.alloc (.cells #[.int .i64 (x : Int), .int .i64 (y : Int)] 147)) = w1 at *
  have HSL := Lib.hid (Bytes.mid (HO.out.bytes.no HC1.out) HL.out hxy hyn hnc2)
  generalize w.heap.size = b at *
  refine wp_region_held_drew (S := (fun W => W.cell? ⟨j, 2, none⟩ = some (.slice A n c) ∧ W.cell? ⟨b, 0, none⟩ = some (.int .i64 (x : Int)) ∧ W.cell? ⟨b, 1, none⟩ = some (.int .i64 (y : Int)))) (by kernel_rfl) ⟨e2, f0, f1⟩ (fun hSw => ?_)
  refine wpAnyH_take (i := 0) (oi := { dst := some 13, op := Go.Op.move (Go.Operand.tmp 0), type := 80, pos := "journal.go:109", after := #[], guard := none }) (v := ?_) rfl (by kernel_rfl) (by kernel_rfl) (by kernel_rfl) (fun _ _ _ h => h) (Or.inl ⟨by rfl, ?_⟩) hSw ?_
  rotate_left
  · (intro W hW; obtain ⟨hq1, hq2, hq3⟩ := hW; go_simp; try with_reducible rfl)
  try simp only [Act.put, List.setIfInBounds_toArray, List.set_cons_zero, List.set_cons_succ]
  refine wpAnyH_take (i := 1) (oi := { dst := some 14, op := Go.Op.nilCheck (Go.Operand.tmp 13), type := 0, pos := "journal.go:109", after := #[{ on := 0, ground := Go.Ground.data }], guard := none }) (v := ?_) rfl (by kernel_rfl) (by kernel_rfl) (by kernel_rfl) (fun _ _ _ h => h) (Or.inl ⟨by rfl, ?_⟩) hSw ?_
  rotate_left
  · (intro W hW; obtain ⟨hq1, hq2, hq3⟩ := hW; go_simp; try with_reducible rfl)
  try simp only [Act.put, List.setIfInBounds_toArray, List.set_cons_zero, List.set_cons_succ]
  refine wpAnyH_take (i := 2) (oi := { dst := some 15, op := Go.Op.fieldAddr 112 (Go.Operand.tmp 14) 2, type := 0, pos := "journal.go:109", after := #[{ on := 1, ground := Go.Ground.data }], guard := none }) (v := ?_) rfl (by kernel_rfl) (by kernel_rfl) (by kernel_rfl) (fun _ _ _ h => h) (Or.inl ⟨by rfl, ?_⟩) hSw ?_
  rotate_left
  · (intro W hW; obtain ⟨hq1, hq2, hq3⟩ := hW; go_simp; try with_reducible rfl)
  try simp only [Act.put, List.setIfInBounds_toArray, List.set_cons_zero, List.set_cons_succ]
  refine wpAnyH_take (i := 3) (oi := { dst := some 16, op := Go.Op.load 30 (Go.Operand.tmp 15), type := 30, pos := "journal.go:109", after := #[{ on := 2, ground := Go.Ground.data }], guard := none }) (v := ?_) rfl (by kernel_rfl) (by kernel_rfl) (by kernel_rfl) (fun _ _ _ h => h) (Or.inl ⟨by rfl, ?_⟩) hSw ?_
  rotate_left
  · (intro W hW; obtain ⟨hq1, hq2, hq3⟩ := hW; go_simp; try with_reducible rfl)
  try simp only [Act.put, List.setIfInBounds_toArray, List.set_cons_zero, List.set_cons_succ]
  refine wpAnyH_take (i := 4) (oi := { dst := some 17, op := Go.Op.fieldAddr 147 (Go.Operand.tmp 5) 0, type := 0, pos := "journal.go:109", after := #[], guard := none }) (v := ?_) rfl (by kernel_rfl) (by kernel_rfl) (by kernel_rfl) (fun _ _ _ h => h) (Or.inl ⟨by rfl, ?_⟩) hSw ?_
  rotate_left
  · (intro W hW; obtain ⟨hq1, hq2, hq3⟩ := hW; go_simp; try with_reducible rfl)
  try simp only [Act.put, List.setIfInBounds_toArray, List.set_cons_zero, List.set_cons_succ]
  refine wpAnyH_take (i := 5) (oi := { dst := some 18, op := Go.Op.load 3 (Go.Operand.tmp 17), type := 3, pos := "journal.go:109", after := #[{ on := 4, ground := Go.Ground.data }], guard := none }) (v := ?_) rfl (by kernel_rfl) (by kernel_rfl) (by kernel_rfl) (fun _ _ _ h => h) (Or.inl ⟨by rfl, ?_⟩) hSw ?_
  rotate_left
  · (intro W hW; obtain ⟨hq1, hq2, hq3⟩ := hW; go_simp; try with_reducible rfl)
  try simp only [Act.put, List.setIfInBounds_toArray, List.set_cons_zero, List.set_cons_succ]
  refine wpAnyH_take (i := 6) (oi := { dst := some 19, op := Go.Op.fieldAddr 147 (Go.Operand.tmp 5) 1, type := 0, pos := "journal.go:109", after := #[], guard := none }) (v := ?_) rfl (by kernel_rfl) (by kernel_rfl) (by kernel_rfl) (fun _ _ _ h => h) (Or.inl ⟨by rfl, ?_⟩) hSw ?_
  rotate_left
  · (intro W hW; obtain ⟨hq1, hq2, hq3⟩ := hW; go_simp; try with_reducible rfl)
  try simp only [Act.put, List.setIfInBounds_toArray, List.set_cons_zero, List.set_cons_succ]
  refine wpAnyH_take (i := 7) (oi := { dst := some 20, op := Go.Op.load 3 (Go.Operand.tmp 19), type := 3, pos := "journal.go:109", after := #[{ on := 6, ground := Go.Ground.data }], guard := none }) (v := ?_) rfl (by kernel_rfl) (by kernel_rfl) (by kernel_rfl) (fun _ _ _ h => h) (Or.inl ⟨by rfl, ?_⟩) hSw ?_
  rotate_left
  · (intro W hW; obtain ⟨hq1, hq2, hq3⟩ := hW; go_simp; try with_reducible rfl)
  try simp only [Act.put, List.setIfInBounds_toArray, List.set_cons_zero, List.set_cons_succ]
  refine wpAnyH_take (i := 8) (oi := { dst := some 21, op := Go.Op.slice 30 (Go.Operand.tmp 16) (some (Go.Operand.tmp 18)) (some (Go.Operand.tmp 20)) none, type := 30, pos := "journal.go:109", after := #[{ on := 3, ground := Go.Ground.data }, { on := 5, ground := Go.Ground.data }, { on := 7, ground := Go.Ground.data }], guard := none }) (v := ?_) rfl (by kernel_rfl) (by kernel_rfl) (by kernel_rfl) (fun _ _ _ h => h) (Or.inl ⟨by rfl, ?_⟩) hSw ?_
  rotate_left
  · (intro W hW; obtain ⟨hq1, hq2, hq3⟩ := hW; go_simp; try with_reducible rfl)
  try simp only [Act.put, List.setIfInBounds_toArray, List.set_cons_zero, List.set_cons_succ]
  refine wpAnyH_ready (rs := [9]) (by kernel_rfl) (by simp) ?_
  refine AllReadyH.cons (o := { dst := some 22, op := Go.Op.call { callee := Go.Callee.value (Go.Operand.func 80), args := #[Go.Operand.tmp 21], argTypes := #[30] }, type := 30, pos := "journal.go:109", after := #[{ on := 8, ground := Go.Ground.data }], guard := none }) rfl (fun K hK => ?_) AllReadyH.nil
  rw [if_pos (by rfl)]
  go_simp
  refine (clone_any _ _ (y - x) _ ((ps.flatten.drop x).take (y - x)) (HSL.out.no (Chg.refl No _).drew) (by omega)).mono ?_
  rintro e w3 ⟨v3, rfl, ho3, hc3⟩
  have e02 := hc3.cell e2 (fun x => x)
  have e12 := hc3.cell f0 (fun x => x)
  have e22 := hc3.cell f1 (fun x => x)
  refine hK.out _ _ ⟨e02, e12, e22⟩ (fun hSw => ?_)
  clear hK
  try simp only [Act.put, List.setIfInBounds_toArray, List.set_cons_zero, List.set_cons_succ]
  refine wpAnyH_take (i := 10) (oi := { dst := some 4, op := Go.Op.assign (Go.Operand.tmp 22), type := 30, pos := "journal.go:109", after := #[{ on := 9, ground := Go.Ground.data }, { on := 9, ground := Go.Ground.chain }, { on := 0, ground := Go.Ground.phase }, { on := 1, ground := Go.Ground.phase }, { on := 2, ground := Go.Ground.phase }, { on := 3, ground := Go.Ground.phase }, { on := 4, ground := Go.Ground.phase }, { on := 5, ground := Go.Ground.phase }, { on := 6, ground := Go.Ground.phase }, { on := 7, ground := Go.Ground.phase }, { on := 8, ground := Go.Ground.phase }, { on := 9, ground := Go.Ground.phase }], guard := none }) (v := ?_) rfl (by kernel_rfl) (by kernel_rfl) (by kernel_rfl) (fun _ _ _ h => h) (Or.inl ⟨by rfl, ?_⟩) hSw ?_
  rotate_left
  · (intro W hW; obtain ⟨hq1, hq2, hq3⟩ := hW; go_simp; try with_reducible rfl)
  try simp only [Act.put, List.setIfInBounds_toArray, List.set_cons_zero, List.set_cons_succ]
  refine wpAnyH_done (by kernel_rfl) ?_ _
  generalize (if c = x then A else Option.map (fun a => a.add x) A) = AA
  go_wp2
  go_ret
  rw [HY.out] at HQ
  exact ⟨_, rfl, by have h := ho3; rw [HQ.out] at h; exact h.mono (HC1.out.drew).size, HC1.out.drew.no hc3⟩

theorem JC.parts {lf : Nat} {x : List UInt8} {jc : Bool} {w : World} {S : Nat → Prop} {base j d m wr : Nat} {k : ByteArray} {th : Bool} {ps : List (List UInt8)} (h : JC lf x jc w S base j d m wr k th ps) : ∃ AP np cp, w.cell? ⟨j, 3, none⟩ = some (.slice AP np cp) ∧ Hid (ps.length = np) := by
  obtain ⟨A, n, c, AP, np, cp, AF, nf, cf, h1, h2, h3, h4, h5, h6, h7, h8, h9, h10, h11, h12, h13, h14, h15, h16, h17, h18⟩ := h
  exact ⟨AP, np, cp, h1.c3, h7⟩
set_option maxHeartbeats 800000 in
theorem record_inC (lf : Nat) (x : List UInt8) (jc : Bool) (w : World) (S : Nat → Prop) (base j d m wr : Nat) (k : ByteArray) (th : Bool) (ps : List (List UInt8)) (i : Nat) (hi : i < ps.length) (h : JC lf x jc w S base j d m wr k th ps) (hn : (encF ps).length ≤ 4194304) :
    Calls Try.prog 39 #[.pointer (some ⟨j, 0, none⟩), .int .i64 (i : Int)] w fun e w' => ∃ v, e = .returned (.tuple #[v, .int .i64 0]) ∧ OwnB w' w.heap.size v ps[i] ∧ Chg No w w' := by
  obtain ⟨AP, np, cp, e3, HNP⟩ := h.parts
  have hi2 : (i : Int) < (np : Int) := by have := HNP.out; omega
  have hi3 : ¬ ((i : Int) ≥ (np : Int)) := by omega
  have hi4 : ¬ ((np : Int) ≤ (i : Int)) := by omega
  have hi5 : ¬ ((i : Int) < 0) := by omega
  have H := Lib.hid h
  clear h
  go_enter Try.func39, Try.ntmps39
  go_wp2_with fail
  refine (payload_callsC lf x jc w S base j d m wr k th ps i hi H.out hn).mono ?_
  rintro e w1 ⟨v, rfl, ho, hc⟩
  have HO := Lib.hid ho
  have HC := Lib.hid hc
  clear ho hc
  go_wp2
  go_ret2
  exact ⟨_, rfl, HO.out, HC.out⟩
theorem jlen_callsC (lf : Nat) (x : List UInt8) (jc : Bool) (w : World) (S : Nat → Prop) (base j d m wr : Nat) (k : ByteArray) (th : Bool) (ps : List (List UInt8)) (h : JC lf x jc w S base j d m wr k th ps) :
    Calls Try.prog 38 #[.pointer (some ⟨j, 0, none⟩)] w fun e w' => e = .returned (.int .i64 (ps.length : Int)) ∧ w' = w := by
  obtain ⟨A, n, c, AP, np, cp, AF, nf, cf, h1, h2, h3, h4, h5, h6, h7, h8, h9, h10, h11, h12, h13, h14, h15, h16, h17, h18⟩ := h
  rw [h7]
  exact len_calls w j d k _ AP np cp _ _ h1

def DAR (l0 : Nat) (w : World) (base d m wr0 n2 : Nat) (k : ByteArray) (v : Value) (xs ys : List UInt8) (e : Ending) (w' : World) : Prop :=
  (e = .returned (.int .i64 0) ∧ (n2 + 31) / 32 ≤ l0 ∧ ∃ v', DiskC (l0 - (n2 + 31) / 32) w' d m (wr0 + (n2 + 31) / 32) (some (k, v')) ∧ OwnB w' base v' (xs ++ ys) ∧ Chg (DS d m v) w w' ∧ From w v v') ∨ (e = .returned (.int .i64 6) ∧ l0 < (n2 + 31) / 32 ∧ ∃ f' A' n' c', (f' = some (k, .slice A' n' c') ∨ (f' = none ∧ A' = none ∧ n' = 0 ∧ c' = 0 ∧ xs ++ ys.take (32 * l0) = [])) ∧ DiskC 0 w' d m (wr0 + l0) f' ∧ OwnB w' base (.slice A' n' c') (xs ++ ys.take (32 * l0)) ∧ Chg (DS d m v) w w' ∧ From w v (.slice A' n' c'))
theorem dappend_anyC (l0 : Nat) (hl0 : l0 ≤ 9223372036854775807) (w : World) (base d m wr0 : Nat) (k : ByteArray) (hmay : ∀ w, Calls Try.prog 87 #[.string k] w fun e w' => e = .returned (.bool true) ∧ Chg No w w') (th : Bool) (A A2 : Option Addr) (n c n2 c2 : Nat) (xs ys : List UInt8)
    (h : DiskC l0 w d m wr0 (if th then some (k, .slice A n c) else none)) (hw : wr0 < 9223372036850000000) (ho : OwnB w base (.slice A n c) xs) (hl : xs.length = n) (hth : th = false → A = none ∧ n = 0 ∧ c = 0) (hb : Bytes w (.slice A2 n2 c2) ys) (hl2 : ys.length = n2) (hn : n + n2 ≤ 4194304) (hpos : 0 < n2) (hbase : base ≤ w.heap.size)
    (hbd : ∀ b, (Value.slice A2 n2 c2).ownBlock = some b → b ≠ d ∧ b ≠ m ∧ some b ≠ (Value.slice A n c).ownBlock) :
    Calls Try.prog 61 #[.pointer (some ⟨d, 0, none⟩), .string k, .slice A2 n2 c2] w fun e w' => DAR l0 w base d m wr0 n2 k (.slice A n c) xs ys e w' := by
  cases th
  · obtain ⟨rfl, rfl, rfl⟩ := hth rfl
    have : xs = [] := List.eq_nil_of_length_eq_zero hl
    subst this
    exact dappend_firstC l0 hl0 w base d m wr0 k hmay A2 n2 c2 ys h hw hb hl2 (by omega) hpos hbase hbd
  · exact dappend_moreC l0 hl0 w base d m wr0 k hmay A A2 n c n2 c2 xs ys h hw ho hl hb hl2 hn hpos hbase hbd

/-- What Append answers. -/
def JAR (lf : Nat) (w : World) (S : Nat → Prop) (base j d m wr : Nat) (k : ByteArray) (ps : List (List UInt8)) (p : List UInt8) (e : Ending) (w' : World) : Prop :=
  (e = .returned (.int .i64 0) ∧ ((recF p).length + 31) / 32 ≤ lf ∧ JC (lf - ((recF p).length + 31) / 32) [] false w' (Grow S w w') base j d m (wr + ((recF p).length + 31) / 32) k true (ps ++ [p])) ∨
  (e = .returned (.int .i64 6) ∧ lf < ((recF p).length + 31) / 32 ∧ ∃ th', JC 0 ((recF p).take (32 * lf)) true w' (Grow S w w') base j d m (wr + lf) k th' ps)
set_option maxHeartbeats 6400000 in
theorem jappend_callsC (lf : Nat) (hlf : lf ≤ 9223372036854775807) (w : World) (S : Nat → Prop) (base j d m wr : Nat) (k : ByteArray) (hmay : ∀ w, Calls Try.prog 87 #[.string k] w fun e w' => e = .returned (.bool true) ∧ Chg No w w') (th : Bool) (ps : List (List UInt8)) (A2 : Option Addr) (n2 c2 : Nat) (p : List UInt8)
    (h : JC lf [] false w S base j d m wr k th ps) (hb : Bytes w (.slice A2 n2 c2) p) (hl2 : p.length = n2) (hbs : ∀ b, (Value.slice A2 n2 c2).ownBlock = some b → ¬ S b) (hn2 : n2 ≤ 262144) (hsum : (encF ps).length + (recF p).length ≤ 4194304) (hw : wr < 9223372036850000000) :
    Calls Try.prog 31 #[.pointer (some ⟨j, 0, none⟩), .slice A2 n2 c2] w fun e w' => JAR lf w S base j d m wr k ps p e w' ∧ Chg S w w' := by
  obtain ⟨A, n, c, AP, np, cp, AF, nf, cf, h1, h2, h3, h4, h5, h6, h7, h8, h9, h10, h11, h12, h13, h14, h15, h16, h17, h18⟩ := h
  have c5 := h1.c5
  rw [List.append_nil] at h5 h8
  have HJ := Lib.hid h1
  have HD := Lib.hid h2
  have HO := Lib.hid h3
  have HP := Lib.hid h4
  have HF := Lib.hid h5
  have HB := Lib.hid hb
  have HL := Lib.hid h6
  have HLP := Lib.hid h7
  have HLF := Lib.hid h8
  have HL2 := Lib.hid hl2
  have HTH := Lib.hid h9
  have hrl := recF_len p (by omega)
  have hps := encF_len ps
  have hng : ¬ ((n2 : Int) > 262144) := by omega
  have hng2 : ¬ ((262144 : Int) < (n2 : Int)) := by omega
  clear h1 h2 h3 h4 h5 h6 h7 h8 hb hl2 h9
  go_enter Try.func31, Try.ntmps31
  go_wp2_with fail
  refine (record_calls w A2 n2 c2 p HB.out HL2.out (by omega)).mono ?_
  rintro e w1 ⟨v1, rfl, ho1, hc1⟩
  obtain ⟨A1, n1, c1, rfl, HL1, HO1⟩ := ho1.form
  have HC1 := Lib.hid hc1
  have e0 := (HJ.out.c0 : w.cell? _ = _)
  have e0 := hc1.cell e0 (fun x => x)
  have e1 := hc1.cell HJ.out.c1 (fun x => x)
  clear ho1 hc1 c5
  have HN1 := Lib.hid (show n1 = (recF p).length from HL1.out.symm)
  have hn1a : (encF ps).length + n1 ≤ 4194304 := by have := HN1.out; omega
  have hn1b : 0 < n1 := by have := HN1.out; omega
  have hn1c : nf + n1 ≤ 4194304 := by have := HLF.out; omega
  have hn1d : n + n2 ≤ 4194304 := by have := HLF.out; have := HN1.out; have := HL.out; have := HL2.out; omega
  have hn1e : np ≤ 4194304 := by have := HLP.out; have := HN1.out; omega
  have hfresh : ∀ b, (Value.slice A1 n1 c1).ownBlock = some b → w.heap.size ≤ b := fun b hb => (HO1.out.block b hb).1
  have hfb : ∀ b, (Value.slice A1 n1 c1).ownBlock = some b → b ≠ d ∧ b ≠ m ∧ some b ≠ (Value.slice AF nf cf).ownBlock := by
    intro b hb
    have h1 := hfresh b hb
    refine ⟨fun e => ?_, fun e => ?_, fun e => ?_⟩
    · subst e; have := (h17 _ h15).2; omega
    · subst e; have := (h17 _ h16).2; omega
    · have := (h17 _ (h13 b e.symm)).2; omega
  have HTH2 : Hid (th = false → AF = none ∧ nf = 0 ∧ cf = 0) := fun ht => ⟨(HTH.out ht).1, (HTH.out ht).2.1, (HTH.out ht).2.2.1⟩
  clear hrl hps hsum
  have KJ : ¬ DS d m (.slice AF nf cf) j := by
    rintro (e | e | e)
    · subst e; have h1 := (show w.heap[j]? = _ from HJ.out).symm.trans HD.out.1; cases h1
    · subst e; have h1 := (show w.heap[j]? = _ from HJ.out).symm.trans HD.out.2; unfold mapObj at h1; split at h1 <;> cases h1
    · exact HJ.out.nrow HF.out (by decide) e
  go_wp2_with fail
  refine wp_region_held_drew (S := (fun W => W.cell? ⟨j, 0, none⟩ = some (.pointer (some ⟨d, 0, none⟩)) ∧ W.cell? ⟨j, 1, none⟩ = some (.string k))) (by kernel_rfl) ⟨e0, e1⟩ (fun hSw => ?_)
  refine wpAnyH_take (i := 0) (oi := { dst := some 21, op := Go.Op.move (Go.Operand.tmp 0), type := 80, pos := "journal.go:82", after := #[], guard := none }) (v := ?_) rfl (by kernel_rfl) (by kernel_rfl) (by kernel_rfl) (fun _ _ _ h => h) (Or.inl ⟨by rfl, ?_⟩) hSw ?_
  rotate_left
  · (intro W hW; obtain ⟨hq1, hq2⟩ := hW; go_simp; try with_reducible rfl)
  try simp only [Act.put, List.setIfInBounds_toArray, List.set_cons_zero, List.set_cons_succ]
  refine wpAnyH_take (i := 1) (oi := { dst := some 22, op := Go.Op.nilCheck (Go.Operand.tmp 21), type := 0, pos := "journal.go:82", after := #[{ on := 0, ground := Go.Ground.data }], guard := none }) (v := ?_) rfl (by kernel_rfl) (by kernel_rfl) (by kernel_rfl) (fun _ _ _ h => h) (Or.inl ⟨by rfl, ?_⟩) hSw ?_
  rotate_left
  · (intro W hW; obtain ⟨hq1, hq2⟩ := hW; go_simp; try with_reducible rfl)
  try simp only [Act.put, List.setIfInBounds_toArray, List.set_cons_zero, List.set_cons_succ]
  refine wpAnyH_take (i := 2) (oi := { dst := some 23, op := Go.Op.fieldAddr 112 (Go.Operand.tmp 22) 0, type := 0, pos := "journal.go:82", after := #[{ on := 1, ground := Go.Ground.data }], guard := none }) (v := ?_) rfl (by kernel_rfl) (by kernel_rfl) (by kernel_rfl) (fun _ _ _ h => h) (Or.inl ⟨by rfl, ?_⟩) hSw ?_
  rotate_left
  · (intro W hW; obtain ⟨hq1, hq2⟩ := hW; go_simp; try with_reducible rfl)
  try simp only [Act.put, List.setIfInBounds_toArray, List.set_cons_zero, List.set_cons_succ]
  refine wpAnyH_take (i := 3) (oi := { dst := some 24, op := Go.Op.load 24 (Go.Operand.tmp 23), type := 24, pos := "journal.go:82", after := #[{ on := 2, ground := Go.Ground.data }], guard := none }) (v := ?_) rfl (by kernel_rfl) (by kernel_rfl) (by kernel_rfl) (fun _ _ _ h => h) (Or.inl ⟨by rfl, ?_⟩) hSw ?_
  rotate_left
  · (intro W hW; obtain ⟨hq1, hq2⟩ := hW; go_simp; try with_reducible rfl)
  try simp only [Act.put, List.setIfInBounds_toArray, List.set_cons_zero, List.set_cons_succ]
  refine wpAnyH_take (i := 4) (oi := { dst := some 25, op := Go.Op.move (Go.Operand.tmp 0), type := 80, pos := "journal.go:82", after := #[], guard := none }) (v := ?_) rfl (by kernel_rfl) (by kernel_rfl) (by kernel_rfl) (fun _ _ _ h => h) (Or.inl ⟨by rfl, ?_⟩) hSw ?_
  rotate_left
  · (intro W hW; obtain ⟨hq1, hq2⟩ := hW; go_simp; try with_reducible rfl)
  try simp only [Act.put, List.setIfInBounds_toArray, List.set_cons_zero, List.set_cons_succ]
  refine wpAnyH_take (i := 5) (oi := { dst := some 26, op := Go.Op.nilCheck (Go.Operand.tmp 25), type := 0, pos := "journal.go:82", after := #[{ on := 4, ground := Go.Ground.data }], guard := none }) (v := ?_) rfl (by kernel_rfl) (by kernel_rfl) (by kernel_rfl) (fun _ _ _ h => h) (Or.inl ⟨by rfl, ?_⟩) hSw ?_
  rotate_left
  · (intro W hW; obtain ⟨hq1, hq2⟩ := hW; go_simp; try with_reducible rfl)
  try simp only [Act.put, List.setIfInBounds_toArray, List.set_cons_zero, List.set_cons_succ]
  refine wpAnyH_take (i := 6) (oi := { dst := some 27, op := Go.Op.fieldAddr 112 (Go.Operand.tmp 26) 1, type := 0, pos := "journal.go:82", after := #[{ on := 5, ground := Go.Ground.data }], guard := none }) (v := ?_) rfl (by kernel_rfl) (by kernel_rfl) (by kernel_rfl) (fun _ _ _ h => h) (Or.inl ⟨by rfl, ?_⟩) hSw ?_
  rotate_left
  · (intro W hW; obtain ⟨hq1, hq2⟩ := hW; go_simp; try with_reducible rfl)
  try simp only [Act.put, List.setIfInBounds_toArray, List.set_cons_zero, List.set_cons_succ]
  refine wpAnyH_take (i := 7) (oi := { dst := some 28, op := Go.Op.load 9 (Go.Operand.tmp 27), type := 9, pos := "journal.go:82", after := #[{ on := 6, ground := Go.Ground.data }], guard := none }) (v := ?_) rfl (by kernel_rfl) (by kernel_rfl) (by kernel_rfl) (fun _ _ _ h => h) (Or.inl ⟨by rfl, ?_⟩) hSw ?_
  rotate_left
  · (intro W hW; obtain ⟨hq1, hq2⟩ := hW; go_simp; try with_reducible rfl)
  try simp only [Act.put, List.setIfInBounds_toArray, List.set_cons_zero, List.set_cons_succ]
  refine wpAnyH_take (i := 8) (oi := { dst := some 29, op := Go.Op.move (Go.Operand.tmp 5), type := 30, pos := "journal.go:82", after := #[], guard := none }) (v := ?_) rfl (by kernel_rfl) (by kernel_rfl) (by kernel_rfl) (fun _ _ _ h => h) (Or.inl ⟨by rfl, ?_⟩) hSw ?_
  rotate_left
  · (intro W hW; obtain ⟨hq1, hq2⟩ := hW; go_simp; try with_reducible rfl)
  try simp only [Act.put, List.setIfInBounds_toArray, List.set_cons_zero, List.set_cons_succ]
  refine wpAnyH_ready (rs := [9]) (by kernel_rfl) (by simp) ?_
  refine AllReadyH.cons (o := { dst := some 30, op := Go.Op.call { callee := Go.Callee.value (Go.Operand.func 61), args := #[Go.Operand.tmp 24, Go.Operand.tmp 28, Go.Operand.tmp 29], argTypes := #[24, 9, 30] }, type := 27, pos := "journal.go:82", after := #[{ on := 3, ground := Go.Ground.data }, { on := 7, ground := Go.Ground.data }, { on := 8, ground := Go.Ground.data }], guard := none }) rfl (fun K hK => ?_) AllReadyH.nil
  rw [if_pos (by rfl)]
  go_simp
  refine (dappend_anyC lf hlf _ base d m wr k hmay th AF A1 nf cf n1 c1 (encF ps) (recF p) (HD.out.chg HC1.out.drew (fun x => x) (fun x => x)) hw (HF.out.chg (HC1.out.drew) (fun _ _ x => x)) HLF.out HTH2.out (HO1.out.bytes.no (Chg.refl No _).drew) HL1.out hn1c hn1b (Nat.le_trans h18 HC1.out.drew.size) hfb).mono ?_
  rintro e w2 (⟨rfl, hpl, vf, hD2, hF2, hc2, hff⟩ | ⟨rfl, hpl, f2, AG, ng, cg, hfc, hD2, hF2, hc2, hff⟩)
  · have e02 := hc2.cell e0 KJ
    have e12 := hc2.cell e1 KJ
    refine hK.out _ _ ⟨e02, e12⟩ (fun hSw => ?_)
    clear hK
    try simp only [Act.put, List.setIfInBounds_toArray, List.set_cons_zero, List.set_cons_succ]
    refine wpAnyH_take (i := 10) (oi := { dst := some 6, op := Go.Op.assign (Go.Operand.tmp 30), type := 27, pos := "journal.go:82", after := #[{ on := 9, ground := Go.Ground.data }, { on := 9, ground := Go.Ground.chain }, { on := 0, ground := Go.Ground.phase }, { on := 1, ground := Go.Ground.phase }, { on := 2, ground := Go.Ground.phase }, { on := 3, ground := Go.Ground.phase }, { on := 4, ground := Go.Ground.phase }, { on := 5, ground := Go.Ground.phase }, { on := 6, ground := Go.Ground.phase }, { on := 7, ground := Go.Ground.phase }, { on := 8, ground := Go.Ground.phase }, { on := 9, ground := Go.Ground.phase }], guard := none }) (v := ?_) rfl (by kernel_rfl) (by kernel_rfl) (by kernel_rfl) (fun _ _ _ h => h) (Or.inl ⟨by rfl, ?_⟩) hSw ?_
    rotate_left
    · (intro W hW; obtain ⟨hq1, hq2⟩ := hW; go_simp; try with_reducible rfl)
    try simp only [Act.put, List.setIfInBounds_toArray, List.set_cons_zero, List.set_cons_succ]
    refine wpAnyH_done (by kernel_rfl) ?_ _
    have hcd : Chg No w w1.drew := HC1.out.drew
    have HC2 : Hid (Chg (DS d m (.slice AF nf cf)) w w2) := (hcd.mono (fun _ _ x => x.elim)).trans hc2 (fun _ _ x => x)
    have hnS : ∀ i, (i = j ∨ some i = (Value.slice A n c).ownBlock ∨ some i = (Value.slice AP np cp).ownBlock) → ¬ DS d m (.slice AF nf cf) i := by
      intro i hi hd
      rcases hd with rfl | rfl | hd
      · rcases hi with rfl | hi | hi
        · have h1 := (show w.heap[i]? = _ from HJ.out).symm.trans HD.out.1; cases h1
        · exact HD.out.nd HO.out (by decide) hi
        · exact HD.out.nd HP.out (by decide) hi
      · rcases hi with rfl | hi | hi
        · have h1 := (show w.heap[i]? = _ from HJ.out).symm.trans HD.out.2; unfold mapObj at h1; split at h1 <;> cases h1
        · exact HD.out.nm HO.out hi
        · exact HD.out.nm HP.out hi
      · rcases hi with rfl | hi | hi
        · exact HJ.out.nrow HF.out (by decide) hd
        · exact h10 i hi.symm hd.symm
        · exact rows_apart HP.out HF.out (by decide) i hi.symm hd.symm
    have hj2 : JCells w2 j d k (.slice A n c) (.slice AP np cp) (encF ps).length false := HC2.out.heap HJ.out (hnS j (.inl rfl))
    have ho2 : OwnB w2 base (.slice A n c) ps.flatten := HO.out.chg HC2.out (fun b hb => hnS b (.inr (.inl hb.symm)))
    have hp2 := ownsRow_chg HP.out HC2.out (fun b hb => hnS b (.inr (.inr hb.symm)))
    have hDS : ∀ i, DS d m (.slice AF nf cf) i → S i := by
      rintro i (rfl | rfl | e)
      · exact h15
      · exact h16
      · exact h13 i e.symm
    have hb2 : Bytes w2 (.slice A2 n2 c2) p := HB.out.chg HC2.out (fun b hb hd => hbs b hb (hDS b hd))
    have hff2 : From w (.slice AF nf cf) vf := fun b hb => (hff b hb).imp id (fun e => Nat.le_trans hcd.size e)
    have HD2 := Lib.hid hD2
    have HF2 := Lib.hid hF2
    have HJ2 := Lib.hid hj2
    have HO2 := Lib.hid ho2
    have HP2 := Lib.hid hp2
    have HB2 := Lib.hid hb2
    clear hD2 hF2 hj2 ho2 hp2 hb2 hc2 hff
    have hsz2 := HC2.out.size
    go_wp2_with fail
    refine (add_calls w2 base j d k A A2 AP n c n2 c2 np cp (encF ps).length n1 ps p HJ2.out HO2.out HP2.out HL.out HB2.out HL2.out (by omega) (by omega) (by omega) (by omega)).mono ?_
    rintro e w3 ⟨rfl, va', vp', hj3, ho3, hp3, hc3, hfa, hfp⟩
    obtain ⟨AN, nn, cn, rfl, HLN, HON⟩ := ho3.form
    obtain ⟨AQ, cq, rfl⟩ := ownsRow_form hp3
    obtain ⟨AG, ng, cg, rfl, HLG, HOG⟩ := HF2.out.form
    have hnv : ∀ i, (i = d ∨ i = m ∨ some i = (Value.slice AG ng cg).ownBlock) → ¬ JS j (.slice A n c) (.slice AP np cp) i := by
      intro i hi hd
      rcases hi with rfl | rfl | hi
      · rcases hd with e | hd | hd
        · subst e; have h1 := (show w.heap[i]? = _ from HJ.out).symm.trans HD.out.1; cases h1
        · exact HD.out.nd HO.out (by decide) hd
        · exact HD.out.nd HP.out (by decide) hd
      · rcases hd with e | hd | hd
        · subst e; have h1 := (show w.heap[i]? = _ from HJ.out).symm.trans HD.out.2; unfold mapObj at h1; split at h1 <;> cases h1
        · exact HD.out.nm HO.out hd
        · exact HD.out.nm HP.out hd
      · rcases hd with e | hd | hd
        · subst e; exact HJ2.out.nrow HOG.out (by decide) hi
        · rcases hff2 i hi.symm with e | e
          · exact h10 i hd.symm e
          · have := (h17 _ (h11 i hd.symm)).2; omega
        · exact rows_apart HP2.out HOG.out (by decide) i hd.symm hi.symm
    have HC3 := Lib.hid hc3
    have HJ3 := Lib.hid hj3
    have HP3 := Lib.hid hp3
    clear ho3 hc3 hj3 hp3
    go_wp2
    go_ret
    have hsz3 := HC3.out.size
    have hCh : Chg S w w3 := (HC2.out.mono (fun i _ hi => hDS i hi)).trans HC3.out (by
      rintro i _ (rfl | e | e)
      · exact h14
      · exact h11 i e.symm
      · exact h12 i e.symm)
    have hG : ∀ (v v' : Value) (W : World), w.heap.size ≤ W.heap.size → From W v v' → (∀ b, v.ownBlock = some b → S b) → (∀ b, v'.ownBlock = some b → b < w3.heap.size) → ∀ b, v'.ownBlock = some b → Grow S w w3 b := by
      intro v v' W hW hf hv hlt b hb
      rcases hf b hb with e | e
      · exact .inl (hv b e)
      · exact .inr ⟨Nat.le_trans hW e, hlt b hb⟩
    have hn9 : (encF ps).length + n1 = (encF (ps ++ [p])).length := by rw [encF_snoc, List.length_append, ← HN1.out]
    have hOG3 := HOG.out.chg HC3.out (fun b hb => hnv b (.inr (.inr hb.symm)))
    refine ⟨.inl ⟨rfl, by have := HN1.out; omega, ⟨AN, nn, cn, AQ, np + 1, cq, AG, ng, cg, ?_, ?_, HON.out, HP3.out, ?_, HLN.out, ?_, ?_, ?_, ?_, ?_, ?_, ?_, .inl h14, .inl h15, .inl h16, ?_, ?_⟩⟩, hCh⟩
    · rw [← hn9]; exact HJ3.out
    · have h := HD2.out.chg HC3.out (hnv d (.inl rfl)) (hnv m (.inr (.inl rfl)))
      rw [HN1.out] at h
      exact h
    · rw [List.append_nil, encF_snoc]; exact hOG3
    · rw [List.length_append, HLP.out]; rfl
    · rw [List.append_nil, encF_snoc]; exact HLG.out
    · intro h; cases h
    · intro b hb hx
      rcases hfa b hb with e | e
      · rcases hff2 b hx with e2 | e2
        · exact h10 b e e2
        · have := (h17 _ (h11 b e)).2; omega
      · have := (HOG.out.block b hx).2; omega
    · exact hG _ _ w2 hsz2 hfa h11 (fun b hb => (HON.out.block b hb).2)
    · exact hG _ _ w2 hsz2 hfp h12 (fun b hb => (World.ownsRow.lt HP3.out b hb).2)
    · exact hG _ _ w (Nat.le_refl _) hff2 h13 (fun b hb => (hOG3.block b hb).2)
    · rintro i (hi | hi)
      · have := h17 i hi; omega
      · omega
    · omega
  · obtain ⟨th2, hfd, HTH3⟩ : ∃ th2 : Bool, f2 = (if th2 then some (k, .slice AG ng cg) else none) ∧ Hid (th2 = false → AG = none ∧ ng = 0 ∧ cg = 0 ∧ ps = [] ∧ (recF p).take (32 * lf) = []) := by
      rcases hfc with h | ⟨h, ha, hn, hc, he⟩
      · exact ⟨true, h, fun h => by cases h⟩
      · refine ⟨false, h, fun _ => ⟨ha, hn, hc, ?_, (List.append_eq_nil_iff.1 he).2⟩⟩
        have h1 := congrArg List.length (List.append_eq_nil_iff.1 he).1
        rw [List.length_nil] at h1
        have h2 := encF_len ps
        exact List.eq_nil_of_length_eq_zero (by omega)
    obtain ⟨AG', ng', cg', hee, HLG, HOG'⟩ := hF2.form
    simp only [Value.slice.injEq] at hee
    obtain ⟨-, hnn, -⟩ := hee
    rw [← hnn] at HLG
    clear HOG' hnn hfc
    have e02 := hc2.cell e0 KJ
    have e12 := hc2.cell e1 KJ
    refine hK.out _ _ ⟨e02, e12⟩ (fun hSw => ?_)
    clear hK
    try simp only [Act.put, List.setIfInBounds_toArray, List.set_cons_zero, List.set_cons_succ]
    refine wpAnyH_take (i := 10) (oi := { dst := some 6, op := Go.Op.assign (Go.Operand.tmp 30), type := 27, pos := "journal.go:82", after := #[{ on := 9, ground := Go.Ground.data }, { on := 9, ground := Go.Ground.chain }, { on := 0, ground := Go.Ground.phase }, { on := 1, ground := Go.Ground.phase }, { on := 2, ground := Go.Ground.phase }, { on := 3, ground := Go.Ground.phase }, { on := 4, ground := Go.Ground.phase }, { on := 5, ground := Go.Ground.phase }, { on := 6, ground := Go.Ground.phase }, { on := 7, ground := Go.Ground.phase }, { on := 8, ground := Go.Ground.phase }, { on := 9, ground := Go.Ground.phase }], guard := none }) (v := ?_) rfl (by kernel_rfl) (by kernel_rfl) (by kernel_rfl) (fun _ _ _ h => h) (Or.inl ⟨by rfl, ?_⟩) hSw ?_
    rotate_left
    · (intro W hW; obtain ⟨hq1, hq2⟩ := hW; go_simp; try with_reducible rfl)
    try simp only [Act.put, List.setIfInBounds_toArray, List.set_cons_zero, List.set_cons_succ]
    refine wpAnyH_done (by kernel_rfl) ?_ _
    have hcd : Chg No w w1.drew := HC1.out.drew
    have HC2 : Hid (Chg (DS d m (.slice AF nf cf)) w w2) := (hcd.mono (fun _ _ x => x.elim)).trans hc2 (fun _ _ x => x)
    have hnS : ∀ i, (i = j ∨ some i = (Value.slice A n c).ownBlock ∨ some i = (Value.slice AP np cp).ownBlock) → ¬ DS d m (.slice AF nf cf) i := by
      intro i hi hd
      rcases hd with rfl | rfl | hd
      · rcases hi with rfl | hi | hi
        · have h1 := (show w.heap[i]? = _ from HJ.out).symm.trans HD.out.1; cases h1
        · exact HD.out.nd HO.out (by decide) hi
        · exact HD.out.nd HP.out (by decide) hi
      · rcases hi with rfl | hi | hi
        · have h1 := (show w.heap[i]? = _ from HJ.out).symm.trans HD.out.2; unfold mapObj at h1; split at h1 <;> cases h1
        · exact HD.out.nm HO.out hi
        · exact HD.out.nm HP.out hi
      · rcases hi with rfl | hi | hi
        · exact HJ.out.nrow HF.out (by decide) hd
        · exact h10 i hi.symm hd.symm
        · exact rows_apart HP.out HF.out (by decide) i hi.symm hd.symm
    have hj2 : JCells w2 j d k (.slice A n c) (.slice AP np cp) (encF ps).length false := HC2.out.heap HJ.out (hnS j (.inl rfl))
    have ho2 : OwnB w2 base (.slice A n c) ps.flatten := HO.out.chg HC2.out (fun b hb => hnS b (.inr (.inl hb.symm)))
    have hp2 := ownsRow_chg HP.out HC2.out (fun b hb => hnS b (.inr (.inr hb.symm)))
    have hDS : ∀ i, DS d m (.slice AF nf cf) i → S i := by
      rintro i (rfl | rfl | e)
      · exact h15
      · exact h16
      · exact h13 i e.symm
    have HD2 := Lib.hid hD2
    have HF2 := Lib.hid hF2
    have HJ2 := Lib.hid hj2
    have HO2 := Lib.hid ho2
    have HP2 := Lib.hid hp2
    have hff2 : From w (.slice AF nf cf) (.slice AG ng cg) := fun b hb => (hff b hb).imp id (fun e => Nat.le_trans hcd.size e)
    have HFD := Lib.hid hfd
    have hsz2 := HC2.out.size
    have f5 := hj2.fr 5
    have c5 := hj2.c5
    clear hD2 hF2 hj2 ho2 hp2 hc2 hff hfd
    go_wp2
    go_ret
    obtain ⟨w3, hw3⟩ : ∃ w3, w3 = w2.setCell ⟨j, 5, none⟩ (.bool true) := ⟨_, rfl⟩
    rw [← hw3]
    have hc3 : Chg (One j) w2 w3 := by rw [hw3]; exact Chg.put _ _ _ _
    have hz3 := hc3.size
    have hj3 : JCells w3 j d k (.slice A n c) (.slice AP np cp) (encF ps).length true := by rw [hw3]; exact HJ2.out.set 5 (.bool true)
    have hjd : ¬ One j d := fun e => by
      have e : d = j := e
      rw [e] at HD; have h1 := (show w.heap[j]? = _ from HJ.out).symm.trans HD.out.1; cases h1
    have hjm : ¬ One j m := fun e => by
      have e : m = j := e
      rw [e] at HD; have h1 := (show w.heap[j]? = _ from HJ.out).symm.trans HD.out.2; unfold mapObj at h1; split at h1 <;> cases h1
    have hnr : ∀ {base size n : Nat} {e : TypeId} {v : Value} {xs : List Value}, w2.ownsRow base e size v n xs → e ≠ 112 → ∀ b, v.ownBlock = some b → ¬ One j b := fun ho he b hb e => HJ2.out.nrow ho he (by rw [hb]; exact congrArg some (show j = b from (show b = j from e).symm))
    have hD3 := HD2.out.chg hc3 hjd hjm
    have hCh : Chg S w w3 := (HC2.out.mono (fun i _ hi => hDS i hi)).trans hc3 (fun i _ e => by have e : i = j := e; rw [e]; exact h14)
    have hlen : (encF ps ++ (recF p).take (32 * lf)).length = ng := HLG.out
    have hn10 : ∀ b, (Value.slice A n c).ownBlock = some b → ¬ (Value.slice AG ng cg).ownBlock = some b := fun b hb hx => by
      rcases hff2 b hx with e | e
      · exact h10 b hb e
      · have := (h17 _ (h11 b hb)).2; omega
    have hnG : ∀ b, (Value.slice AG ng cg).ownBlock = some b → Grow S w w3 b := fun b hb => by
      rcases hff2 b hb with e | e
      · exact .inl (h13 b e)
      · have := (HF2.out.block b hb).2
        exact .inr ⟨e, by omega⟩
    refine ⟨.inr ⟨rfl, by have := HN1.out; omega, th2, ⟨A, n, c, AP, np, cp, AG, ng, cg, hj3, ?_, HO2.out.chg hc3 (hnr HO2.out (by decide)), ownsRow_chg HP2.out hc3 (hnr HP2.out (by decide)), HF2.out.chg hc3 (hnr HF2.out (by decide)), HL.out, HLP.out, hlen, HTH3.out, hn10, (fun b hb => .inl (h11 b hb)), (fun b hb => .inl (h12 b hb)), hnG, .inl h14, .inl h15, .inl h16, ?_, by omega⟩⟩, hCh⟩
    · rw [← HFD.out]; exact hD3
    · rintro i (hi | hi)
      · have := h17 i hi; omega
      · omega
theorem jappend_cut (lf : Nat) (x : List UInt8) (w : World) (S : Nat → Prop) (base j d m wr : Nat) (k : ByteArray) (th : Bool) (ps : List (List UInt8)) (v : Value) (h : JC lf x true w S base j d m wr k th ps) :
    Calls Try.prog 31 #[.pointer (some ⟨j, 0, none⟩), v] w fun e w' => e = .returned (.int .i64 6) ∧ w' = w := by
  obtain ⟨A, n, c, AP, np, cp, AF, nf, cf, h1, h2, h3, h4, h5, h6, h7, h8, h9, h10, h11, h12, h13, h14, h15, h16, h17, h18⟩ := h
  have c5 := h1.c5
  clear h1 h2 h3 h4 h5 h6 h7 h8 h9 h10 h11 h12 h13 h14 h15 h16 h17 h18
  go_enter Try.func31, Try.ntmps31
  go_wp2
  go_ret
  exact ⟨rfl, rfl⟩
end Go.Proofs.Ytccphnkdnifpfaa

namespace Go.Proofs.Ytccphnkdnifpfaa
set_option linter.unnecessarySimpa false
open Go.RowKit Go.MapKept
set_option linter.unusedVariables false
set_option linter.unusedSimpArgs false
set_option maxRecDepth 100000

/-- A store of rows ps, over a journal whose disk is cut; all of it lies in blocks of S. -/
def SG (lf : Nat) (x : List UInt8) (jc : Bool) (w : World) (S : Nat → Prop) (base s mp j d m wr : Nat) (th : Bool) (ps : List (List UInt8)) : Prop :=
  ∃ v SJ, SC w base s mp j v (ps.map idF) ∧ JC lf x jc w SJ base j d m wr objK th ps ∧ (∀ i, SJ i → S i ∧ i ≠ s ∧ i ≠ mp ∧ ¬ v.ownBlock = some i) ∧ S s ∧ S mp ∧ (∀ b, v.ownBlock = some b → S b) ∧ (∀ i, S i → base ≤ i ∧ i < w.heap.size) ∧ base ≤ w.heap.size
theorem SG.chg {lf : Nat} {x : List UInt8} {jc : Bool} {T S : Nat → Prop} {w w' : World} {base s mp j d m wr : Nat} {th : Bool} {ps : List (List UInt8)} (h : SG lf x jc w S base s mp j d m wr th ps) (hc : Chg T w w') (hs : ∀ i, S i → ¬ T i) : SG lf x jc w' S base s mp j d m wr th ps := by
  obtain ⟨v, SJ, h1, h2, h3, h4, h5, h6, h7, h8⟩ := h
  exact ⟨v, SJ, h1.chg hc (hs _ h4) (hs _ h5) (fun b hb => hs _ (h6 b hb)), h2.chg hc (fun i hi => hs _ (h3 i hi).1), h3, h4, h5, h6, fun i hi => ⟨(h7 i hi).1, Nat.lt_of_lt_of_le (h7 i hi).2 hc.size⟩, Nat.le_trans h8 hc.size⟩
theorem SG.no {lf : Nat} {x : List UInt8} {jc : Bool} {S : Nat → Prop} {w w' : World} {base s mp j d m wr : Nat} {th : Bool} {ps : List (List UInt8)} (h : SG lf x jc w S base s mp j d m wr th ps) (hc : Chg No w w') : SG lf x jc w' S base s mp j d m wr th ps := h.chg hc (fun _ _ x => x)
theorem SG.lt {lf : Nat} {x : List UInt8} {jc : Bool} {S : Nat → Prop} {w : World} {base s mp j d m wr : Nat} {th : Bool} {ps : List (List UInt8)} (h : SG lf x jc w S base s mp j d m wr th ps) : ∀ i, S i → base ≤ i ∧ i < w.heap.size := by
  obtain ⟨v, SJ, h1, h2, h3, h4, h5, h6, h7, h8⟩ := h; exact h7
theorem SG.ids {lf : Nat} {x : List UInt8} {jc : Bool} {S : Nat → Prop} {w : World} {base s mp j d m wr : Nat} {th : Bool} {ps : List (List UInt8)} (h : SG lf x jc w S base s mp j d m wr th ps) : ∃ v, SC w base s mp j v (ps.map idF) := by
  obtain ⟨v, SJ, h1, -⟩ := h; exact ⟨v, h1⟩
theorem sd_cut (w : World) (S : Nat → Prop) (base s mp j d m wr : Nat) (th : Bool) (ps : List (List UInt8)) (h : SD w S base s mp j d m wr th ps) (n : Nat) :
    Calls Try.prog 22 #[.pointer (some ⟨d, 0, none⟩), .int .i64 (n : Int)] w fun e w' => e = .returned (.int .i64 0) ∧ SG n [] false w' S base s mp j d m wr th ps ∧ Chg S w w' := by
  obtain ⟨v, SJ, h1, h2, h3, h4, h5, h6, h7, h8⟩ := h
  have hsd : SJ d := by
    obtain ⟨A, n, c, AP, np, cp, AF, nf, cf, g1, g2, g3, g4, g5, g6, g7, g8, g9, g10, g11, g12, g13, g14, g15, g16, g17, g18⟩ := h2
    exact g15
  obtain ⟨a, b, c, d'⟩ := h3 d hsd
  refine (jd_cut w SJ base j d m wr objK th ps h2 n).mono ?_
  rintro e w' ⟨rfl, hJ, hc⟩
  exact ⟨rfl, ⟨v, SJ, h1.chg hc (fun e => b (show s = d from e).symm) (fun e => c (show mp = d from e).symm) (fun k hk e => d' (by rw [hk]; exact congrArg some (show k = d from e))), hJ, h3, h4, h5, h6, fun i hi => ⟨(h7 i hi).1, Nat.lt_of_lt_of_le (h7 i hi).2 hc.size⟩, Nat.le_trans h8 hc.size⟩, hc.mono (fun i _ e => by have e : i = d := e; rw [e]; exact a)⟩
set_option maxHeartbeats 1600000 in
theorem sbytes_callsC (lf : Nat) (x : List UInt8) (jc : Bool) (w : World) (S : Nat → Prop) (base s mp j d m wr : Nat) (th : Bool) (ps : List (List UInt8)) (h : SG lf x jc w S base s mp j d m wr th ps) (hn : (encF ps).length ≤ 4194304) (i : Nat) :
    Calls Try.prog 13 #[.pointer (some ⟨s, 0, none⟩), .int .u64 (i : Int)] w fun e w' => BytesR w ps i e w' ∧ Chg No w w' := by
  obtain ⟨v, SJ, h1, h2, -⟩ := h
  obtain ⟨c0, c1, c2⟩ := cells3 h1.1
  cases hf : findI i (ps.map idF) with
  | none =>
    have hlk : Sem.run Try.prog (Instr.lookup 89 (.map (some mp)) (.int .u64 (i : Int)) true) w = .ok (.tuple #[.int .i64 0, .bool false]) w := lookI_none w mp i _ h1.2.1 hf
    have HB : Hid (∀ e w', BytesR w ps i e w' = (e = .returned (.tuple #[.slice none 0 0, .int .i64 4]))) := fun e w' => by rw [BytesR, hf]
    clear hf h1 h2
    go_enter Try.func13, Try.ntmps13
    go_wp2
    go_ret2
    exact ⟨by rw [HB.out]; try rfl, Chg.refl _ _⟩
  | some q =>
    obtain ⟨hq, -⟩ := findI_some hf
    rw [List.length_map] at hq
    have hlk : Sem.run Try.prog (Instr.lookup 89 (.map (some mp)) (.int .u64 (i : Int)) true) w = .ok (.tuple #[.int .i64 (q : Int), .bool true]) w := lookI_some w mp i q _ h1.2.1 hf
    have HB : Hid (∀ e w', BytesR w ps i e w' = ∃ v, e = .returned (.tuple #[v, .int .i64 0]) ∧ OwnB w' w.heap.size v (ps.getD q [])) := fun e w' => by rw [BytesR, hf]
    have HR := Lib.hid (record_inC lf x jc w SJ base j d m wr objK th ps q hq h2 hn)
    have HP : Hid (ps.getD q [] = ps[q]) := by rw [Hid, List.getD, List.getElem?_eq_getElem hq]; rfl
    clear hf h1 h2
    go_enter Try.func13, Try.ntmps13
    go_wp2_with fail
    refine HR.out.mono ?_
    rintro e w1 ⟨u, rfl, ho, hc⟩
    have HO := Lib.hid ho
    have HC := Lib.hid hc
    clear ho hc
    go_wp2
    go_ret2
    exact ⟨by rw [HB.out]; exact ⟨_, rfl, by rw [HP.out]; exact HO.out⟩, HC.out⟩
set_option maxHeartbeats 3200000 in
theorem put_thereC (lf : Nat) (x : List UInt8) (jc : Bool) (w : World) (S : Nat → Prop) (base s mp j d m wr : Nat) (th : Bool) (ps : List (List UInt8)) (h : SG lf x jc w S base s mp j d m wr th ps) (hn : (encF ps).length ≤ 4194304) (v : Value) (b : List UInt8) (hbl : b.length ≤ 140737488355328) (hen : Encodes w v 0 b) (q : Nat) (hq : findI (idF b) (ps.map idF) = some q) :
    Calls Try.prog 11 #[.pointer (some ⟨s, 0, none⟩), v] w fun e w' => e = .returned (if ps.getD q [] = b then .tuple #[.int .u64 (idF b : Int), .int .i64 0] else .tuple #[.int .u64 0, .int .i64 7]) ∧ Chg No w w' := by
  have HE := Lib.hid (hen w (Chg.refl _ _))
  have HS := Lib.hid h
  obtain ⟨R, hR⟩ : ∃ R, R = (if ps.getD q [] = b then Value.tuple #[.int .u64 (idF b : Int), .int .i64 0] else .tuple #[.int .u64 0, .int .i64 7]) := ⟨_, rfl⟩
  rw [← hR]
  have HR := Lib.hid hR
  clear hen h hR
  go_enter Try.func11, Try.ntmps11
  go_wp2_with fail
  refine HE.out.mono ?_
  rintro e w1 ⟨u, rfl, ho, hc⟩
  obtain ⟨A1, n1, c1, rfl, HL1, HO1⟩ := ho.form
  have HC1 := Lib.hid hc
  have HI := Lib.hid (id_calls w1 A1 n1 c1 b HO1.out.bytes HL1.out (by have := HL1.out; omega))
  have HBY := Lib.hid (sbytes_callsC lf x jc w1 S base s mp j d m wr th ps (HS.out.no hc) hn (idF b))
  have HBR : Hid (∀ e w', BytesR w1 ps (idF b) e w' → ∃ v, e = .returned (.tuple #[v, .int .i64 0]) ∧ OwnB w' w1.heap.size v (ps.getD q [])) := fun e w' h => by rw [BytesR, hq] at h; exact h
  generalize idF b = ib at *
  clear ho hc HE hq
  go_wp2_with fail
  refine HI.out.mono ?_
  rintro e w2 ⟨rfl, hw2⟩
  subst hw2
  go_wp2_with fail
  refine HBY.out.mono ?_
  rintro e w3 ⟨hr, hc3⟩
  obtain ⟨v3, rfl, ho3⟩ := HBR.out _ _ hr
  obtain ⟨A3, n3, c3, rfl, HL3, HO3⟩ := ho3.form
  have HC3 := Lib.hid (HC1.out.no hc3)
  have HEQ := Lib.hid (equal_calls w3 A3 n3 c3 (ps.getD q []) A1 n1 c1 b HO3.out.bytes (HO1.out.bytes.no hc3))
  clear hr hc3 ho3
  by_cases he : ps.getD q [] = b
  · have HF : Hid (R = .tuple #[.int .u64 (ib : Int), .int .i64 0]) := by rw [Hid, HR.out, if_pos he]
    rw [decide_eq_true he] at HEQ
    clear he HR
    go_wp2_with fail
    refine HEQ.out.mono ?_
    rintro e w4 ⟨rfl, hw4⟩
    subst hw4
    go_wp2
    go_ret2
    exact ⟨by rw [HF.out]; try rfl, HC3.out⟩
  · have HF : Hid (R = .tuple #[.int .u64 0, .int .i64 7]) := by rw [Hid, HR.out, if_neg he]
    rw [decide_eq_false he] at HEQ
    clear he HR
    go_wp2_with fail
    refine HEQ.out.mono ?_
    rintro e w4 ⟨rfl, hw4⟩
    subst hw4
    go_wp2
    go_ret2
    exact ⟨by rw [HF.out]; try rfl, HC3.out⟩
/-- What Put of a new object answers. -/
def PNR (lf : Nat) (w : World) (S : Nat → Prop) (base s mp j d m wr : Nat) (ps : List (List UInt8)) (b : List UInt8) (e : Ending) (w' : World) : Prop :=
  (e = .returned (.tuple #[.int .u64 (idF b : Int), .int .i64 0]) ∧ ((recF b).length + 31) / 32 ≤ lf ∧ SG (lf - ((recF b).length + 31) / 32) [] false w' (Grow S w w') base s mp j d m (wr + ((recF b).length + 31) / 32) true (ps ++ [b])) ∨ (e = .returned (.tuple #[.int .u64 0, .int .i64 6]) ∧ lf < ((recF b).length + 31) / 32 ∧ ∃ th', SG 0 ((recF b).take (32 * lf)) true w' (Grow S w w') base s mp j d m (wr + lf) th' ps)
set_option maxHeartbeats 6400000 in
theorem put_newC (lf : Nat) (hlf : lf ≤ 9223372036854775807) (w : World) (S : Nat → Prop) (base s mp j d m wr : Nat) (th : Bool) (ps : List (List UInt8)) (h : SG lf [] false w S base s mp j d m wr th ps) (v : Value) (b : List UInt8) (hbl : b.length ≤ 262144) (hen : Encodes w v 0 b) (hq : findI (idF b) (ps.map idF) = none)
    (hsum : (encF ps).length + (recF b).length ≤ 4194304) (hfew : ps.length < 65536) (hwr : wr < 9223372036850000000) :
    Calls Try.prog 11 #[.pointer (some ⟨s, 0, none⟩), v] w fun e w' => PNR lf w S base s mp j d m wr ps b e w' ∧ Chg S w w' := by
  have HE := Lib.hid (hen w (Chg.refl _ _))
  have HS := Lib.hid h
  obtain ⟨ib, hib⟩ : ∃ i, i = idF b := ⟨_, rfl⟩
  have HIB := Lib.hid hib
  have HPR : Hid (∀ e w', PNR lf w S base s mp j d m wr ps b e w' ↔ ((e = .returned (.tuple #[.int .u64 (ib : Int), .int .i64 0]) ∧ ((recF b).length + 31) / 32 ≤ lf ∧ SG (lf - ((recF b).length + 31) / 32) [] false w' (Grow S w w') base s mp j d m (wr + ((recF b).length + 31) / 32) true (ps ++ [b])) ∨ (e = .returned (.tuple #[.int .u64 0, .int .i64 6]) ∧ lf < ((recF b).length + 31) / 32 ∧ ∃ th', SG 0 ((recF b).take (32 * lf)) true w' (Grow S w w') base s mp j d m (wr + lf) th' ps))) := fun e w' => by rw [PNR, ← hib]
  clear hen h hib
  go_enter Try.func11, Try.ntmps11
  go_wp2_with fail
  refine HE.out.mono ?_
  rintro e w1 ⟨u, rfl, ho, hc⟩
  obtain ⟨A1, n1, c1, rfl, HL1, HO1⟩ := ho.form
  have HC1 := Lib.hid hc
  have HI := Lib.hid (id_calls w1 A1 n1 c1 b HO1.out.bytes HL1.out (by have := HL1.out; omega))
  have HBY := Lib.hid (sbytes_callsC lf [] false w1 S base s mp j d m wr th ps (HS.out.no hc) (by omega) (idF b))
  have HBR : Hid (∀ e w', BytesR w1 ps (idF b) e w' → e = .returned (.tuple #[.slice none 0 0, .int .i64 4])) := fun e w' h => by rw [BytesR, hq] at h; exact h
  have HQ := Lib.hid hq
  rw [← HIB.out] at HI HBY HBR HQ
  clear ho hc HE hq
  go_wp2_with fail
  refine HI.out.mono ?_
  rintro e w2 ⟨rfl, hw2⟩
  subst hw2
  go_wp2_with fail
  refine HBY.out.mono ?_
  rintro e w3 ⟨hr, hc3⟩
  obtain rfl := HBR.out _ _ hr
  have HC3 := Lib.hid (HC1.out.no hc3)
  have HO3 := Lib.hid (HO1.out.bytes.no hc3)
  obtain ⟨v0, SJ, hsc, hjd, hsj, hss, hsm, hsv, hslt, hsb⟩ := (HS.out.no HC3.out)
  obtain ⟨Av, cv, hv⟩ := hsc.form
  rw [List.length_map] at hv
  subst hv
  obtain ⟨c0, c1', c2'⟩ := cells3 hsc.1
  have hfi : ¬ (65536 : Int) ≤ (ps.length : Int) := by omega
  have hsltw : ∀ i, S i → i < w.heap.size := fun i hi => (HS.out.lt i hi).2
  have HJA := Lib.hid (jappend_callsC lf hlf w3 SJ base j d m wr objK (fun w => may_obj w) th ps A1 n1 c1 b hjd HO3.out HL1.out (fun x hx hs => by
    have h1 := HO1.out.lt x hx
    have := hsltw x (hsj x hs).1
    omega) (by have := HL1.out; omega) hsum hwr)
  have HSC := Lib.hid hsc
  have HJD := Lib.hid hjd
  have HSJ := Lib.hid hsj
  have HSL := Lib.hid hslt
  have HSV := Lib.hid hsv
  have HSS := Lib.hid (And.intro hss (And.intro hsm hslt))
  clear hr hc3 hsc hjd hsj HBR HBY HI hss hsm hslt hsv hsltw
  go_simp
  repeat (first | go_values | go_skip | go_guarded | go_step | go_upon | go_back)
  refine HJA.out.mono ?_
  rintro e w4 ⟨(⟨rfl, hpl, hj4⟩ | ⟨rfl, hpl, th', hj4⟩), hc4⟩
  · have hsz4 := hc4.size
    have HSC4 := Lib.hid (HSC.out.chg hc4 (fun hx => (HSJ.out _ hx).2.1 rfl) (fun hx => (HSJ.out _ hx).2.2.1 rfl) (fun b hb hx => (HSJ.out _ hx).2.2.2 hb))
    have HJL : Hid (Calls Try.prog 38 #[.pointer (some ⟨j, 0, none⟩)] w4 fun e w' => e = .returned (.int .i64 ((ps.length : Int) + 1)) ∧ w' = w4) := by
      have := jlen_callsC _ _ _ w4 _ base j d m _ objK true _ hj4
      rw [List.length_append, List.length_cons, List.length_nil] at this
      rw [Hid]; simpa using this
    have HNT := Lib.hid (note_calls w4 base s mp j _ (ps.map idF) ib HSC4.out HQ.out (by rw [List.length_map]; omega) (Nat.le_trans hsb hsz4))
    rw [List.length_map] at HNT
    obtain ⟨d0, d1, d2⟩ := cells3 HSC4.out.1
    have HJ4 := Lib.hid hj4
    have HC4 := Lib.hid hc4
    clear hj4 hc4 HJA HJD HSC c0 c1' c2'
    go_simp
    repeat (first | go_values | go_skip | go_guarded | go_step | go_upon | go_back)
    refine HJL.out.mono ?_
    rintro e w5 ⟨rfl, hw5⟩
    subst hw5
    go_simp
    repeat (first | go_values | go_skip | go_guarded | go_step | go_upon | go_back)
    refine HNT.out.mono ?_
    rintro e w6 ⟨rfl, v6, hsc6, hc6, hf6⟩
    have HSC6 := Lib.hid hsc6
    have HC6 := Lib.hid hc6
    have HF6 := Lib.hid hf6
    clear hsc6 hc6 hf6 HNT HJL
    go_wp2
    go_ret2
    obtain ⟨hss, hsm, hslt⟩ := HSS.out
    have hsltw : ∀ i, S i → base ≤ i ∧ i < w.heap.size := HS.out.lt
    have hz3 := HC3.out.size
    have hz4 := HC4.out.size
    have hz6 := HC6.out.size
    have hcall : Chg S w w6 := by
      refine (((HC3.out.mono (S' := S) (fun i _ x => x.elim)).trans (HC4.out.mono (S' := S) (fun i _ hx => (HSJ.out i hx).1)) (fun i _ x => x)).trans (HC6.out.mono (S' := S) (fun i _ hx => ?_)) (fun i _ x => x))
      rcases hx with rfl | rfl | hx
      · exact hss
      · exact hsm
      · exact HSV.out _ hx
    refine ⟨(HPR.out _ _).2 (.inl ⟨rfl, hpl, ⟨v6, Grow SJ w3 w5, ?_, ?_, ?_, .inl hss, .inl hsm, ?_, ?_, ?_⟩⟩), hcall⟩
    · have := HSC6.out
      rw [List.map_append, List.map_cons, List.map_nil, ← HIB.out]; exact this
    · refine HJ4.out.chg HC6.out (fun i hi hx => ?_)
      rcases hi with hi | ⟨hi1, hi2⟩
      · obtain ⟨-, h1, h2, h3⟩ := HSJ.out i hi
        rcases hx with rfl | rfl | hx
        · exact h1 rfl
        · exact h2 rfl
        · exact h3 hx
      · have h1 := (hslt _ hss).2
        have h2 := (hslt _ hsm).2
        rcases hx with rfl | rfl | hx
        · omega
        · omega
        · have := (hslt _ (HSV.out _ hx)).2
          omega
    · intro i hi
      rcases hi with hi | ⟨hi1, hi2⟩
      · obtain ⟨h0, h1, h2, h3⟩ := HSJ.out i hi
        refine ⟨.inl h0, h1, h2, fun hx => ?_⟩
        rcases HF6.out i hx with h | h
        · exact h3 h
        · have := (hslt _ h0).2
          omega
      · have h1 := (hslt _ hss).2
        have h2 := (hslt _ hsm).2
        refine ⟨.inr ⟨by omega, by omega⟩, by omega, by omega, fun hx => ?_⟩
        rcases HF6.out i hx with h | h
        · have := (hslt _ (HSV.out _ h)).2
          omega
        · omega
    · intro b hb
      rcases HF6.out b hb with h | h
      · exact .inl (HSV.out _ h)
      · right
        have h1 := (World.ownsRow.lt HSC6.out.2.2.1 b hb).2
        exact ⟨by omega, h1⟩
    · intro i hi
      rcases hi with hi | ⟨hi1, hi2⟩
      · have := hsltw i hi
        exact ⟨this.1, by omega⟩
      · have := (hsltw _ hss).1
        have h2 := (hsltw _ hss).2
        exact ⟨by omega, hi2⟩
    · omega
  · have HSC4 := Lib.hid (HSC.out.chg hc4 (fun hx => (HSJ.out _ hx).2.1 rfl) (fun hx => (HSJ.out _ hx).2.2.1 rfl) (fun b hb hx => (HSJ.out _ hx).2.2.2 hb))
    have HJ4 := Lib.hid hj4
    have HC4 := Lib.hid hc4
    have hsz4 := hc4.size
    clear hj4 hc4 HJA HJD HSC c0 c1' c2'
    go_wp2
    go_ret2
    obtain ⟨hss, hsm, hslt⟩ := HSS.out
    have hsltw : ∀ i, S i → base ≤ i ∧ i < w.heap.size := HS.out.lt
    have hz3 := HC3.out.size
    have hcall : Chg S w w4 := (HC3.out.mono (S' := S) (fun i _ x => x.elim)).trans (HC4.out.mono (S' := S) (fun i _ hx => (HSJ.out i hx).1)) (fun i _ x => x)
    refine ⟨(HPR.out _ _).2 (.inr ⟨rfl, hpl, th', ⟨_, Grow SJ w3 w4, HSC4.out, HJ4.out, ?_, .inl hss, .inl hsm, (fun b hb => .inl (HSV.out b hb)), ?_, by omega⟩⟩), hcall⟩
    · intro i hi
      rcases hi with hi | ⟨hi1, hi2⟩
      · obtain ⟨h0, h1, h2, h3⟩ := HSJ.out i hi
        exact ⟨.inl h0, h1, h2, h3⟩
      · have h1 := (hslt _ hss).2
        have h2 := (hslt _ hsm).2
        refine ⟨.inr ⟨by omega, by omega⟩, by omega, by omega, fun hx => ?_⟩
        have := (hslt _ (HSV.out _ hx)).2
        omega
    · intro i hi
      rcases hi with hi | ⟨hi1, hi2⟩
      · have := hsltw i hi
        exact ⟨this.1, by omega⟩
      · have := (hsltw _ hss).1
        have h2 := (hsltw _ hss).2
        exact ⟨by omega, hi2⟩
set_option maxHeartbeats 6400000 in
theorem put_cut (lf : Nat) (x : List UInt8) (w : World) (S : Nat → Prop) (base s mp j d m wr : Nat) (th : Bool) (ps : List (List UInt8)) (h : SG lf x true w S base s mp j d m wr th ps) (v : Value) (b : List UInt8) (hbl : b.length ≤ 262144) (hen : Encodes w v 0 b) (hq : findI (idF b) (ps.map idF) = none)
    (hsum : (encF ps).length + (recF b).length ≤ 4194304) (hfew : ps.length < 65536) (hwr : wr < 9223372036850000000) :
    Calls Try.prog 11 #[.pointer (some ⟨s, 0, none⟩), v] w fun e w' => e = .returned (.tuple #[.int .u64 0, .int .i64 6]) ∧ Chg No w w' := by
  have HE := Lib.hid (hen w (Chg.refl _ _))
  have HS := Lib.hid h
  obtain ⟨ib, hib⟩ : ∃ i, i = idF b := ⟨_, rfl⟩
  have HIB := Lib.hid hib
  clear hen h hib
  go_enter Try.func11, Try.ntmps11
  go_wp2_with fail
  refine HE.out.mono ?_
  rintro e w1 ⟨u, rfl, ho, hc⟩
  obtain ⟨A1, n1, c1, rfl, HL1, HO1⟩ := ho.form
  have HC1 := Lib.hid hc
  have HI := Lib.hid (id_calls w1 A1 n1 c1 b HO1.out.bytes HL1.out (by have := HL1.out; omega))
  have HBY := Lib.hid (sbytes_callsC lf x true w1 S base s mp j d m wr th ps (HS.out.no hc) (by omega) (idF b))
  have HBR : Hid (∀ e w', BytesR w1 ps (idF b) e w' → e = .returned (.tuple #[.slice none 0 0, .int .i64 4])) := fun e w' h => by rw [BytesR, hq] at h; exact h
  have HQ := Lib.hid hq
  rw [← HIB.out] at HI HBY HBR HQ
  clear ho hc HE hq
  go_wp2_with fail
  refine HI.out.mono ?_
  rintro e w2 ⟨rfl, hw2⟩
  subst hw2
  go_wp2_with fail
  refine HBY.out.mono ?_
  rintro e w3 ⟨hr, hc3⟩
  obtain rfl := HBR.out _ _ hr
  have HC3 := Lib.hid (HC1.out.no hc3)
  have HO3 := Lib.hid (HO1.out.bytes.no hc3)
  obtain ⟨v0, SJ, hsc, hjd, hsj, hss, hsm, hsv, hslt, hsb⟩ := (HS.out.no HC3.out)
  obtain ⟨Av, cv, hv⟩ := hsc.form
  rw [List.length_map] at hv
  subst hv
  obtain ⟨c0, c1', c2'⟩ := cells3 hsc.1
  have hfi : ¬ (65536 : Int) ≤ (ps.length : Int) := by omega
  have hsltw : ∀ i, S i → i < w.heap.size := fun i hi => (HS.out.lt i hi).2
  have HJA := Lib.hid (jappend_cut lf x w3 SJ base j d m wr objK th ps (.slice A1 n1 c1) hjd)
  have HSC := Lib.hid hsc
  have HJD := Lib.hid hjd
  have HSJ := Lib.hid hsj
  have HSL := Lib.hid hslt
  have HSV := Lib.hid hsv
  have HSS := Lib.hid (And.intro hss (And.intro hsm hslt))
  clear hr hc3 hsc hjd hsj HBR HBY HI hss hsm hslt hsv hsltw
  go_simp
  repeat (first | go_values | go_skip | go_guarded | go_step | go_upon | go_back)
  refine HJA.out.mono ?_
  rintro e w4 ⟨rfl, hw4⟩
  subst hw4
  go_wp2
  go_ret2
  exact ⟨rfl, HC3.out⟩
end Go.Proofs.Ytccphnkdnifpfaa

namespace Go.Proofs.Ytccphnkdnifpfaa
set_option linter.unnecessarySimpa false
open Go.RowKit Go.Shelf
set_option linter.unusedVariables false
set_option linter.unusedSimpArgs false
set_option maxRecDepth 100000

attribute [local go_sem] Oper.semAt_some
/-- A piece of a record's bytes is no record. -/
theorem step_part (p : List UInt8) (q : Nat) (hp : p.length ≤ 262144) (hq : q = 0 ∨ 10 ≤ q) (hlt : q < (recF p).length) : stepF ((recF p).take q) = none := by
  rcases hq with rfl | hq
  · simp [stepF]
  have h10 := leb_len10 p.length (by omega)
  have e : (recF p).take q = leb p.length ++ ((p ++ wide (hashF p)).take (q - (leb p.length).length)) := by
    rw [recF, List.append_assoc, List.take_append, List.take_of_length_le (by omega)]
  have hN : numF 0 0 ((recF p).take q) = (p.length, (leb p.length).length, 0) := by
    rw [e]; exact numF_leb_whole _ (by omega) _
  have hl : ((recF p).take q).length = q := by rw [List.length_take]; omega
  have hr : (recF p).length = (leb p.length).length + p.length + 8 := by simp only [recF, List.length_append, wide_len]
  unfold stepF
  rw [hN]
  simp only
  rw [if_neg (fun h => h.elim (fun h => by rw [h] at hl; simp only [List.length_nil] at hl; omega) (fun h => by have h : (0 : Int) = 110 := h; omega)), if_neg (by rintro (h | h); exact h rfl; omega), if_pos (by omega)]
theorem Rds.ofPart : ∀ (K : List (List UInt8)) (x : List UInt8), (∀ p ∈ K, p.length ≤ 262144) → stepF x = none → Rds (encF K ++ x) K false
  | [], x, _, h => Rds.stop (by simpa [encF] using h)
  | p :: K, x, h, hx => by
    have e : encF (p :: K) ++ x = recF p ++ (encF K ++ x) := by simp [encF]
    rw [e]
    refine Rds.more (step_enc p _ (h p (by simp))) ?_
    rw [List.drop_left]
    exact Rds.ofPart K x (fun q hq => h q (by simp [hq])) hx
set_option maxHeartbeats 6400000 in
theorem sopen_part_core (n : Nat) (hn : 3 ≤ n) (w : World) (base d m nw : Nat) (th : Bool) (AF : Option Addr) (nf cf : Nat) (file : List UInt8) (ps : List (List UInt8)) (hR : Rds file ps false)
    (hD : DiskAt w d m nw (if th then some (objK, .slice AF nf cf) else none)) (ho : OwnB w base (.slice AF nf cf) file) (hl : file.length = nf) (hth : th = false → AF = none ∧ nf = 0 ∧ cf = 0) (hnf : nf ≤ 4194304) (hps : ∀ p ∈ ps, p.length ≤ 262144) (hen : (encF ps).length ≤ 4194304) (hfew : ps.length ≤ 65536) (hw : nw < 9223372036850000000) (hbd : base ≤ d ∧ base ≤ m) (hb : base ≤ w.heap.size) :
    CallsIn Fence.wide n Try.prog 10 #[.pointer (some ⟨d, 0, none⟩)] w fun e W' => ∃ nw2, nw2 ≤ nw + 1 ∧ SOpenR w (fun i => i = d ∨ i = m ∨ some i = (Value.slice AF nf cf).ownBlock) base d m nw2 th ps e W' ∧ Chg (DM d m) w W' := by
  have h1 : 1 ≤ n := by omega
  have hdl : d < w.heap.size := (Array.getElem?_eq_some_iff.1 hD.1).1
  have hml : m < w.heap.size := (Array.getElem?_eq_some_iff.1 hD.2).1
  have HSl : Hid (∀ i, (i = d ∨ i = m ∨ some i = (Value.slice AF nf cf).ownBlock) → base ≤ i ∧ i < w.heap.size) := by
    rintro i (rfl | rfl | h)
    · exact ⟨hbd.1, hdl⟩
    · exact ⟨hbd.2, hml⟩
    · exact ho.block i h.symm
  have HPS := Lib.hid hps
  have hmm := @run_makeMap Try.prog
  have X1 := ((Chg.refl No w).alloc (.cells #[.pointer none] 26)).alloc (.cells #[.int .i64 0] 27)
  have HFO : Hid (Calls Try.prog 29 #[.pointer (some ⟨d, 0, none⟩), .string objK] ((w.alloc (.cells #[.pointer none] 26)).alloc (.cells #[.int .i64 0] 27)) fun e w' => ∃ j SJ nw2, e = .returned (.tuple #[.pointer (some ⟨j, 0, none⟩), .int .i64 0]) ∧ nw2 ≤ nw + 1 ∧ JD w' SJ base j d m nw2 objK th ps ∧ Chg (DM d m) ((w.alloc (.cells #[.pointer none] 26)).alloc (.cells #[.int .i64 0] 27)) w' ∧ ∀ i, SJ i → (i = d ∨ i = m ∨ some i = (Value.slice AF nf cf).ownBlock) ∨ ((w.alloc (.cells #[.pointer none] 26)).alloc (.cells #[.int .i64 0] 27)).heap.size ≤ i) := by
    refine (open_calls ((w.alloc (.cells #[.pointer none] 26)).alloc (.cells #[.int .i64 0] 27)) base d m nw objK th AF nf cf file ps false hR (hD.no X1) (OwnB.chg ho X1 (fun _ _ x => x)) hl hth hnf hw hbd (by simp only [World.size_alloc]; omega)).mono ?_
    rintro e w' ⟨-, h2⟩
    obtain ⟨j, he, nw2, hn2, -, hJ, hc, hj⟩ := h2 rfl
    exact ⟨j, _, nw2, he, hn2, hJ, hc, fun i hi => hi.imp id (fun h => h.1)⟩
  have B2 := (Boxed.new w 26 (.pointer none)).alloc (.cells #[.int .i64 0] 27)
  have B3 := Boxed.new (w.alloc (.cells #[.pointer none] 26)) 27 (.int .i64 0)
  rw [World.size_alloc] at B3
  have hs1 : ((w.alloc (.cells #[.pointer none] 26)).alloc (.cells #[.int .i64 0] 27)).heap.size = w.heap.size + 2 := by simp only [World.size_alloc]
  have HX1 := Lib.hid X1
  have HB2 := Lib.hid B2
  have HB3 := Lib.hid B3
  clear hD ho hl hth hR X1 B2 B3 hps
  refine callsIn_of_wp_marks Try.func10 rfl trivial ?_ rfl
  simp only [Try.ntmps10, List.size_toArray, List.length_cons, List.length_nil, Nat.reduceAdd, Nat.reduceSub, Array.replicate_succ, Array.replicate_zero, List.push_toArray, List.append_toArray, List.nil_append, List.cons_append]
  gi_wp2_with (refine ⟨trivial, ?_⟩; gi_at_call 29; refine (callsIn_wide.2 HFO.out).mono ?_; rintro e w2 ⟨j, SJ, nw2, rfl, hnw2, hJ, hc2, hwh⟩; refine Hid.out ?_)
  refine Lib.hid ?_
  rw [hs1] at hwh
  have HWH : Hid (∀ i, SJ i → i ≠ w.heap.size ∧ i ≠ w.heap.size + 1) := fun i hi => by
    rcases hwh i hi with h | h
    · have := (HSl.out i h).2; omega
    · omega
  have HWH2 : Hid (∀ i, SJ i → (i = d ∨ i = m ∨ some i = (Value.slice AF nf cf).ownBlock) ∨ w.heap.size ≤ i) := fun i hi => (hwh i hi).imp id (fun h => by omega)
  have hsz2 : w.heap.size + 2 ≤ w2.heap.size := by have := hc2.size; omega
  have HJ := Lib.hid hJ
  have HC2 : Hid (Chg (DM d m) w w2) := (HX1.out.mono (S' := DM d m) (fun i _ x => x.elim)).trans hc2 (fun i _ x => x)
  have HB22 : Hid (Boxed w2 w.heap.size 26 (.pointer none)) := hc2.heap HB2.out (fun e => by rcases e with e | e <;> omega)
  have HB32 : Hid (Boxed w2 (w.heap.size + 1) 27 (.int .i64 0)) := hc2.heap HB3.out (fun e => by rcases e with e | e <;> omega)
  clear hJ hc2 HFO HB2 HB3 HX1 hs1 hwh
  gi_wp2_with (refine ⟨trivial, ?_⟩; gi_at_call 33; refine (callsIn_wide.2 (each_calls _ _)).mono ?_; rintro e w' ⟨rfl, rfl⟩)
  have Y5 : Chg No w2 ((((w2.alloc (.map #[] 0)).alloc (.cells #[.pointer (some ⟨j, 0, none⟩), .map (some w2.heap.size), .slice none 0 0] 91)).alloc (.cells #[.pointer (some ⟨w2.heap.size + 1, 0, none⟩)] 26)).alloc (.cells #[.pointer (some ⟨j, 0, none⟩)] 80)) := ((((Chg.refl No w2).alloc _).alloc _).alloc _).alloc _
  have hz5 : ((((w2.alloc (.map #[] 0)).alloc (.cells #[.pointer (some ⟨j, 0, none⟩), .map (some w2.heap.size), .slice none 0 0] 91)).alloc (.cells #[.pointer (some ⟨w2.heap.size + 1, 0, none⟩)] 26)).alloc (.cells #[.pointer (some ⟨j, 0, none⟩)] 80)).heap.size = w2.heap.size + 4 := by simp only [World.size_alloc]
  have gm := heap_alloc_new w2 (.map #[] 0)
  have gs := heap_alloc_new (w2.alloc (.map #[] 0)) (.cells #[.pointer (some ⟨j, 0, none⟩), .map (some w2.heap.size), .slice none 0 0] 91)
  have g6 := Boxed.new ((w2.alloc (.map #[] 0)).alloc (.cells #[.pointer (some ⟨j, 0, none⟩), .map (some w2.heap.size), .slice none 0 0] 91)) 26 (.pointer (some ⟨w2.heap.size + 1, 0, none⟩))
  have gj := Boxed.new (((w2.alloc (.map #[] 0)).alloc (.cells #[.pointer (some ⟨j, 0, none⟩), .map (some w2.heap.size), .slice none 0 0] 91)).alloc (.cells #[.pointer (some ⟨w2.heap.size + 1, 0, none⟩)] 26)) 80 (.pointer (some ⟨j, 0, none⟩))
  simp only [World.size_alloc] at gs g6 gj
  have gm5 : ((((w2.alloc (.map #[] 0)).alloc (.cells #[.pointer (some ⟨j, 0, none⟩), .map (some w2.heap.size), .slice none 0 0] 91)).alloc (.cells #[.pointer (some ⟨w2.heap.size + 1, 0, none⟩)] 26)).alloc (.cells #[.pointer (some ⟨j, 0, none⟩)] 80)).heap[w2.heap.size]? = some (mapI []) := ((((Chg.refl No (w2.alloc (.map #[] 0))).alloc _).alloc _).alloc _).heap gm (fun x => x)
  have gs5 : ((((w2.alloc (.map #[] 0)).alloc (.cells #[.pointer (some ⟨j, 0, none⟩), .map (some w2.heap.size), .slice none 0 0] 91)).alloc (.cells #[.pointer (some ⟨w2.heap.size + 1, 0, none⟩)] 26)).alloc (.cells #[.pointer (some ⟨j, 0, none⟩)] 80)).heap[w2.heap.size + 1]? = some (.cells #[.pointer (some ⟨j, 0, none⟩), .map (some w2.heap.size), .slice none 0 0] 91) := (((Chg.refl No ((w2.alloc (.map #[] 0)).alloc (.cells #[.pointer (some ⟨j, 0, none⟩), .map (some w2.heap.size), .slice none 0 0] 91))).alloc _).alloc _).heap gs (fun x => x)
  have g65 : Boxed ((((w2.alloc (.map #[] 0)).alloc (.cells #[.pointer (some ⟨j, 0, none⟩), .map (some w2.heap.size), .slice none 0 0] 91)).alloc (.cells #[.pointer (some ⟨w2.heap.size + 1, 0, none⟩)] 26)).alloc (.cells #[.pointer (some ⟨j, 0, none⟩)] 80)) (w2.heap.size + 1 + 1) 26 (.pointer (some ⟨w2.heap.size + 1, 0, none⟩)) := g6.alloc _
  have gj5 : Boxed ((((w2.alloc (.map #[] 0)).alloc (.cells #[.pointer (some ⟨j, 0, none⟩), .map (some w2.heap.size), .slice none 0 0] 91)).alloc (.cells #[.pointer (some ⟨w2.heap.size + 1, 0, none⟩)] 26)).alloc (.cells #[.pointer (some ⟨j, 0, none⟩)] 80)) (w2.heap.size + 1 + 1 + 1) 80 (.pointer (some ⟨j, 0, none⟩)) := gj
  have hB25 : Boxed ((((w2.alloc (.map #[] 0)).alloc (.cells #[.pointer (some ⟨j, 0, none⟩), .map (some w2.heap.size), .slice none 0 0] 91)).alloc (.cells #[.pointer (some ⟨w2.heap.size + 1, 0, none⟩)] 26)).alloc (.cells #[.pointer (some ⟨j, 0, none⟩)] 80)) w.heap.size 26 (.pointer none) := Y5.heap HB22.out (fun x => x)
  have hB35 : Boxed ((((w2.alloc (.map #[] 0)).alloc (.cells #[.pointer (some ⟨j, 0, none⟩), .map (some w2.heap.size), .slice none 0 0] 91)).alloc (.cells #[.pointer (some ⟨w2.heap.size + 1, 0, none⟩)] 26)).alloc (.cells #[.pointer (some ⟨j, 0, none⟩)] 80)) (w.heap.size + 1) 27 (.int .i64 0) := Y5.heap HB32.out (fun x => x)
  have HJ5 := Lib.hid (HJ.out.no Y5)
  have HC5 : Hid (Chg (DM d m) w ((((w2.alloc (.map #[] 0)).alloc (.cells #[.pointer (some ⟨j, 0, none⟩), .map (some w2.heap.size), .slice none 0 0] 91)).alloc (.cells #[.pointer (some ⟨w2.heap.size + 1, 0, none⟩)] 26)).alloc (.cells #[.pointer (some ⟨j, 0, none⟩)] 80))) := HC2.out.no Y5
  have hSJ : Hid (∀ i, SJ i → i < w2.heap.size) := fun i hi => (HJ.out.lt i hi).2
  clear gm gs g6 gj hmm HB22 HB32 HJ HC2
  generalize ((((w2.alloc (.map #[] 0)).alloc (.cells #[.pointer (some ⟨j, 0, none⟩), .map (some w2.heap.size), .slice none 0 0] 91)).alloc (.cells #[.pointer (some ⟨w2.heap.size + 1, 0, none⟩)] 26)).alloc (.cells #[.pointer (some ⟨j, 0, none⟩)] 80)) = W5 at *
  have hcs := HC5.out.size
  have z5 : w2.heap.size + 4 = W5.heap.size := hz5.symm
  refine wpIn_rangeFunc_C rfl h1 (gf := 64) (lb := #[.pointer (some ⟨w2.heap.size + 1 + 1 + 1, 0, none⟩)]) rfl trivial (enters_of Try.func64 (by kernel_rfl) rfl)
    (each_seq (n - 1) (by omega) w2.heap.size W5 SJ base j d m nw2 objK th ps HJ5.out hen (w2.heap.size + 1 + 1 + 1) gj5 (by omega) hSJ.out) keepsEach_t (keepsEach_b (by omega)) (fun _ => rfl) (rcAt_own0 _ _ _)
    (fun pre W => ((∃ v, SC W base (w2.heap.size + 1) w2.heap.size j v (pre.map fun x => idF x.2.2) ∧ ∀ b, v.ownBlock = some b → W5.heap.size ≤ b) ∧ okF [] (pre.map (·.2.2)) = true) ∧ Chg (fun i => i = w2.heap.size + 1 ∨ i = w2.heap.size) W5 W)
    (fun W => (Boxed W w.heap.size 26 (.pointer none) ∧ Boxed W (w.heap.size + 1) 27 (.int .i64 8)) ∧ okF [] ps = false ∧ Chg (DM d m) w W)
    ?own1 ?own2
    ⟨⟨⟨.slice none 0 0, ⟨gs5, gm5, World.ownsRow_nil _ _ _ _, by omega, by omega⟩, fun b hb => by cases hb⟩, rfl⟩, Chg.refl _ _⟩
    ?frame ?assign ?body ?done ?stop
  case own1 =>
    rintro pre X Y row ⟨⟨⟨v, hs, hv⟩, hok⟩, hch⟩ hg hr
    exact ⟨⟨⟨v, hs.kept hg hr (by omega), hv⟩, hok⟩, hch.grown hg (fun k e => .inl (hr k e).1)⟩
  case own2 =>
    rintro u X Y row ⟨⟨b0, b1⟩, hok, hch⟩ hg hr
    exact ⟨⟨boxed_kept b0 hg hr, boxed_kept b1 hg hr⟩, hok, hch.grown hg (fun k e => .inl (by have := (hr k e).1; omega))⟩
  case assign =>
    intro l x W K hK
    gi_wp2
    exact hK
  case stop =>
    rintro D W hD ⟨⟨b0, b1⟩, hok, hch⟩ hK
    have d2 := Lib.hid b0.cell
    have d3 := Lib.hid b1.cell
    have hg9 := grownBy_putObj' W D (.deferred none)
    have hk9 : ∀ r, some D = some r → ∃ o : Obj, W.heap[r]? = some o ∧ o.isCells = false := fun r e => by cases e; exact ⟨_, hK, rfl⟩
    have d2 := cell_kept b0.cell hg9 hk9
    have d3 := cell_kept b1.cell hg9 hk9
    gi_wp2
    refine ⟨by simp, .inl ⟨_, _, rfl, run_takeDeferred hK, ?_⟩⟩
    refine ⟨.tuple #[.pointer none, .int .i64 8], ?_, nw2, hnw2, ⟨fun h => (by rw [hok] at h; cases h), fun _ => rfl⟩, hch.grown hg9 (fun k e => .inl (by cases e; omega))⟩
    simp [results, Try.f10, go_sem, d2, d3]
  case body =>
    rintro l pre ⟨kx, vx, p⟩ W ⟨⟨⟨v, hsc, hvb⟩, hok⟩, hch⟩ ⟨hx1, hx2, hx3, hx4⟩
    dsimp only at hx1 hx3 hx4
    subst hx1
    have hpl : p.length ≤ 262144 := HPS.out p (List.mem_of_getElem? hx3)
    have hplt := (List.getElem?_eq_some_iff.1 hx3).1
    have HIDS : Hid ((pre.map fun x => idF x.2.2) = (ps.take pre.length).map idF) := by
      rw [Hid, ← hx2, List.map_map]; rfl
    have HBAD := Lib.hid (fun hb => okF_bad (k := pre.length) (p := p) hx3 hb)
    have HOKS : Hid (okF [] ((pre ++ [(pre.length, vx, p)]).map (·.2.2)) = ((decF p).isSome && (findI (idF p) (pre.map fun x => idF x.2.2)).isNone)) := by
      rw [Hid, List.map_append, List.map_cons, List.map_nil, okF_snoc, hok, Bool.true_and, List.map_map]; rfl
    have HIDL : Hid ((pre.map fun x => idF x.2.2).length = pre.length) := List.length_map _
    have HIDN : Hid (((pre ++ [(pre.length, vx, p)]).map fun x => idF x.2.2) = (pre.map fun x => idF x.2.2) ++ [idF p]) := by rw [Hid, List.map_append]; rfl
    obtain ⟨A, q, c, rfl, HLV, HOV⟩ := hx4.form
    have HID := Lib.hid (id_calls W A q c p HOV.out.bytes HLV.out (by have := HLV.out; omega))
    have HDE := Lib.hid (decode_calls W A q c p HOV.out.bytes HLV.out (by have := HLV.out; omega))
    have b6 : Boxed W (w2.heap.size + 1 + 1) 26 (.pointer (some ⟨w2.heap.size + 1, 0, none⟩)) := hch.heap g65 (fun e => by rcases e with e | e <;> omega)
    have b2 : Boxed W w.heap.size 26 (.pointer none) := hch.heap hB25 (fun e => by rcases e with e | e <;> omega)
    have b3 : Boxed W (w.heap.size + 1) 27 (.int .i64 0) := hch.heap hB35 (fun e => by rcases e with e | e <;> omega)
    have hWs := hch.size
    have HSC := Lib.hid hsc
    have HVB := Lib.hid hvb
    have HCH := Lib.hid hch
    have c6 := b6.cell
    obtain ⟨e0, e1, e2⟩ := cells3 hsc.1
    have HB2 := Lib.hid b2
    have HB3 := Lib.hid b3
    have HB6 := Lib.hid b6
    obtain ⟨ip, hip⟩ : ∃ i, i = idF p := ⟨_, rfl⟩
    rw [← hip] at HID HOKS HIDN HBAD
    obtain ⟨ids, hids⟩ : ∃ ids, ids = (pre.map fun x : Rc => idF x.2.2) := ⟨_, rfl⟩
    rw [← hids] at HSC HOKS HIDL HIDN HIDS
    rw [← HIDS.out] at HBAD
    have hlm := hsc.2.1
    rw [← hids] at hlm
    generalize hml : pre.length = ml at *
    have HML := Lib.hid hml
    clear hx2 hx3 hx4 hip hids hsc hvb hch hok b2 b3 b6 hml HIDS
    cases hfi : findI ip ids with
    | some q0 =>
      have hlk : Sem.run Try.prog (Instr.lookup 89 (.map (some w2.heap.size)) (.int .u64 (ip : Int)) true) W = .ok (.tuple #[.int .i64 (q0 : Int), .bool true]) W := lookI_some W w2.heap.size ip q0 ids hlm hfi
      have HOKF : Hid (okF [] ps = false) := HBAD.out (.inr (by rw [hfi]; rfl))
      clear hfi hlm
      cases hdp : decF p with
      | none =>
        have HDR : Hid (∀ e w', DecR W.heap.size w' e (decF p) → e = .returned (.tuple #[.nilIface, .int .i64 8])) := fun e w' h => by rw [hdp] at h; exact h
        clear hdp
        gi_wp2_with (first | (refine ⟨trivial, (fun h => by cases h), ?_⟩; gi_at_call 15; refine (CallsIn.inRound l (callsIn_wide.2 HID.out)).mono ?_; rintro e w' ⟨rfl, hww⟩; obtain rfl := hww.symm; clear hww) | (refine ⟨trivial, (fun h => by cases h), ?_⟩; gi_at_call 34; refine (CallsIn.inRound l (callsIn_wide.2 HDE.out)).mono ?_; rintro e w7 ⟨hdr, hc7⟩; obtain rfl := HDR.out _ _ hdr; clear hdr; have f2 := Boxed.frozen (show Boxed w7 w.heap.size 26 (.pointer none) from hc7.heap HB2.out (fun x => x)); have f3 := Boxed.frozen (show Boxed w7 (w.heap.size + 1) 27 (.int .i64 0) from hc7.heap HB3.out (fun x => x)); have c2 := Boxed.cell (show Boxed w7 w.heap.size 26 (.pointer none) from hc7.heap HB2.out (fun x => x)); have c3 := Boxed.cell (show Boxed w7 (w.heap.size + 1) 27 (.int .i64 0) from hc7.heap HB3.out (fun x => x)); have hn23 : ¬ w.heap.size = w.heap.size + 1 := (by omega); have hn32 : ¬ w.heap.size + 1 = w.heap.size := (by omega)))
        have E2 : Boxed w7 w.heap.size 26 (.pointer none) := hc7.heap HB2.out (fun x => x)
        have E3 : Boxed w7 (w.heap.size + 1) 27 (.int .i64 0) := hc7.heap HB3.out (fun x => x)
        refine ⟨(((hc7.keepsO).trans (KeepsOthers.setCell _ _ _)).trans (KeepsOthers.setCell _ _ _)).from _, ⟨(E2.set _).other (fun e => hn23 e) _, (E3.other (fun e => hn32 e) _).set _⟩, HOKF.out, ?_⟩
        have hcA : Chg (DM d m) w W := HC5.out.trans HCH.out (fun i hi e => by exfalso; rcases e with e | e <;> omega)
        exact (((hcA.no hc7).setCell (p := ⟨w.heap.size, 0, none⟩) (.inl (Nat.le_refl _)) _).setCell (p := ⟨w.heap.size + 1, 0, none⟩) (.inl (by show w.heap.size ≤ w.heap.size + 1; omega)) _)
      | some o =>
        have HDR : Hid (∀ e w', DecR W.heap.size w' e (decF p) → ∃ v, e = .returned (.tuple #[v, .int .i64 0])) := fun e w' h => by
          rw [hdp] at h
          obtain ⟨v, he, -⟩ := (show ∃ v, e = .returned (.tuple #[v, .int .i64 0]) ∧ IsOb w' W.heap.size v o from h)
          exact ⟨v, he⟩
        clear hdp
        gi_wp2_with (first | (refine ⟨trivial, (fun h => by cases h), ?_⟩; gi_at_call 15; refine (CallsIn.inRound l (callsIn_wide.2 HID.out)).mono ?_; rintro e w' ⟨rfl, hww⟩; obtain rfl := hww.symm; clear hww) | (refine ⟨trivial, (fun h => by cases h), ?_⟩; gi_at_call 34; refine (CallsIn.inRound l (callsIn_wide.2 HDE.out)).mono ?_; rintro e w7 ⟨hdr, hc7⟩; obtain ⟨vd, rfl⟩ := HDR.out _ _ hdr; clear hdr; have f2 := Boxed.frozen (show Boxed w7 w.heap.size 26 (.pointer none) from hc7.heap HB2.out (fun x => x)); have f3 := Boxed.frozen (show Boxed w7 (w.heap.size + 1) 27 (.int .i64 0) from hc7.heap HB3.out (fun x => x)); have c2 := Boxed.cell (show Boxed w7 w.heap.size 26 (.pointer none) from hc7.heap HB2.out (fun x => x)); have c3 := Boxed.cell (show Boxed w7 (w.heap.size + 1) 27 (.int .i64 0) from hc7.heap HB3.out (fun x => x)); have hn23 : ¬ w.heap.size = w.heap.size + 1 := (by omega); have hn32 : ¬ w.heap.size + 1 = w.heap.size := (by omega)))
        have E2 : Boxed w7 w.heap.size 26 (.pointer none) := hc7.heap HB2.out (fun x => x)
        have E3 : Boxed w7 (w.heap.size + 1) 27 (.int .i64 0) := hc7.heap HB3.out (fun x => x)
        refine ⟨(((hc7.keepsO).trans (KeepsOthers.setCell _ _ _)).trans (KeepsOthers.setCell _ _ _)).from _, ⟨(E2.set _).other (fun e => hn23 e) _, (E3.other (fun e => hn32 e) _).set _⟩, HOKF.out, ?_⟩
        have hcA : Chg (DM d m) w W := HC5.out.trans HCH.out (fun i hi e => by exfalso; rcases e with e | e <;> omega)
        exact (((hcA.no hc7).setCell (p := ⟨w.heap.size, 0, none⟩) (.inl (Nat.le_refl _)) _).setCell (p := ⟨w.heap.size + 1, 0, none⟩) (.inl (by show w.heap.size ≤ w.heap.size + 1; omega)) _)
    | none =>
      have hlk : Sem.run Try.prog (Instr.lookup 89 (.map (some w2.heap.size)) (.int .u64 (ip : Int)) true) W = .ok (.tuple #[.int .i64 0, .bool false]) W := lookI_none W w2.heap.size ip ids hlm hfi
      have HFI := Lib.hid hfi
      clear hfi hlm
      cases hdp : decF p with
      | none =>
        have HOKF : Hid (okF [] ps = false) := HBAD.out (.inl (by rw [hdp]; rfl))
        have HDR : Hid (∀ e w', DecR W.heap.size w' e (decF p) → e = .returned (.tuple #[.nilIface, .int .i64 8])) := fun e w' h => by rw [hdp] at h; exact h
        clear hdp
        gi_wp2_with (first | (refine ⟨trivial, (fun h => by cases h), ?_⟩; gi_at_call 15; refine (CallsIn.inRound l (callsIn_wide.2 HID.out)).mono ?_; rintro e w' ⟨rfl, hww⟩; obtain rfl := hww.symm; clear hww) | (refine ⟨trivial, (fun h => by cases h), ?_⟩; gi_at_call 34; refine (CallsIn.inRound l (callsIn_wide.2 HDE.out)).mono ?_; rintro e w7 ⟨hdr, hc7⟩; obtain rfl := HDR.out _ _ hdr; clear hdr; have f2 := Boxed.frozen (show Boxed w7 w.heap.size 26 (.pointer none) from hc7.heap HB2.out (fun x => x)); have f3 := Boxed.frozen (show Boxed w7 (w.heap.size + 1) 27 (.int .i64 0) from hc7.heap HB3.out (fun x => x)); have c2 := Boxed.cell (show Boxed w7 w.heap.size 26 (.pointer none) from hc7.heap HB2.out (fun x => x)); have c3 := Boxed.cell (show Boxed w7 (w.heap.size + 1) 27 (.int .i64 0) from hc7.heap HB3.out (fun x => x)); have hn23 : ¬ w.heap.size = w.heap.size + 1 := (by omega); have hn32 : ¬ w.heap.size + 1 = w.heap.size := (by omega)))
        have E2 : Boxed w7 w.heap.size 26 (.pointer none) := hc7.heap HB2.out (fun x => x)
        have E3 : Boxed w7 (w.heap.size + 1) 27 (.int .i64 0) := hc7.heap HB3.out (fun x => x)
        refine ⟨(((hc7.keepsO).trans (KeepsOthers.setCell _ _ _)).trans (KeepsOthers.setCell _ _ _)).from _, ⟨(E2.set _).other (fun e => hn23 e) _, (E3.other (fun e => hn32 e) _).set _⟩, HOKF.out, ?_⟩
        have hcA : Chg (DM d m) w W := HC5.out.trans HCH.out (fun i hi e => by exfalso; rcases e with e | e <;> omega)
        exact (((hcA.no hc7).setCell (p := ⟨w.heap.size, 0, none⟩) (.inl (Nat.le_refl _)) _).setCell (p := ⟨w.heap.size + 1, 0, none⟩) (.inl (by show w.heap.size ≤ w.heap.size + 1; omega)) _)
      | some o =>
        have HOKT : Hid (okF [] ((pre ++ [(ml, Value.slice A q c, p)]).map (·.2.2)) = true) := by
          show _ = true
          rw [HOKS.out, hdp, HFI.out]; rfl
        have HDR : Hid (∀ e w', DecR W.heap.size w' e (decF p) → ∃ v, e = .returned (.tuple #[v, .int .i64 0])) := fun e w' h => by
          rw [hdp] at h
          obtain ⟨v, he, -⟩ := (show ∃ v, e = .returned (.tuple #[v, .int .i64 0]) ∧ IsOb w' W.heap.size v o from h)
          exact ⟨v, he⟩
        clear hdp
        gi_wp2_with (first | (refine ⟨trivial, (fun h => by cases h), ?_⟩; gi_at_call 15; refine (CallsIn.inRound l (callsIn_wide.2 HID.out)).mono ?_; rintro e w' ⟨rfl, hww⟩; obtain rfl := hww.symm; clear hww) | (refine ⟨trivial, (fun h => by cases h), ?_⟩; gi_at_call 34; refine (CallsIn.inRound l (callsIn_wide.2 HDE.out)).mono ?_; rintro e w7 ⟨hdr, hc7⟩; obtain ⟨vd, rfl⟩ := HDR.out _ _ hdr; have c6 := Boxed.cell (show Boxed w7 (w2.heap.size + 1 + 1) 26 (.pointer (some ⟨w2.heap.size + 1, 0, none⟩)) from hc7.heap HB6.out (fun x => x)); have HNO := Lib.hid (note_calls w7 base (w2.heap.size + 1) w2.heap.size j v ids ip (HSC.out.chg hc7 (fun x => x) (fun x => x) (fun _ _ x => x)) HFI.out (by have := HIDL.out; omega) (by have := hc7.size; omega)); rw [HIDL.out] at HNO; clear hdr) | (refine ⟨trivial, (fun h => by cases h), ?_⟩; gi_at_call 35; refine (CallsIn.inRound l (callsIn_wide.2 HNO.out)).mono ?_; rintro e w8 ⟨rfl, v8, hsc8, hc8, hf8⟩))
        have hs7 := hc7.size
        have hcw8 : Chg (fun i => i = w2.heap.size + 1 ∨ i = w2.heap.size) W5 w8 := (HCH.out.no hc7).trans hc8 (fun i hi e => by
          rcases e with e | e | e
          · exact .inl e
          · exact .inr e
          · have := HVB.out i e; omega)
        have hkf : KeepsFrom W5.heap.size W w8 := ((hc7.keepsO).from _).trans (keepsFrom_note hc8 (HSC.out.chg hc7 (fun x => x) (fun x => x) (fun _ _ x => x)).2.2.1 (by omega) (by omega))
        refine ⟨hkf, ⟨?_, ?_⟩, ⟨⟨⟨v8, by rw [HIDN.out]; exact hsc8, fun b hb => ?_⟩, HOKT.out⟩, hcw8⟩⟩
        · have hc78 : Chg (fun k => k = w2.heap.size + 1 ∨ k = w2.heap.size ∨ v.ownBlock = some k) W w8 := (hc7.mono (fun i _ x => x.elim)).trans hc8 (fun i _ x => x)
          exact ⟨hc78.os, hc78.tape, hc78.output, hc78.size, fun k hk => hc78.block k (by omega) (fun e => by
            rcases e with e | e | e
            · omega
            · omega
            · have := HVB.out k e; omega)⟩
        · intro x
          refine hc8.heap (hc7.heap x (fun x => x)) (fun e => ?_)
          rcases e with e | e | e
          · omega
          · omega
          · have := HVB.out _ e; omega
        · rcases hf8 b hb with e | e
          · exact HVB.out b e
          · omega
  case done =>
    rintro D xs W hD hxs ⟨⟨⟨v, hsc, hvb⟩, hok⟩, hI⟩ hK
    rw [hxs] at hok
    have HIDE : Hid ((xs.map fun x => idF x.2.2) = ps.map idF) := by rw [Hid, ← hxs, List.map_map]; rfl
    rw [HIDE.out] at hsc
    have b2 : Boxed W w.heap.size 26 (.pointer none) := hI.heap hB25 (fun e => by rcases e with e | e <;> omega)
    have b3 : Boxed W (w.heap.size + 1) 27 (.int .i64 0) := hI.heap hB35 (fun e => by rcases e with e | e <;> omega)
    have b6 : Boxed W (w2.heap.size + 1 + 1) 26 (.pointer (some ⟨w2.heap.size + 1, 0, none⟩)) := hI.heap g65 (fun e => by rcases e with e | e <;> omega)
    have HJW := Lib.hid (HJ5.out.chg hI (fun i hi e => by have := hSJ.out i hi; rcases e with e | e <;> omega))
    have HCW : Hid (Chg (DM d m) w W) := HC5.out.trans hI (fun i hi e => by exfalso; rcases e with e | e <;> omega)
    obtain ⟨A, c, rfl⟩ := hsc.form
    have HLM : Hid ((ps.map idF).length = ps.length) := List.length_map _
    have c6 := b6.cell
    obtain ⟨e0, e1, e2⟩ := cells3 hsc.1
    have HSC := Lib.hid hsc
    have HVB := Lib.hid hvb
    rw [HLM.out] at e2
    have f2 := b2.frozen
    have f3 := b3.frozen
    have c2 := b2.cell
    have c3 := b3.cell
    have hn23 : ¬ w.heap.size = w.heap.size + 1 := by omega
    have hn32 : ¬ w.heap.size + 1 = w.heap.size := by omega
    have hn62 : ¬ w2.heap.size + 1 + 1 = w.heap.size := by omega
    have hle : ¬ (65536 : Int) < (ps.length : Int) := by omega
    have HB2 := Lib.hid b2
    have HB3 := Lib.hid b3
    have HKD := Lib.hid hK
    have hzw := hI.size
    have HOK := Lib.hid hok
    clear b2 b3 b6 hK hI hsc hvb hok hxs
    gi_wp2
    have hns : ¬ w2.heap.size + 1 = w.heap.size := by omega
    obtain ⟨W9, hW9⟩ : ∃ W9, W9 = ((W.setCell ⟨w.heap.size, 0, none⟩ (.pointer (some ⟨w2.heap.size + 1, 0, none⟩))).setCell ⟨w.heap.size + 1, 0, none⟩ (.int .i64 0)) := ⟨_, rfl⟩
    rw [← hW9]
    have hc9 : Chg (fun i => i = w.heap.size ∨ i = w.heap.size + 1) W W9 := by
      rw [hW9]
      exact ((Chg.refl (fun i => i = w.heap.size ∨ i = w.heap.size + 1) W).setCell (p := ⟨w.heap.size, 0, none⟩) (.inr (.inl rfl)) _).setCell (p := ⟨w.heap.size + 1, 0, none⟩) (.inr (.inr rfl)) _
    have E2 : Boxed W9 w.heap.size 26 (.pointer (some ⟨w2.heap.size + 1, 0, none⟩)) := by
      rw [hW9]; exact (Chg.put _ (w.heap.size + 1) 0 _).heap (HB2.out.set _) (fun e => hn23 e)
    have E3 : Boxed W9 (w.heap.size + 1) 27 (.int .i64 0) := by
      rw [hW9]
      have h3 : Boxed (W.setCell ⟨w.heap.size, 0, none⟩ (.pointer (some ⟨w2.heap.size + 1, 0, none⟩))) (w.heap.size + 1) 27 (.int .i64 0) := (Chg.put W w.heap.size 0 _).heap HB3.out (fun e => hn32 e)
      exact h3.set _
    have k9 : W9.heap[D]? = some (.deferred (some [])) := hc9.heap HKD.out (fun e => by rcases e with e | e <;> omega)
    have hg9 := grownBy_putObj' W9 D (.deferred none)
    have hk9 : ∀ r, some D = some r → ∃ o : Obj, W9.heap[r]? = some o ∧ o.isCells = false := fun r e => by cases e; exact ⟨_, k9, rfl⟩
    have d2 := cell_kept E2.cell hg9 hk9
    have d3 := cell_kept E3.cell hg9 hk9
    have hcp : Chg (fun i => i = w.heap.size ∨ i = w.heap.size + 1 ∨ i = D) W (W9.putObj D (.deferred none)) :=
      (hc9.mono (S' := fun i => i = w.heap.size ∨ i = w.heap.size + 1 ∨ i = D) (fun i _ h => by rcases h with h | h; exact .inl h; exact .inr (.inl h))).grown hg9 (fun k e => .inr (.inr (.inr (Option.some.inj e).symm)))
    have hJ9 : JD (W9.putObj D (.deferred none)) SJ base j d m nw2 objK th ps := HJW.out.chg hcp (fun i hi e => by
      have h1 := HWH.out i hi
      have h2 := hSJ.out i hi
      rcases e with e | e | e <;> omega)
    refine ⟨by simp, .inl ⟨_, _, rfl, run_takeDeferred k9, ?_⟩⟩
    refine ⟨.tuple #[.pointer (some ⟨w2.heap.size + 1, 0, none⟩), .int .i64 0], ?_, nw2, hnw2, ⟨fun _ => ⟨w2.heap.size + 1, w2.heap.size, j, fun i => SJ i ∨ i = w2.heap.size ∨ i = w2.heap.size + 1 ∨ (Value.slice A (ps.map idF).length c).ownBlock = some i, rfl, ?_, ?_⟩, fun h => (by rw [HOK.out] at h; cases h)⟩, ?_⟩
    · simp [results, Try.f10, go_sem, d2, d3]
    · refine ⟨.slice A (ps.map idF).length c, SJ, HSC.out.chg hcp (fun e => by rcases e with e | e | e <;> omega) (fun e => by rcases e with e | e | e <;> omega) (fun b hb e => by
        have h5 := HVB.out b hb
        rcases e with e | e | rfl
        · omega
        · omega
        · obtain ⟨cc, fz, hcc⟩ := ownsRow_cells HSC.out.2.2.1 _ hb
          rw [HKD.out] at hcc; cases hcc), hJ9, fun i hi => ?_, .inr (.inr (.inl rfl)), .inr (.inl rfl), (fun b hb => .inr (.inr (.inr hb))), fun i hi => ?_, ?_⟩
      · have := hSJ.out i hi
        exact ⟨.inl hi, by omega, by omega, fun h => by have := HVB.out i h; omega⟩
      · have hz := hcp.size
        rcases hi with hi | rfl | rfl | hi
        · have := hJ9.lt i hi
          exact this
        · exact ⟨by omega, by omega⟩
        · exact ⟨by omega, by omega⟩
        · obtain ⟨cc, fz, hcc⟩ := ownsRow_cells HSC.out.2.2.1 _ hi
          have := (Array.getElem?_eq_some_iff.1 hcc).1
          have := HVB.out i hi
          exact ⟨by omega, by omega⟩
      · have hz := hcp.size
        omega
    · intro i hi
      rcases hi with hi | rfl | rfl | hi
      · exact HWH2.out i hi
      · right; omega
      · right; omega
      · right; have := HVB.out i hi; omega
    · exact HCW.out.trans hcp (fun i hi e => by exfalso; rcases e with e | e | e <;> omega)
/-- The store's disk is mended; the store is opened again. -/
theorem sg_open (lf : Nat) (x : List UInt8) (jc : Bool) (w w0 : World) (S : Nat → Prop) (base s mp j d m wr : Nat) (th : Bool) (ps : List (List UInt8)) (h : SG lf x jc w0 S base s mp j d m wr th ps) (hc0 : Chg (One d) w0 w) (hD : ∀ f, DiskC lf w0 d m wr f → DiskAt w d m wr f) (hx : stepF x = none) (hxl : x.length ≤ 1000000)
    (hps : ∀ p ∈ ps, p.length ≤ 262144) (hen : (encF ps).length ≤ 1000000) (hfew : ps.length ≤ 65536) (hw : wr < 9223372036850000000) (hok : okF [] ps = true) :
    Calls Try.prog 10 #[.pointer (some ⟨d, 0, none⟩)] w fun e W' => ∃ s2 mp2 j2 S2 nw2, e = .returned (.tuple #[.pointer (some ⟨s2, 0, none⟩), .int .i64 0]) ∧ nw2 ≤ wr + 1 ∧ SD W' S2 base s2 mp2 j2 d m nw2 th ps ∧ Chg (DM d m) w W' ∧ base ≤ d ∧ base ≤ m ∧ d < w.heap.size ∧ m < w.heap.size := by
  obtain ⟨v, SJ, g1, g2, -⟩ := h
  obtain ⟨A, n, c, AP, np, cp, AF, nf, cf, h1, h2, h3, h4, h5, h6, h7, h8, h9, h10, h11, h12, h13, h14, h15, h16, h17, h18⟩ := g2
  have hnd : ∀ b, (Value.slice AF nf cf).ownBlock = some b → ¬ One d b := fun b hb e => h2.nd h5 (by decide) (by rw [hb]; exact congrArg some (show d = b from (show b = d from e).symm))
  have hlen : nf = (encF ps).length + x.length := by rw [← h8, List.length_append]
  have hz := hc0.size
  refine (callsIn_wide.1 (sopen_part_core 3 (Nat.le_refl _) w base d m wr th AF nf cf (encF ps ++ x) ps (Rds.ofPart ps x hps hx) (hD _ h2) (h5.chg hc0 hnd) h8 (fun ht => ⟨(h9 ht).1, (h9 ht).2.1, (h9 ht).2.2.1⟩) (by omega) hps (by omega) hfew hw ⟨(h17 d h15).1, (h17 m h16).1⟩ (Nat.le_trans h18 hz))).mono ?_
  rintro e W' ⟨nw2, hn2, hR, hc⟩
  obtain ⟨s2, mp2, j2, S2, he, hS, -⟩ := hR.1 hok
  exact ⟨s2, mp2, j2, S2, nw2, he, hn2, hS, hc, (h17 d h15).1, (h17 m h16).1, Nat.lt_of_lt_of_le (h17 d h15).2 hz, Nat.lt_of_lt_of_le (h17 m h16).2 hz⟩
theorem SG.mend {lf : Nat} {x : List UInt8} {jc : Bool} {w : World} {S : Nat → Prop} {base s mp j d m wr : Nat} {th : Bool} {ps : List (List UInt8)} (h : SG lf x jc w S base s mp j d m wr th ps) :
    ∃ f, DiskC lf w d m wr f := by
  obtain ⟨v, SJ, g1, g2, -⟩ := h
  obtain ⟨A, n, c, AP, np, cp, AF, nf, cf, h1, h2, -⟩ := g2
  exact ⟨_, h2⟩
theorem DiskC.one {lf : Nat} {w : World} {d m wr : Nat} {f g : Option (ByteArray × Value)} (h : DiskC lf w d m wr f) (k : DiskC lf w d m wr g) : mapObj f = mapObj g := by
  have := h.2.symm.trans k.2
  exact Option.some.inj this
end Go.Proofs.Ytccphnkdnifpfaa

