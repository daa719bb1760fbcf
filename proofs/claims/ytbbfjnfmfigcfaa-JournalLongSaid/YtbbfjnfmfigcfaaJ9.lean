/-
  payload, Record, Each.
-/
import Derived.Test.YtbbfjnfmfigcfaaJ8
namespace Go.Proofs.Ytbbfjnfmfigcfaa
open Go.RowKit Go.Shelf
set_option linter.unusedVariables false
set_option linter.unusedSimpArgs false
set_option maxRecDepth 100000

theorem partsC_get : ∀ (ps : List (List UInt8)) (o i : Nat) (hi : i < ps.length), (partsC o ps)[i * 2]? = some (.int .i64 ((o + (ps.take i).flatten.length : Nat) : Int)) ∧ (partsC o ps)[i * 2 + 1]? = some (.int .i64 ((o + (ps.take i).flatten.length + ps[i].length : Nat) : Int))
  | p :: ps, o, 0, hi => by simp [partsC]
  | p :: ps, o, i + 1, hi => by
    have := partsC_get ps (o + p.length) i (by simpa using hi)
    have e1 : (i + 1) * 2 = i * 2 + 1 + 1 := by omega
    rw [e1]
    simp only [partsC, List.getElem?_cons_succ, List.take_succ_cons, List.flatten_cons, List.length_append, List.getElem_cons_succ]
    rw [← Nat.add_assoc]
    exact this
theorem flat_get (ps : List (List UInt8)) (i : Nat) (hi : i < ps.length) : (ps.flatten.drop (ps.take i).flatten.length).take ps[i].length = ps[i] ∧ (ps.take i).flatten.length + ps[i].length ≤ ps.flatten.length := by
  have h : ps.flatten = (ps.take i).flatten ++ (ps[i] ++ (ps.drop (i + 1)).flatten) := by
    have e : ps = ps.take i ++ ps[i] :: ps.drop (i + 1) := by rw [← List.drop_eq_getElem_cons hi, List.take_append_drop]
    conv => lhs; rw [e]
    rw [List.flatten_append, List.flatten_cons]
  generalize (ps.take i).flatten = a at *
  rw [h]
  simp

theorem two_cells {w : World} {g : Nat} {a b : Value} {t : TypeId} (h : w.heap[g]? = some (.cells #[a, b] t (0, 0))) : w.cell? ⟨g, 0, none⟩ = some a ∧ w.cell? ⟨g, 1, none⟩ = some b := by
  constructor <;> simp [World.cell?, h]
theorem Bytes.mid {w : World} {A : Option Addr} {n c x y : Nat} {xs : List UInt8} (h : Bytes w (.slice A n c) xs) (hl : xs.length = n) (hxy : x ≤ y) (hy : y ≤ n) (hc : n ≤ c) : Bytes w (.slice (if c = x then A else A.map (·.add x)) (y - x) (c - x)) ((xs.drop x).take (y - x)) := by
  have h1 := Bytes.takeN (k := y) (m := c) h hl hy (by omega) (Nat.le_refl _)
  have e : (xs.take y).length = y := by rw [List.length_take]; omega
  have h2 := Bytes.drop (k := x) (xs := xs.take y) (A := A) (c := c) (by rw [e]; exact h1) (by omega)
  rw [e, List.drop_take] at h2
  exact h2

set_option maxHeartbeats 1600000 in
theorem payload_calls (w : World) (S : Nat → Prop) (base j d m wr : Nat) (k : ByteArray) (th : Bool) (ps : List (List UInt8)) (i : Nat) (hi : i < ps.length) (h : JD w S base j d m wr k th ps) (hn : (encF ps).length ≤ 4194304) :
    Calls Try.prog 38 #[.pointer (some ⟨j, 0, none⟩), .int .i64 (i : Int)] w fun e w' => ∃ v, e = .returned v ∧ OwnB w' w.heap.size v ps[i] ∧ Chg No w w' := by
  obtain ⟨A, n, c, AP, np, cp, AF, nf, cf, h1, h2, h3, h4, h5, h6, h7, h8, h9, h10, h11, h12, h13, h14, h15, h16, h17, h18⟩ := h
  obtain ⟨p1, p2⟩ := partsC_get ps 0 i hi
  obtain ⟨q1, q2⟩ := flat_get ps i hi
  have hps := encF_len ps
  obtain ⟨g, capp, hv⟩ : ∃ g cp', AP = some ⟨g, 0, none⟩ ∧ cp' = cp ∧ np ≤ cp := by
    rcases h4.2 with ⟨he, h0⟩ | ⟨g, cap, cur, he, _, _, hle, _⟩
    · omega
    · simp only [Value.slice.injEq, true_and] at he
      exact ⟨g, cp, he.1, rfl, he.2 ▸ hle⟩
  obtain ⟨rfl, rfl, hle⟩ := hv
  have hcells := @World.ownsRow.cells w base 82 2 (.slice (some ⟨g, 0, none⟩) np capp) np (partsC 0 ps) h4 g rfl
  have x1 := hcells _ _ p1
  have x2 := hcells _ _ p2
  rw [Addr.add_lit] at x1 x2
  obtain ⟨x, hx⟩ : ∃ x, (ps.take i).flatten.length = x := ⟨_, rfl⟩
  obtain ⟨y, hy⟩ : ∃ y, x + ps[i].length = y := ⟨_, rfl⟩
  simp only [Nat.zero_add, hx] at x1 x2
  rw [hx] at q1 q2
  rw [hy] at x2 q2
  have e3 := h1.c3
  have e2 := h1.c2
  have HQ := Lib.hid q1
  have HO := Lib.hid h3
  have HL := Lib.hid h6
  have hxy : x ≤ y := by omega
  have hyn : y ≤ n := by have := HL.out; omega
  have HY : Hid (ps[i].length = y - x) := by have : ps[i].length = y - x := by omega
                                             exact this
  have hnn : n ≤ 4194304 := by have := HL.out; omega
  have hi2 : i < np := by omega
  have hnp : np ≤ 4194304 := by omega
  obtain ⟨_, c', hvv, hnc, hcm⟩ := h3.bytes.form
  simp only [Value.slice.injEq] at hvv
  obtain ⟨-, -, rfl⟩ := hvv
  have hnc2 : n ≤ c := by have := HL.out; omega
  clear h1 h2 h3 h4 h5 h6 h7 h8 h9 h10 h11 h12 h13 h14 h15 h16 h17 h18 hcells p1 p2 q1 q2 hps hx hy hn hnc
  go_enter Try.func38, Try.ntmps38
  go_wp2
  have hc1 : Chg No w (w.alloc (.cells #[.int .i64 (x : Int), .int .i64 (y : Int)] 82)) := (Chg.refl No w).alloc _
  have hh := heap_alloc_new w (.cells #[.int .i64 (x : Int), .int .i64 (y : Int)] 82)
  obtain ⟨f0, f1⟩ := two_cells hh
  have hyc : y ≤ c := by omega
  have e2 := hc1.cell e2 (fun x => x)
  have HC1 := Lib.hid hc1
  clear hc1 hh x1 x2 e3
  generalize (w.alloc (.cells #[.int .i64 (x : Int), .int .i64 (y : Int)] 82)) = w1 at *
  have HSL := Lib.hid (Bytes.mid (HO.out.bytes.no HC1.out) HL.out hxy hyn hnc2)
  generalize w.heap.size = b at *
  refine wp_region_held_drew (S := (fun W => W.cell? ⟨j, 2, none⟩ = some (.slice A n c) ∧ W.cell? ⟨b, 0, none⟩ = some (.int .i64 (x : Int)) ∧ W.cell? ⟨b, 1, none⟩ = some (.int .i64 (y : Int)))) (by kernel_rfl) ⟨e2, f0, f1⟩ (fun hSw => ?_)
  refine wpAnyH_take (i := 0) (oi := { dst := some 13, op := Go.Op.move (Go.Operand.tmp 0), type := 30, pos := "journal.go:109", after := #[], guard := none }) (v := ?_) rfl (by kernel_rfl) (by kernel_rfl) (by kernel_rfl) (fun _ _ _ h => h) (Or.inl ⟨by rfl, ?_⟩) hSw ?_
  rotate_left
  · (intro W hW; obtain ⟨hq1, hq2, hq3⟩ := hW; go_simp; try with_reducible rfl)
  try simp only [Act.put, List.setIfInBounds_toArray, List.set_cons_zero, List.set_cons_succ]
  refine wpAnyH_take (i := 1) (oi := { dst := some 14, op := Go.Op.nilCheck (Go.Operand.tmp 13), type := 0, pos := "journal.go:109", after := #[{ on := 0, ground := Go.Ground.data }], guard := none }) (v := ?_) rfl (by kernel_rfl) (by kernel_rfl) (by kernel_rfl) (fun _ _ _ h => h) (Or.inl ⟨by rfl, ?_⟩) hSw ?_
  rotate_left
  · (intro W hW; obtain ⟨hq1, hq2, hq3⟩ := hW; go_simp; try with_reducible rfl)
  try simp only [Act.put, List.setIfInBounds_toArray, List.set_cons_zero, List.set_cons_succ]
  refine wpAnyH_take (i := 2) (oi := { dst := some 15, op := Go.Op.fieldAddr 55 (Go.Operand.tmp 14) 2, type := 0, pos := "journal.go:109", after := #[{ on := 1, ground := Go.Ground.data }], guard := none }) (v := ?_) rfl (by kernel_rfl) (by kernel_rfl) (by kernel_rfl) (fun _ _ _ h => h) (Or.inl ⟨by rfl, ?_⟩) hSw ?_
  rotate_left
  · (intro W hW; obtain ⟨hq1, hq2, hq3⟩ := hW; go_simp; try with_reducible rfl)
  try simp only [Act.put, List.setIfInBounds_toArray, List.set_cons_zero, List.set_cons_succ]
  refine wpAnyH_take (i := 3) (oi := { dst := some 16, op := Go.Op.load 22 (Go.Operand.tmp 15), type := 22, pos := "journal.go:109", after := #[{ on := 2, ground := Go.Ground.data }], guard := none }) (v := ?_) rfl (by kernel_rfl) (by kernel_rfl) (by kernel_rfl) (fun _ _ _ h => h) (Or.inl ⟨by rfl, ?_⟩) hSw ?_
  rotate_left
  · (intro W hW; obtain ⟨hq1, hq2, hq3⟩ := hW; go_simp; try with_reducible rfl)
  try simp only [Act.put, List.setIfInBounds_toArray, List.set_cons_zero, List.set_cons_succ]
  refine wpAnyH_take (i := 4) (oi := { dst := some 17, op := Go.Op.fieldAddr 82 (Go.Operand.tmp 5) 0, type := 0, pos := "journal.go:109", after := #[], guard := none }) (v := ?_) rfl (by kernel_rfl) (by kernel_rfl) (by kernel_rfl) (fun _ _ _ h => h) (Or.inl ⟨by rfl, ?_⟩) hSw ?_
  rotate_left
  · (intro W hW; obtain ⟨hq1, hq2, hq3⟩ := hW; go_simp; try with_reducible rfl)
  try simp only [Act.put, List.setIfInBounds_toArray, List.set_cons_zero, List.set_cons_succ]
  refine wpAnyH_take (i := 5) (oi := { dst := some 18, op := Go.Op.load 3 (Go.Operand.tmp 17), type := 3, pos := "journal.go:109", after := #[{ on := 4, ground := Go.Ground.data }], guard := none }) (v := ?_) rfl (by kernel_rfl) (by kernel_rfl) (by kernel_rfl) (fun _ _ _ h => h) (Or.inl ⟨by rfl, ?_⟩) hSw ?_
  rotate_left
  · (intro W hW; obtain ⟨hq1, hq2, hq3⟩ := hW; go_simp; try with_reducible rfl)
  try simp only [Act.put, List.setIfInBounds_toArray, List.set_cons_zero, List.set_cons_succ]
  refine wpAnyH_take (i := 6) (oi := { dst := some 19, op := Go.Op.fieldAddr 82 (Go.Operand.tmp 5) 1, type := 0, pos := "journal.go:109", after := #[], guard := none }) (v := ?_) rfl (by kernel_rfl) (by kernel_rfl) (by kernel_rfl) (fun _ _ _ h => h) (Or.inl ⟨by rfl, ?_⟩) hSw ?_
  rotate_left
  · (intro W hW; obtain ⟨hq1, hq2, hq3⟩ := hW; go_simp; try with_reducible rfl)
  try simp only [Act.put, List.setIfInBounds_toArray, List.set_cons_zero, List.set_cons_succ]
  refine wpAnyH_take (i := 7) (oi := { dst := some 20, op := Go.Op.load 3 (Go.Operand.tmp 19), type := 3, pos := "journal.go:109", after := #[{ on := 6, ground := Go.Ground.data }], guard := none }) (v := ?_) rfl (by kernel_rfl) (by kernel_rfl) (by kernel_rfl) (fun _ _ _ h => h) (Or.inl ⟨by rfl, ?_⟩) hSw ?_
  rotate_left
  · (intro W hW; obtain ⟨hq1, hq2, hq3⟩ := hW; go_simp; try with_reducible rfl)
  try simp only [Act.put, List.setIfInBounds_toArray, List.set_cons_zero, List.set_cons_succ]
  refine wpAnyH_take (i := 8) (oi := { dst := some 21, op := Go.Op.slice 22 (Go.Operand.tmp 16) (some (Go.Operand.tmp 18)) (some (Go.Operand.tmp 20)) none, type := 22, pos := "journal.go:109", after := #[{ on := 3, ground := Go.Ground.data }, { on := 5, ground := Go.Ground.data }, { on := 7, ground := Go.Ground.data }], guard := none }) (v := ?_) rfl (by kernel_rfl) (by kernel_rfl) (by kernel_rfl) (fun _ _ _ h => h) (Or.inl ⟨by rfl, ?_⟩) hSw ?_
  rotate_left
  · (intro W hW; obtain ⟨hq1, hq2, hq3⟩ := hW; go_simp; try with_reducible rfl)
  try simp only [Act.put, List.setIfInBounds_toArray, List.set_cons_zero, List.set_cons_succ]
  refine wpAnyH_ready (rs := [9]) (by kernel_rfl) (by simp) ?_
  refine AllReadyH.cons (o := { dst := some 22, op := Go.Op.call { callee := Go.Callee.value (Go.Operand.func 32), args := #[Go.Operand.tmp 21], argTypes := #[22] }, type := 22, pos := "journal.go:109", after := #[{ on := 8, ground := Go.Ground.data }], guard := none }) rfl (fun K hK => ?_) AllReadyH.nil
  rw [if_pos (by rfl)]
  go_simp
  refine (clone_any _ _ (y - x) _ ((ps.flatten.drop x).take (y - x)) (HSL.out.no (Chg.refl No _).drew) (by omega)).mono ?_
  rintro e w3 ⟨v3, rfl, ho3, hc3⟩
  have e02 := hc3.cell e2 (fun x => x)
  have e12 := hc3.cell f0 (fun x => x)
  have e22 := hc3.cell f1 (fun x => x)
  refine hK.out _ _ ⟨e02, e12, e22⟩ (fun hSw => ?_)
  clear hK
  try simp only [Act.put, List.setIfInBounds_toArray, List.set_cons_zero, List.set_cons_succ]
  refine wpAnyH_take (i := 10) (oi := { dst := some 4, op := Go.Op.assign (Go.Operand.tmp 22), type := 22, pos := "journal.go:109", after := #[{ on := 9, ground := Go.Ground.data }, { on := 9, ground := Go.Ground.chain }, { on := 0, ground := Go.Ground.phase }, { on := 1, ground := Go.Ground.phase }, { on := 2, ground := Go.Ground.phase }, { on := 3, ground := Go.Ground.phase }, { on := 4, ground := Go.Ground.phase }, { on := 5, ground := Go.Ground.phase }, { on := 6, ground := Go.Ground.phase }, { on := 7, ground := Go.Ground.phase }, { on := 8, ground := Go.Ground.phase }, { on := 9, ground := Go.Ground.phase }], guard := none }) (v := ?_) rfl (by kernel_rfl) (by kernel_rfl) (by kernel_rfl) (fun _ _ _ h => h) (Or.inl ⟨by rfl, ?_⟩) hSw ?_
  rotate_left
  · (intro W hW; obtain ⟨hq1, hq2, hq3⟩ := hW; go_simp; try with_reducible rfl)
  try simp only [Act.put, List.setIfInBounds_toArray, List.set_cons_zero, List.set_cons_succ]
  refine wpAnyH_done (by kernel_rfl) ?_ _
  generalize (if c = x then A else Option.map (fun a => a.add x) A) = AA
  go_wp2
  go_ret
  rw [HY.out] at HQ
  exact ⟨_, rfl, by have h := ho3; rw [HQ.out] at h; exact h.mono (HC1.out.drew).size, HC1.out.drew.no hc3⟩

theorem JD.parts {w : World} {S : Nat → Prop} {base j d m wr : Nat} {k : ByteArray} {th : Bool} {ps : List (List UInt8)} (h : JD w S base j d m wr k th ps) : ∃ AP np cp, w.cell? ⟨j, 3, none⟩ = some (.slice AP np cp) ∧ Hid (ps.length = np) := by
  obtain ⟨A, n, c, AP, np, cp, AF, nf, cf, h1, h2, h3, h4, h5, h6, h7, h8, h9, h10, h11, h12, h13, h14, h15, h16, h17, h18⟩ := h
  exact ⟨AP, np, cp, h1.c3, h7⟩
set_option maxHeartbeats 800000 in
theorem record_in (w : World) (S : Nat → Prop) (base j d m wr : Nat) (k : ByteArray) (th : Bool) (ps : List (List UInt8)) (i : Nat) (hi : i < ps.length) (h : JD w S base j d m wr k th ps) (hn : (encF ps).length ≤ 4194304) :
    Calls Try.prog 18 #[.pointer (some ⟨j, 0, none⟩), .int .i64 (i : Int)] w fun e w' => ∃ v, e = .returned (.tuple #[v, .int .i64 0]) ∧ OwnB w' w.heap.size v ps[i] ∧ Chg No w w' := by
  obtain ⟨AP, np, cp, e3, HNP⟩ := h.parts
  have hi2 : (i : Int) < (np : Int) := by have := HNP.out; omega
  have hi3 : ¬ ((i : Int) ≥ (np : Int)) := by omega
  have hi4 : ¬ ((np : Int) ≤ (i : Int)) := by omega
  have hi5 : ¬ ((i : Int) < 0) := by omega
  have H := Lib.hid h
  clear h
  go_enter Try.func18, Try.ntmps18
  go_wp2_with fail
  refine (payload_calls w S base j d m wr k th ps i hi H.out hn).mono ?_
  rintro e w1 ⟨v, rfl, ho, hc⟩
  have HO := Lib.hid ho
  have HC := Lib.hid hc
  clear ho hc
  go_wp2
  go_ret2
  exact ⟨_, rfl, HO.out, HC.out⟩
theorem record_low (w : World) (S : Nat → Prop) (base j d m wr : Nat) (k : ByteArray) (th : Bool) (ps : List (List UInt8)) (h : JD w S base j d m wr k th ps) :
    Calls Try.prog 18 #[.pointer (some ⟨j, 0, none⟩), .int .i64 (-1)] w fun e w' => e = .returned (.tuple #[.slice none 0 0, .int .i64 4]) ∧ w' = w := by
  obtain ⟨AP, np, cp, e3, HNP⟩ := h.parts
  have H := Lib.hid h
  clear h
  go_enter Try.func18, Try.ntmps18
  go_wp2
  go_ret2
  exact ⟨rfl, rfl⟩
theorem record_high (w : World) (S : Nat → Prop) (base j d m wr : Nat) (k : ByteArray) (th : Bool) (ps : List (List UInt8)) (h : JD w S base j d m wr k th ps) (i : Nat) (hi : ps.length = i) :
    Calls Try.prog 18 #[.pointer (some ⟨j, 0, none⟩), .int .i64 (i : Int)] w fun e w' => e = .returned (.tuple #[.slice none 0 0, .int .i64 4]) ∧ w' = w := by
  obtain ⟨AP, np, cp, e3, HNP⟩ := h.parts
  have hi2 : ¬ ((i : Int) < (np : Int)) := by have := HNP.out; omega
  have hi3 : ((i : Int) ≥ (np : Int)) := by omega
  have hi4 : ((np : Int) ≤ (i : Int)) := by omega
  have hi5 : ¬ ((i : Int) < 0) := by omega
  have H := Lib.hid h
  have HI := Lib.hid hi
  clear h hi
  go_enter Try.func18, Try.ntmps18
  go_wp2
  go_ret2
  exact ⟨rfl, rfl⟩
theorem record_none (w : World) (x : Int) :
    Calls Try.prog 18 #[.pointer none, .int .i64 x] w fun e w' => e = .returned (.tuple #[.slice none 0 0, .int .i64 1]) ∧ w' = w := by
  go_enter Try.func18, Try.ntmps18
  go_wp2
  go_ret2
  exact ⟨rfl, rfl⟩
theorem each_calls (w : World) (v : Option Addr) : Calls Try.prog 19 #[.pointer v] w fun e w' => e = .returned (.func (.func 39) #[] #[.pointer (some ⟨w.heap.size, 0, none⟩)]) ∧ w' = w.alloc (.cells #[.pointer v] 30) := by
  go_enter Try.func19, Try.ntmps19
  go_wp2
  go_ret
  exact ⟨rfl, rfl⟩
theorem jlen_calls (w : World) (S : Nat → Prop) (base j d m wr : Nat) (k : ByteArray) (th : Bool) (ps : List (List UInt8)) (h : JD w S base j d m wr k th ps) :
    Calls Try.prog 20 #[.pointer (some ⟨j, 0, none⟩)] w fun e w' => e = .returned (.int .i64 (ps.length : Int)) ∧ w' = w := by
  obtain ⟨A, n, c, AP, np, cp, AF, nf, cf, h1, h2, h3, h4, h5, h6, h7, h8, h9, h10, h11, h12, h13, h14, h15, h16, h17, h18⟩ := h
  rw [h7]
  exact len_calls w j d k _ AP np cp _ _ h1
theorem jsize_calls (w : World) (S : Nat → Prop) (base j d m wr : Nat) (k : ByteArray) (th : Bool) (ps : List (List UInt8)) (h : JD w S base j d m wr k th ps) :
    Calls Try.prog 13 #[.pointer (some ⟨j, 0, none⟩)] w fun e w' => e = .returned (.int .i64 ((encF ps).length : Int)) ∧ w' = w := by
  obtain ⟨A, n, c, AP, np, cp, AF, nf, cf, h1, h2, h3, h4, h5, h6, h7, h8, h9, h10, h11, h12, h13, h14, h15, h16, h17, h18⟩ := h
  exact size_calls w j d k _ _ _ _ h1
end Go.Proofs.Ytbbfjnfmfigcfaa
