/-
  The walk of JournalOpens: a file of any bytes.
-/
import Derived.Test.YtbbfjnfmfigcfaaJ14
import Derived.Test.YtbbfjnfmfigcfaaOpen
import Derived.Deep.RegionHeld3
namespace Go.Proofs.Ytbbfjnfmfigcfaa
open Go.RowKit Go.Shelf
set_option linter.unusedVariables false
set_option linter.unusedSimpArgs false
set_option maxRecDepth 100000

/-- A file that is there, read. -/
theorem jread_calls (w : World) (S : Nat → Prop) (base j d m nw : Nat) (k : ByteArray) (ps : List (List UInt8)) (h : JD w S base j d m nw k true ps) (hn : (encF ps).length ≤ 4194304) :
    Calls Try.prog 12 #[.pointer (some ⟨d, 0, none⟩), .string k] w fun e w' => ∃ v, e = .returned (.tuple #[v, .int .i64 0]) ∧ OwnB w' w.heap.size v (encF ps) ∧ Chg No w w' := by
  obtain ⟨A, n, c, AP, np, cp, AF, nf, cf, h1, h2, h3, h4, h5, h6, h7, h8, h9, h10, h11, h12, h13, h14, h15, h16, h17, h18⟩ := h
  exact dread_some w d m nw k AF nf cf (encF ps) h2 h5.bytes (by omega)

set_option maxHeartbeats 6400000 in
theorem journalOpens_core (w : World) (A : Option Addr) (n c : Nat) (xs : List UInt8) (hb : Bytes w (.slice A n c) xs) (hl : xs.length = n) :
    Calls Try.prog 3 #[.slice A n c] w fun e w' => e = .returned (.bool true) ∧ Chg No w w' := by
  have HB := Lib.hid hb
  have HL := Lib.hid hl
  clear hb hl
  by_cases hbig : 4194304 < n
  · have t0 : (4194304 : Int) < (n : Int) := by omega
    go_enter Try.func3, Try.ntmps3
    go_wp2_with fail
    refine (wakes_calls w).mono ?_
    rintro e w1 ⟨rfl, hc1⟩
    go_wp2_with fail
    refine (wakes_calls w1).mono ?_
    rintro e w2 ⟨rfl, hc2⟩
    go_wp2
    go_ret
    exact ⟨rfl, hc1.no hc2⟩
  · have t0 : ¬ (4194304 : Int) < (n : Int) := by omega
    obtain ⟨ps, wrong, hR⟩ := Rds.ex _ xs (Nat.le_refl _)
    have HR := Lib.hid hR
    clear hR
    go_enter Try.func3, Try.ntmps3
    go_wp2_with fail
    refine (wakes_calls w).mono ?_
    rintro e w1 ⟨rfl, hc1⟩
    go_wp2_with fail
    refine (wakes_calls w1).mono ?_
    rintro e w2 ⟨rfl, hc2⟩
    have HC2 := Lib.hid (hc1.no hc2)
    clear hc1 hc2
    go_wp2_with fail
    refine (on_calls w2 A n c xs (HB.out.no HC2.out) HL.out (by omega)).mono ?_
    rintro e w3 ⟨d, m, nw, AF, nf, cf, rfl, hD, hO, hlf, hnw, hd, hm, hc3⟩
    have HC3 := Lib.hid (HC2.out.no hc3)
    have HD := Lib.hid hD
    have HO := Lib.hid hO
    have HLF := Lib.hid hlf
    have hnfn : nf = n := by have := HL.out; omega
    clear hD hO hlf hc3
    go_wp2_with fail
    refine (readref_calls w w3 HC3.out A n c xs ps wrong HR.out HB.out HL.out (by omega)).mono ?_
    rintro e w4 ⟨L, cd, rfl, hO2, hc4⟩
    have HO2 := Lib.hid hO2
    have HD4 := Lib.hid (HD.out.no hc4)
    have HO4 := Lib.hid (HO.out.chg hc4 (fun _ _ x => x))
    have HC4 := Lib.hid (HC3.out.no hc4)
    have hs4 := hc4.size
    have hs3 := HC3.out.size
    have hd3 : d < w3.heap.size := (Array.getElem?_eq_some_iff.1 HD.out.1).1
    have hm3 : m < w3.heap.size := (Array.getElem?_eq_some_iff.1 HD.out.2).1
    clear hO2 hc4
    obtain ⟨sz, hsz⟩ : ∃ sz, (encF ps).length = sz := ⟨_, rfl⟩
    have HSZ := Lib.hid hsz
    rw [hsz]
    clear hsz
    have hnf2 : nf ≤ 4194304 := by omega
    clear hnfn
    have hb2 := heap_alloc_new w4 (.cells #[.slice L ps.length cd, .int .i64 (sz : Int), .bool wrong] 28)
    have hs5 : w.heap.size ≤ w2.heap.size := HC2.out.size
    obtain ⟨c0, c1, c2, -, -, -⟩ := three_cells hb2
    have C0 := Lib.hid c0
    have C1 := Lib.hid c1
    have C2 := Lib.hid c2
    have HG4 := Lib.hid hb2
    clear c0 c1 c2 hb2
    go_wp2_with fail
    have HCA : Hid (Chg No w4 (w4.alloc (.cells #[.slice L ps.length cd, .int .i64 (sz : Int), .bool wrong] 28))) := (Chg.refl No w4).alloc _
    have HSA : (w4.alloc (.cells #[.slice L ps.length cd, .int .i64 (sz : Int), .bool wrong] 28)).heap.size = w4.heap.size + 1 := by simp
    generalize w4.alloc (.cells #[.slice L ps.length cd, .int .i64 (sz : Int), .bool wrong] 28) = w5 at *
    refine (open_calls w5 w.heap.size d m nw ⟨#[102]⟩ true AF nf cf xs ps wrong HR.out (HD4.out.no HCA.out) ((HO4.out.mono hs5).chg HCA.out (fun _ _ x => x)) HLF.out (fun h => by cases h) hnf2 (by omega) ⟨by omega, by omega⟩ (by omega)).mono ?_
    rintro e w6 ⟨ho1, ho2⟩
    have hcn : n ≤ c := by
      obtain ⟨A', c', he, h1, h2⟩ := HB.out.form
      simp only [Value.slice.injEq] at he
      obtain ⟨-, -, rfl⟩ := he
      have := HL.out
      omega
    obtain ⟨henc, hszn⟩ := HR.out.enc
    rw [HSZ.out] at henc hszn
    have HENC := Lib.hid henc
    have hszn2 : sz ≤ n := by have := HL.out; omega
    clear henc hszn
    cases wrong
    case true =>
      obtain ⟨rfl, hc6⟩ := ho1 rfl
      clear ho1 ho2
      have HC6 : Hid (Chg No w4 w6) := HCA.out.no hc6
      have c2 := hc6.cell C2.out (fun x => x)
      clear hc6
      go_wp2_with fail
      refine (dread_some w6 d m nw ⟨#[102]⟩ AF nf cf xs (HD4.out.no HC6.out) ((HO4.out.bytes).no HC6.out) (by omega)).mono ?_
      rintro e w7 ⟨v7, rfl, ho7, hc7⟩
      obtain ⟨A7, n7, c7, rfl, HL7, HO7⟩ := ho7.form
      have HC7 := Lib.hid ((HC4.out.no HC6.out).no hc7)
      have c2 := hc7.cell c2 (fun x => x)
      have ht1 := HO7.out.bytes.text (P := Try.prog) (src := 22) (dst := 9) Try.underlying22 Try.underlying5 Try.underlying9
      have ht2 := (HB.out.no HC7.out).text (P := Try.prog) (src := 22) (dst := 9) Try.underlying22 Try.underlying5 Try.underlying9
      have hbe : ((mkS xs).toList == (mkS xs).toList) = true := beq_self_eq_true _
      clear ho7 hc7
      go_wp2
      go_ret
      exact ⟨rfl, HC7.out⟩
    case false =>
    obtain ⟨j, rfl, nw', -, -, hJ, hc6, hj⟩ := ho2 rfl
    clear ho1 ho2
    have HJ := Lib.hid hJ
    have hdm : ∀ i, DM d m i → i < w3.heap.size ∧ w.heap.size ≤ i := by
      rintro i (rfl | rfl)
      · exact ⟨hd3, by omega⟩
      · exact ⟨hm3, by omega⟩
    have c0 := hc6.cell C0.out (fun h => by have := (hdm _ h).1; simp only at this; omega)
    have c1 := hc6.cell C1.out (fun h => by have := (hdm _ h).1; simp only at this; omega)
    have c2 := hc6.cell C2.out (fun h => by have := (hdm _ h).1; simp only at this; omega)
    have HO26 := Lib.hid ((HO2.out.chg HCA.out (fun _ _ x => x)).chg hc6 (fun b hb h => by have h1 := (hdm _ h).1; have h2 := (HO2.out.block b hb).1; omega))
    have HC6 := Lib.hid ((HC4.out.no HCA.out).newer hc6 (fun i h => (hdm i h).2))
    clear hJ hc6 C0 C1 C2
    go_wp2_with fail
    refine (jread_calls w6 _ w.heap.size j d m nw' ⟨#[102]⟩ ps HJ.out (by rw [HSZ.out]; omega)).mono ?_
    rintro e w7 ⟨v7, rfl, ho7, hc7⟩
    obtain ⟨A7, n7, c7, rfl, HL7, HO7⟩ := ho7.form
    have HC7 := Lib.hid (HC6.out.no hc7)
    have c0 := hc7.cell c0 (fun x => x)
    have c1 := hc7.cell c1 (fun x => x)
    have c2 := hc7.cell c2 (fun x => x)
    have HJ7 := Lib.hid (HJ.out.no hc7)
    have HO27 := Lib.hid (HO26.out.chg hc7 (fun _ _ x => x))
    have HT1 := Lib.hid (fun V (hV : Chg No w7 V) => (HO7.out.bytes.no hV).text (P := Try.prog) (src := 22) (dst := 9) Try.underlying22 Try.underlying5 Try.underlying9)
    have HT2 : Hid (∀ V, Chg No w7 V → Sem.run Try.prog (convert 22 9 (.slice A sz c)) V = .ok (.string (mkS (encF ps))) V) := fun V hV => by
      have h := (Bytes.takeN (k := sz) (m := c) ((HB.out.no HC7.out).no hV) HL.out hszn2 (by omega) (Nat.le_refl _)).text (P := Try.prog) (src := 22) (dst := 9) Try.underlying22 Try.underlying5 Try.underlying9
      rw [HENC.out] at h
      exact h
    have HSIZ : Hid (Calls Try.prog 13 #[.pointer (some ⟨j, 0, none⟩)] w7.drew fun e w' => e = .returned (.int .i64 (sz : Int)) ∧ w' = w7.drew) := by
      have h := jsize_calls w7.drew _ _ j _ _ _ _ _ _ (HJ7.out.no (Chg.refl No _).drew)
      rw [HSZ.out] at h
      exact h
    have HHO := Lib.hid (holds_calls w7.drew _ _ j _ _ _ _ _ ps (HJ7.out.no (Chg.refl No _).drew) (by rw [HSZ.out]; omega) L ps.length cd (Sl2.ofOwn2 (HO27.out.chg (Chg.refl No _).drew (fun _ _ x => x)) HC7.out.drew) rfl)
    have hszc : sz ≤ c := by omega
    clear ho7 hc7
    generalize w4.heap.size = g4 at *
    have hbe : ((mkS (encF ps)).toList == (mkS (encF ps)).toList) = true := beq_self_eq_true _
    go_wp2
    refine wp_region_held_drew (S := (fun W => W.cell? ⟨g4, 0, none⟩ = some (.slice L ps.length cd) ∧ W.cell? ⟨g4, 1, none⟩ = some (.int .i64 (sz : Int)) ∧ Sem.run Try.prog (convert 22 9 (.slice A7 n7 c7)) W = .ok (.string (mkS (encF ps))) W ∧ Sem.run Try.prog (convert 22 9 (.slice A sz c)) W = .ok (.string (mkS (encF ps))) W)) (by kernel_rfl) ⟨c0, c1, HT1.out _ (Chg.refl No _).drew, HT2.out _ (Chg.refl No _).drew⟩ (fun hSw => ?_)
    refine wpAnyH_take (i := 0) (oi := { dst := some 52, op := Go.Op.move (Go.Operand.tmp 6), type := 31, pos := "law.go:74", after := #[], guard := none }) (v := ?_) rfl (by kernel_rfl) (by kernel_rfl) (by kernel_rfl) (fun _ _ _ h => h) (Or.inl ⟨by rfl, ?_⟩) hSw ?_
    rotate_left
    · (intro W hW; obtain ⟨hq1, hq2, hq3, hq4⟩ := hW; go_simp; try with_reducible rfl)
    try simp only [Act.put, List.setIfInBounds_toArray, List.set_cons_zero, List.set_cons_succ]
    refine wpAnyH_take (i := 1) (oi := { dst := some 53, op := Go.Op.binOp Go.BinOp.eql 31 (Go.Operand.tmp 52) (Go.Operand.const (Go.Value.int Go.IntKind.i64 0)) 31, type := 4, pos := "law.go:74", after := #[{ on := 0, ground := Go.Ground.data }], guard := none }) (v := ?_) rfl (by kernel_rfl) (by kernel_rfl) (by kernel_rfl) (fun _ _ _ h => h) (Or.inl ⟨by rfl, ?_⟩) hSw ?_
    rotate_left
    · (intro W hW; obtain ⟨hq1, hq2, hq3, hq4⟩ := hW; go_simp; try with_reducible rfl)
    try simp only [Act.put, List.setIfInBounds_toArray, List.set_cons_zero, List.set_cons_succ]
    refine wpAnyH_take (i := 2) (oi := { dst := some 54, op := Go.Op.move (Go.Operand.tmp 53), type := 4, pos := "law.go:74", after := #[{ on := 1, ground := Go.Ground.data }], guard := none }) (v := ?_) rfl (by kernel_rfl) (by kernel_rfl) (by kernel_rfl) (fun _ _ _ h => h) (Or.inl ⟨by rfl, ?_⟩) hSw ?_
    rotate_left
    · (intro W hW; obtain ⟨hq1, hq2, hq3, hq4⟩ := hW; go_simp; try with_reducible rfl)
    try simp only [Act.put, List.setIfInBounds_toArray, List.set_cons_zero, List.set_cons_succ]
    refine wpAnyH_take (i := 3) (oi := { dst := some 55, op := Go.Op.move (Go.Operand.tmp 5), type := 30, pos := "law.go:74", after := #[{ on := 2, ground := Go.Ground.guard }], guard := some (2, true) }) (v := ?_) rfl (by kernel_rfl) (by kernel_rfl) (by kernel_rfl) (fun _ _ _ h => h) (Or.inl ⟨by rfl, ?_⟩) hSw ?_
    rotate_left
    · (intro W hW; obtain ⟨hq1, hq2, hq3, hq4⟩ := hW; go_simp; try with_reducible rfl)
    try simp only [Act.put, List.setIfInBounds_toArray, List.set_cons_zero, List.set_cons_succ]
    refine wpAnyH_take (i := 5) (oi := { dst := some 57, op := Go.Op.fieldAddr 28 (Go.Operand.tmp 4) 1, type := 0, pos := "law.go:74", after := #[{ on := 2, ground := Go.Ground.guard }], guard := some (2, true) }) (v := ?_) rfl (by kernel_rfl) (by kernel_rfl) (by kernel_rfl) (fun _ _ _ h => h) (Or.inl ⟨by rfl, ?_⟩) hSw ?_
    rotate_left
    · (intro W hW; obtain ⟨hq1, hq2, hq3, hq4⟩ := hW; go_simp; try with_reducible rfl)
    try simp only [Act.put, List.setIfInBounds_toArray, List.set_cons_zero, List.set_cons_succ]
    refine wpAnyH_take (i := 6) (oi := { dst := some 58, op := Go.Op.load 3 (Go.Operand.tmp 57), type := 3, pos := "law.go:74", after := #[{ on := 5, ground := Go.Ground.data }, { on := 2, ground := Go.Ground.guard }], guard := some (2, true) }) (v := ?_) rfl (by kernel_rfl) (by kernel_rfl) (by kernel_rfl) (fun _ _ _ h => h) (Or.inl ⟨by rfl, ?_⟩) hSw ?_
    rotate_left
    · (intro W hW; obtain ⟨hq1, hq2, hq3, hq4⟩ := hW; go_simp; try with_reducible rfl)
    try simp only [Act.put, List.setIfInBounds_toArray, List.set_cons_zero, List.set_cons_succ]
    refine wpAnyH_ready (rs := [4]) (by kernel_rfl) (by simp) ?_
    refine AllReadyH.cons (o := { dst := some 56, op := Go.Op.call { callee := Go.Callee.value (Go.Operand.func 13), args := #[Go.Operand.tmp 55], argTypes := #[30] }, type := 3, pos := "law.go:74", after := #[{ on := 3, ground := Go.Ground.data }, { on := 2, ground := Go.Ground.chain }, { on := 2, ground := Go.Ground.guard }], guard := some (2, true) }) rfl (fun K hK => ?_) AllReadyH.nil
    rw [if_pos (by rfl)]
    go_simp
    refine HSIZ.out.mono ?_
    rintro e w9 ⟨rfl, rfl⟩
    refine hK.out _ _ ⟨c0, c1, HT1.out _ (Chg.refl No _).drew, HT2.out _ (Chg.refl No _).drew⟩ (fun hSw => ?_)
    clear hK
    try simp only [Act.put, List.setIfInBounds_toArray, List.set_cons_zero, List.set_cons_succ]
    refine wpAnyH_take (i := 7) (oi := { dst := some 59, op := Go.Op.binOp Go.BinOp.eql 3 (Go.Operand.tmp 56) (Go.Operand.tmp 58) 3, type := 4, pos := "law.go:74", after := #[{ on := 4, ground := Go.Ground.data }, { on := 6, ground := Go.Ground.data }, { on := 2, ground := Go.Ground.guard }], guard := some (2, true) }) (v := ?_) rfl (by kernel_rfl) (by kernel_rfl) (by kernel_rfl) (fun _ _ _ h => h) (Or.inl ⟨by rfl, ?_⟩) hSw ?_
    rotate_left
    · (intro W hW; obtain ⟨hq1, hq2, hq3, hq4⟩ := hW; go_simp; try with_reducible rfl)
    try simp only [Act.put, List.setIfInBounds_toArray, List.set_cons_zero, List.set_cons_succ]
    refine wpAnyH_take (i := 8) (oi := { dst := some 60, op := Go.Op.pick (Go.Operand.tmp 54) (Go.Operand.tmp 59) (Go.Operand.const (Go.Value.bool false)), type := 4, pos := "law.go:74", after := #[{ on := 2, ground := Go.Ground.data }, { on := 7, ground := Go.Ground.data }], guard := none }) (v := ?_) rfl (by kernel_rfl) (by kernel_rfl) (by kernel_rfl) (fun _ _ _ h => h) (Or.inl ⟨by rfl, ?_⟩) hSw ?_
    rotate_left
    · (intro W hW; obtain ⟨hq1, hq2, hq3, hq4⟩ := hW; go_simp; try with_reducible rfl)
    try simp only [Act.put, List.setIfInBounds_toArray, List.set_cons_zero, List.set_cons_succ]
    refine wpAnyH_take (i := 9) (oi := { dst := some 61, op := Go.Op.move (Go.Operand.tmp 60), type := 4, pos := "law.go:74", after := #[{ on := 8, ground := Go.Ground.data }, { on := 4, ground := Go.Ground.chain }], guard := none }) (v := ?_) rfl (by kernel_rfl) (by kernel_rfl) (by kernel_rfl) (fun _ _ _ h => h) (Or.inl ⟨by rfl, ?_⟩) hSw ?_
    rotate_left
    · (intro W hW; obtain ⟨hq1, hq2, hq3, hq4⟩ := hW; go_simp; try with_reducible rfl)
    try simp only [Act.put, List.setIfInBounds_toArray, List.set_cons_zero, List.set_cons_succ]
    refine wpAnyH_take (i := 10) (oi := { dst := some 62, op := Go.Op.move (Go.Operand.tmp 5), type := 30, pos := "law.go:74", after := #[{ on := 9, ground := Go.Ground.guard }], guard := some (9, true) }) (v := ?_) rfl (by kernel_rfl) (by kernel_rfl) (by kernel_rfl) (fun _ _ _ h => h) (Or.inl ⟨by rfl, ?_⟩) hSw ?_
    rotate_left
    · (intro W hW; obtain ⟨hq1, hq2, hq3, hq4⟩ := hW; go_simp; try with_reducible rfl)
    try simp only [Act.put, List.setIfInBounds_toArray, List.set_cons_zero, List.set_cons_succ]
    refine wpAnyH_take (i := 11) (oi := { dst := some 63, op := Go.Op.fieldAddr 28 (Go.Operand.tmp 4) 0, type := 0, pos := "law.go:74", after := #[{ on := 9, ground := Go.Ground.guard }], guard := some (9, true) }) (v := ?_) rfl (by kernel_rfl) (by kernel_rfl) (by kernel_rfl) (fun _ _ _ h => h) (Or.inl ⟨by rfl, ?_⟩) hSw ?_
    rotate_left
    · (intro W hW; obtain ⟨hq1, hq2, hq3, hq4⟩ := hW; go_simp; try with_reducible rfl)
    try simp only [Act.put, List.setIfInBounds_toArray, List.set_cons_zero, List.set_cons_succ]
    refine wpAnyH_take (i := 12) (oi := { dst := some 64, op := Go.Op.load 26 (Go.Operand.tmp 63), type := 26, pos := "law.go:74", after := #[{ on := 11, ground := Go.Ground.data }, { on := 9, ground := Go.Ground.guard }], guard := some (9, true) }) (v := ?_) rfl (by kernel_rfl) (by kernel_rfl) (by kernel_rfl) (fun _ _ _ h => h) (Or.inl ⟨by rfl, ?_⟩) hSw ?_
    rotate_left
    · (intro W hW; obtain ⟨hq1, hq2, hq3, hq4⟩ := hW; go_simp; try with_reducible rfl)
    try simp only [Act.put, List.setIfInBounds_toArray, List.set_cons_zero, List.set_cons_succ]
    refine wpAnyH_ready (rs := [13]) (by kernel_rfl) (by simp) ?_
    refine AllReadyH.cons (o := { dst := some 65, op := Go.Op.call { callee := Go.Callee.value (Go.Operand.func 14), args := #[Go.Operand.tmp 62, Go.Operand.tmp 64], argTypes := #[30, 26] }, type := 4, pos := "law.go:74", after := #[{ on := 10, ground := Go.Ground.data }, { on := 12, ground := Go.Ground.data }, { on := 9, ground := Go.Ground.chain }, { on := 9, ground := Go.Ground.guard }], guard := some (9, true) }) rfl (fun K hK => ?_) AllReadyH.nil
    rw [if_pos (by rfl)]
    go_simp
    refine HHO.out.mono ?_
    rintro e w10 ⟨rfl, hc10⟩
    have HC10 := Lib.hid hc10
    have d0 := hc10.cell c0 (fun x => x)
    have d1 := hc10.cell c1 (fun x => x)
    have d2 := HT1.out w10 ((Chg.refl No w7).drew.no hc10)
    have d3 := HT2.out w10 ((Chg.refl No w7).drew.no hc10)
    clear hc10
    refine hK.out _ _ ⟨d0, d1, d2, d3⟩ (fun hSw => ?_)
    clear hK
    try simp only [Act.put, List.setIfInBounds_toArray, List.set_cons_zero, List.set_cons_succ]
    refine wpAnyH_take (i := 14) (oi := { dst := some 66, op := Go.Op.pick (Go.Operand.tmp 61) (Go.Operand.tmp 65) (Go.Operand.const (Go.Value.bool false)), type := 4, pos := "law.go:74", after := #[{ on := 9, ground := Go.Ground.data }, { on := 13, ground := Go.Ground.data }], guard := none }) (v := ?_) rfl (by kernel_rfl) (by kernel_rfl) (by kernel_rfl) (fun _ _ _ h => h) (Or.inl ⟨by rfl, ?_⟩) hSw ?_
    rotate_left
    · (intro W hW; obtain ⟨hq1, hq2, hq3, hq4⟩ := hW; go_simp; try with_reducible rfl)
    try simp only [Act.put, List.setIfInBounds_toArray, List.set_cons_zero, List.set_cons_succ]
    refine wpAnyH_take (i := 15) (oi := { dst := some 67, op := Go.Op.move (Go.Operand.tmp 66), type := 4, pos := "law.go:74", after := #[{ on := 14, ground := Go.Ground.data }, { on := 13, ground := Go.Ground.chain }], guard := none }) (v := ?_) rfl (by kernel_rfl) (by kernel_rfl) (by kernel_rfl) (fun _ _ _ h => h) (Or.inl ⟨by rfl, ?_⟩) hSw ?_
    rotate_left
    · (intro W hW; obtain ⟨hq1, hq2, hq3, hq4⟩ := hW; go_simp; try with_reducible rfl)
    try simp only [Act.put, List.setIfInBounds_toArray, List.set_cons_zero, List.set_cons_succ]
    refine wpAnyH_take (i := 16) (oi := { dst := some 68, op := Go.Op.move (Go.Operand.tmp 7), type := 22, pos := "law.go:74", after := #[{ on := 15, ground := Go.Ground.guard }], guard := some (15, true) }) (v := ?_) rfl (by kernel_rfl) (by kernel_rfl) (by kernel_rfl) (fun _ _ _ h => h) (Or.inl ⟨by rfl, ?_⟩) hSw ?_
    rotate_left
    · (intro W hW; obtain ⟨hq1, hq2, hq3, hq4⟩ := hW; go_simp; try with_reducible rfl)
    try simp only [Act.put, List.setIfInBounds_toArray, List.set_cons_zero, List.set_cons_succ]
    refine wpAnyH_take (i := 17) (oi := { dst := some 69, op := Go.Op.convert 22 9 (Go.Operand.tmp 68), type := 9, pos := "law.go:74", after := #[{ on := 16, ground := Go.Ground.data }, { on := 15, ground := Go.Ground.guard }], guard := some (15, true) }) (v := ?_) rfl (by kernel_rfl) (by kernel_rfl) (by kernel_rfl) (fun _ _ _ h => h) (Or.inl ⟨by rfl, ?_⟩) hSw ?_
    rotate_left
    · (intro W hW; obtain ⟨hq1, hq2, hq3, hq4⟩ := hW; go_simp; try with_reducible rfl)
    try simp only [Act.put, List.setIfInBounds_toArray, List.set_cons_zero, List.set_cons_succ]
    refine wpAnyH_take (i := 18) (oi := { dst := some 70, op := Go.Op.move (Go.Operand.tmp 0), type := 22, pos := "law.go:74", after := #[{ on := 15, ground := Go.Ground.guard }], guard := some (15, true) }) (v := ?_) rfl (by kernel_rfl) (by kernel_rfl) (by kernel_rfl) (fun _ _ _ h => h) (Or.inl ⟨by rfl, ?_⟩) hSw ?_
    rotate_left
    · (intro W hW; obtain ⟨hq1, hq2, hq3, hq4⟩ := hW; go_simp; try with_reducible rfl)
    try simp only [Act.put, List.setIfInBounds_toArray, List.set_cons_zero, List.set_cons_succ]
    refine wpAnyH_take (i := 19) (oi := { dst := some 71, op := Go.Op.fieldAddr 28 (Go.Operand.tmp 4) 1, type := 0, pos := "law.go:74", after := #[{ on := 15, ground := Go.Ground.guard }], guard := some (15, true) }) (v := ?_) rfl (by kernel_rfl) (by kernel_rfl) (by kernel_rfl) (fun _ _ _ h => h) (Or.inl ⟨by rfl, ?_⟩) hSw ?_
    rotate_left
    · (intro W hW; obtain ⟨hq1, hq2, hq3, hq4⟩ := hW; go_simp; try with_reducible rfl)
    try simp only [Act.put, List.setIfInBounds_toArray, List.set_cons_zero, List.set_cons_succ]
    refine wpAnyH_take (i := 20) (oi := { dst := some 72, op := Go.Op.load 3 (Go.Operand.tmp 71), type := 3, pos := "law.go:74", after := #[{ on := 19, ground := Go.Ground.data }, { on := 15, ground := Go.Ground.guard }], guard := some (15, true) }) (v := ?_) rfl (by kernel_rfl) (by kernel_rfl) (by kernel_rfl) (fun _ _ _ h => h) (Or.inl ⟨by rfl, ?_⟩) hSw ?_
    rotate_left
    · (intro W hW; obtain ⟨hq1, hq2, hq3, hq4⟩ := hW; go_simp; try with_reducible rfl)
    try simp only [Act.put, List.setIfInBounds_toArray, List.set_cons_zero, List.set_cons_succ]
    refine wpAnyH_take (i := 21) (oi := { dst := some 73, op := Go.Op.slice 22 (Go.Operand.tmp 70) none (some (Go.Operand.tmp 72)) none, type := 22, pos := "law.go:74", after := #[{ on := 18, ground := Go.Ground.data }, { on := 20, ground := Go.Ground.data }, { on := 15, ground := Go.Ground.guard }], guard := some (15, true) }) (v := ?_) rfl (by kernel_rfl) (by kernel_rfl) (by kernel_rfl) (fun _ _ _ h => h) (Or.inl ⟨by rfl, ?_⟩) hSw ?_
    rotate_left
    · (intro W hW; obtain ⟨hq1, hq2, hq3, hq4⟩ := hW; go_simp; try with_reducible rfl)
    try simp only [Act.put, List.setIfInBounds_toArray, List.set_cons_zero, List.set_cons_succ]
    refine wpAnyH_take (i := 22) (oi := { dst := some 74, op := Go.Op.convert 22 9 (Go.Operand.tmp 73), type := 9, pos := "law.go:74", after := #[{ on := 21, ground := Go.Ground.data }, { on := 15, ground := Go.Ground.guard }], guard := some (15, true) }) (v := ?_) rfl (by kernel_rfl) (by kernel_rfl) (by kernel_rfl) (fun _ _ _ h => h) (Or.inl ⟨by rfl, ?_⟩) hSw ?_
    rotate_left
    · (intro W hW; obtain ⟨hq1, hq2, hq3, hq4⟩ := hW; go_simp; try with_reducible rfl)
    try simp only [Act.put, List.setIfInBounds_toArray, List.set_cons_zero, List.set_cons_succ]
    refine wpAnyH_take (i := 23) (oi := { dst := some 75, op := Go.Op.binOp Go.BinOp.eql 9 (Go.Operand.tmp 69) (Go.Operand.tmp 74) 9, type := 4, pos := "law.go:74", after := #[{ on := 17, ground := Go.Ground.data }, { on := 22, ground := Go.Ground.data }, { on := 15, ground := Go.Ground.guard }], guard := some (15, true) }) (v := ?_) rfl (by kernel_rfl) (by kernel_rfl) (by kernel_rfl) (fun _ _ _ h => h) (Or.inl ⟨by rfl, ?_⟩) hSw ?_
    rotate_left
    · (intro W hW; obtain ⟨hq1, hq2, hq3, hq4⟩ := hW; go_simp; try with_reducible rfl)
    try simp only [Act.put, List.setIfInBounds_toArray, List.set_cons_zero, List.set_cons_succ]
    refine wpAnyH_take (i := 24) (oi := { dst := some 76, op := Go.Op.pick (Go.Operand.tmp 67) (Go.Operand.tmp 75) (Go.Operand.const (Go.Value.bool false)), type := 4, pos := "law.go:74", after := #[{ on := 15, ground := Go.Ground.data }, { on := 23, ground := Go.Ground.data }], guard := none }) (v := ?_) rfl (by kernel_rfl) (by kernel_rfl) (by kernel_rfl) (fun _ _ _ h => h) (Or.inl ⟨by rfl, ?_⟩) hSw ?_
    rotate_left
    · (intro W hW; obtain ⟨hq1, hq2, hq3, hq4⟩ := hW; go_simp; try with_reducible rfl)
    try simp only [Act.put, List.setIfInBounds_toArray, List.set_cons_zero, List.set_cons_succ]
    refine wpAnyH_take (i := 25) (oi := { dst := some 2, op := Go.Op.assign (Go.Operand.tmp 76), type := 4, pos := "law.go:74", after := #[{ on := 24, ground := Go.Ground.data }, { on := 15, ground := Go.Ground.chain }, { on := 0, ground := Go.Ground.phase }, { on := 1, ground := Go.Ground.phase }, { on := 2, ground := Go.Ground.phase }, { on := 3, ground := Go.Ground.phase }, { on := 4, ground := Go.Ground.phase }, { on := 5, ground := Go.Ground.phase }, { on := 6, ground := Go.Ground.phase }, { on := 7, ground := Go.Ground.phase }, { on := 8, ground := Go.Ground.phase }, { on := 9, ground := Go.Ground.phase }, { on := 10, ground := Go.Ground.phase }, { on := 11, ground := Go.Ground.phase }, { on := 12, ground := Go.Ground.phase }, { on := 13, ground := Go.Ground.phase }, { on := 14, ground := Go.Ground.phase }, { on := 15, ground := Go.Ground.phase }, { on := 16, ground := Go.Ground.phase }, { on := 17, ground := Go.Ground.phase }, { on := 18, ground := Go.Ground.phase }, { on := 19, ground := Go.Ground.phase }, { on := 20, ground := Go.Ground.phase }, { on := 21, ground := Go.Ground.phase }, { on := 22, ground := Go.Ground.phase }, { on := 23, ground := Go.Ground.phase }, { on := 24, ground := Go.Ground.phase }], guard := none }) (v := ?_) rfl (by kernel_rfl) (by kernel_rfl) (by kernel_rfl) (fun _ _ _ h => h) (Or.inl ⟨by rfl, ?_⟩) hSw ?_
    rotate_left
    · (intro W hW; obtain ⟨hq1, hq2, hq3, hq4⟩ := hW; go_simp; try with_reducible rfl)
    try simp only [Act.put, List.setIfInBounds_toArray, List.set_cons_zero, List.set_cons_succ]
    refine wpAnyH_done (by kernel_rfl) ?_ _
    go_wp2
    go_ret
    exact ⟨rfl, HC7.out.drew.no HC10.out⟩

theorem journalOpens_walk (w : World) (A : Option Addr) (n c : Nat) (xs : List UInt8) (hb : Bytes w (.slice A n c) xs) (hl : xs.length = n) (hn : n ≤ 140737488351232) :
    Calls Try.prog 3 #[.slice A n c] w fun e w' => e = .returned (.bool true) ∧ Below w.heap.size w w' :=
  (journalOpens_core w A n c xs hb hl).mono fun _ _ h => ⟨h.1, h.2.below⟩
end Go.Proofs.Ytbbfjnfmfigcfaa
