/-
  The walk of OctetReads.
-/
import Derived.Test.YtikfplfhndhjbaaRd5
import Derived.Test.YtikfplfhndhjbaaLaw01w
namespace Go.Proofs.Ytikfplfhndhjbaa
open Go.RowKit
set_option linter.unusedVariables false
set_option linter.unusedSimpArgs false

set_option maxRecDepth 100000 in
set_option maxHeartbeats 3200000 in
theorem octetReads_core (w : World) (A : Option Addr) (n c : Nat) (bs : List UInt8) (hb : Bytes w (.slice A n c) bs) (hl : bs.length = n) (hn : n ≤ 140737488355320)
    (Aa : Option Addr) (na ca : Nat) (qs : List (Int × Int)) (hq : Asks w Aa na qs) :
    Calls Try.prog 7 #[.slice A n c, .slice Aa na ca] w fun e w' => e = .returned (.bool true) ∧ Chg No w w' := by
  have HB := Lib.hid hb
  have HL := Lib.hid hl
  have HQ := Lib.hid hq
  clear hb hl hq
  go_enter Try.func7, Try.ntmps7
  go_wp2_with fail
  refine (wakes_calls _).mono ?_
  rintro e w1 ⟨rfl, hc1⟩
  have HC1 := Lib.hid hc1
  have hz1 := hc1.size
  clear hc1
  go_wp2_with fail
  refine (read_calls _ _ _ _ bs (HB.out.no HC1.out) (by omega)).mono ?_
  rintro e w' ⟨w2, v, rfl, rfl, hown, hc⟩
  have hz2 := hc.size
  have HR1 : Hid (∀ N, w2.heap.size < N → ∃ d, (w1.heap.size ≤ d ∧ d < w2.heap.size ∨ d = N) ∧ RdrAt (w2.alloc (.cells #[.bool true, v, .int .i64 0] 70)) w2.heap.size d ⟨bs, 0⟩) := fun N hN => RdrAt.made2 hown hc.size N hN
  have HC2 : Hid (Chg No w (w2.alloc (.cells #[.bool true, v, .int .i64 0] 70))) := HC1.out.no (hc.alloc _)
  have hs2 : (w2.alloc (.cells #[.bool true, v, .int .i64 0] 70)).heap.size = w2.heap.size + 1 := by simp
  clear hown hc
  generalize w2.alloc (.cells #[.bool true, v, .int .i64 0] 70) = w3 at *
  generalize w2.heap.size = g at *
  go_wp2_with fail
  refine (read_calls _ _ _ _ bs (HB.out.no HC2.out) (by omega)).mono ?_
  rintro e w' ⟨w4, v4, rfl, rfl, hown, hc⟩
  have hz4 := hc.size
  have HR2 : Hid (∀ N, w4.heap.size < N → ∃ d, (w3.heap.size ≤ d ∧ d < w4.heap.size ∨ d = N) ∧ RdrAt (w4.alloc (.cells #[.bool true, v4, .int .i64 0] 70)) w4.heap.size d ⟨bs, 0⟩) := fun N hN => RdrAt.made2 hown hc.size N hN
  have HC4 : Hid (Chg No w3 (w4.alloc (.cells #[.bool true, v4, .int .i64 0] 70))) := hc.alloc _
  have hs4 : (w4.alloc (.cells #[.bool true, v4, .int .i64 0] 70)).heap.size = w4.heap.size + 1 := by simp
  clear hown hc
  generalize w4.alloc (.cells #[.bool true, v4, .int .i64 0] 70) = w5 at *
  generalize w4.heap.size = s at *
  go_wp2_with fail
  refine (wakes_calls _).mono ?_
  rintro e w6 ⟨rfl, hc6⟩
  have HC6 := Lib.hid hc6
  have hz6 := hc6.size
  clear hc6
  go_wp2_with fail
  refine (both_calls _ _ _ _ bs none 0 0 [] (HB.out.no ((HC2.out.no HC4.out).no HC6.out)) HL.out (Bytes.nil _) rfl (by omega)).mono ?_
  rintro e w7 ⟨v7, rfl, ho7, hc7⟩
  have hz7 := hc7.size
  rw [List.append_nil] at ho7
  obtain ⟨M, nM, cM, rfl, HL7, HO7⟩ := OwnB.form (w := w7) (v := v7) (xs := bs) ho7
  have hblk := HO7.out.block
  have HBM : Hid (Bytes (w7.alloc (.cells #[.slice M nM cM, .int .i64 0] 48)) (.slice M nM cM) bs) := (HO7.out.bytes).no ((Chg.refl No _).alloc _)
  have HMB : Hid (∀ b, (Value.slice M nM cM).ownBlock = some b → s < b ∧ b < w7.heap.size) := fun b hb => by have := hblk b hb; omega
  have HC7 : Hid (Chg No w5 (w7.alloc (.cells #[.slice M nM cM, .int .i64 0] 48))) := (HC6.out.no hc7).alloc _
  have HM0 : Hid ((w7.alloc (.cells #[.slice M nM cM, .int .i64 0] 48)).heap[w7.heap.size]? = some (.cells #[.slice M nM cM, .int .i64 0] 48 (0, 0))) := heap_alloc_new w7 _
  clear ho7 hc7 hblk
  obtain ⟨d, hd, hr1⟩ := HR1.out (w7.heap.size + 1) (by omega)
  obtain ⟨ds, hds, hr2⟩ := HR2.out (w7.heap.size + 1) (by omega)
  have HRd : Hid (RdrAt (w7.alloc (.cells #[.slice M nM cM, .int .i64 0] 48)) g d ⟨bs, 0⟩) := (hr1.no HC4.out).no HC7.out
  have HRs : Hid (RdrAt (w7.alloc (.cells #[.slice M nM cM, .int .i64 0] 48)) s ds ⟨bs, 0⟩) := hr2.no HC7.out
  have HC : Hid (Chg No w (w7.alloc (.cells #[.slice M nM cM, .int .i64 0] 48))) := (HC2.out.no HC4.out).no HC7.out
  clear hr1 hr2 HR1 HR2
  have hgs : w.heap.size ≤ g ∧ g < s ∧ s < w7.heap.size ∧ (d < g ∨ d = w7.heap.size + 1) ∧ (g < ds ∧ ds < s ∨ ds = w7.heap.size + 1) := by omega
  clear hz1 hz2 hz4 hz6 hz7 hs2 hs4 hd hds
  go_wp2
  generalize w7.alloc (.cells #[.slice M nM cM, .int .i64 0] 48) = w8 at *
  generalize w7.heap.size = gm at *
  have HN := HL7.out
  clear HC1 HC2 HC4 HC6 HC7

  go_loopw [33] (fun i wr => ∃ (k : Nat) (R : Rd) (B : Option Addr) (nb cb : Nat), k ≤ na ∧ i = .int .i64 (k : Int) ∧ nb ≤ nM ∧ Hid (RdrAt wr g d R) ∧ Hid (RdrAt wr s ds ⟨bs, 0⟩) ∧ Hid (wr.heap[gm]? = some (.cells #[.slice B nb cb, .int .i64 R.err] 48 (0, 0))) ∧ Hid (Part M nM cM bs B nb cb R.rest) ∧ Hid (Bytes wr (.slice M nM cM) bs) ∧ Hid (Chg No w wr)) (fun i _ => na - (intOf i).toNat)
  case atStart => exact ⟨0, ⟨bs, 0⟩, M, nM, cM, by omega, rfl, Nat.le_refl _, HRd.out, HRs.out, HM0.out, Part.refl HL7.out, HBM.out, HC.out⟩
  case round =>
    clear HRd HRs HM0 HBM HC
    obtain ⟨k, R, B, nb, cb, hk, rfl, hnb, HRd, HRs, HM0, HPT, HBM, HC⟩ := hrel
    have hnM : nM ≤ 140737488355320 := by have := HL.out; omega
    by_cases hlt : k < na
    · obtain ⟨⟨hql, hqn⟩, hqc, hqb⟩ := HQ.out.no HC.out
      obtain ⟨qb, qo, rfl, hqx⟩ := hqc (by omega)
      have hb0 := hqb (qs[k]'(by omega)) (List.getElem_mem _)
      have hx0 := hqx k (by omega)
      generalize qs[k]'(by omega) = q at hb0 hx0
      obtain ⟨qa, qk⟩ := q
      obtain ⟨⟨ba1, ba2⟩, bk1, bk2⟩ := hb0
      obtain ⟨hx1, hx2⟩ := hx0
      simp only at hx1 hx2 ba1 ba2 bk1 bk2
      clear hqx hqb hqc hql
      have hm0 : ∀ o, (wr.alloc o).cell? ⟨gm, 0, none⟩ = some (.slice B nb cb) := fun o => (cells2 (((Chg.refl No wr).alloc o).heap HM0.out (fun x => x))).1
      have hm1 : ∀ o, (wr.alloc o).cell? ⟨gm, 1, none⟩ = some (.int .i64 R.err) := fun o => (cells2 (((Chg.refl No wr).alloc o).heap HM0.out (fun x => x))).2.1
      have hk5 := kind5 qa
      have i0 : (0 : Int) ≤ (k : Int) := by omega
      have i1 : (k : Int) < (na : Int) := by omega
      go_wp2_with fail

      generalize (wrap64 (qa.tmod 5 + 5)).tmod 5 = kd at *
      have HPB : Hid (Bytes wr (.slice B nb cb) R.rest) := HPT.out.2 wr HBM.out
      refine (do_any _ B nb cb R.rest (HPB.out.no ((Chg.refl No wr).alloc _)) HPT.out.1 (by omega) R.err kd qk hk5.1 hk5.2 bk2).mono ?_
      have HDL : Hid ((doF kd qk R).2.2.rest.length ≤ nb) := by rw [Hid, ← HPT.out.1]; exact doF_len kd qk R
      have heta : doF kd qk ⟨R.rest, R.err⟩ = doF kd qk R := rfl
      rw [heta]
      clear heta
      generalize hD : doF kd qk R = D
      rw [hD] at HDL
      have HD := Lib.hid hD
      clear hD
      obtain ⟨x, ys, rest', err'⟩ := D
      rintro e w9 ⟨⟨A1, n1, c1, A2, n2, c2, rfl, hp1, hp2⟩, hc9⟩
      have hz9 : wr.heap.size + 1 ≤ w9.heap.size := by have := hc9.size; simpa using this
      obtain ⟨q0, q1, -, -⟩ := cells2 (hc9.heap (heap_alloc_new wr _) (fun x => x))
      have HC9 : Hid (Chg No wr w9) := ((Chg.refl No wr).alloc _).no hc9
      have hgw : gm < wr.heap.size := by
        rcases Nat.lt_or_ge gm wr.heap.size with h' | h'
        · exact h'
        · have := HM0.out
          simp [Array.getElem?_eq_none h'] at this
      clear hc9 hm0 hm1
      simp only at hp1 hp2 HDL ⊢
      go_wp2

      have HC10 : Hid (Chg No w9 ((w9.alloc (.cells #[.slice A1 n1 c1, .int .i64 err'] 48)).alloc (.cells #[.int .u64 (x : Int), .slice A2 n2 c2] 52)).drew) := (((Chg.refl No w9).alloc _).alloc _).drew
      have HCr : Hid (Chg No wr ((w9.alloc (.cells #[.slice A1 n1 c1, .int .i64 err'] 48)).alloc (.cells #[.int .u64 (x : Int), .slice A2 n2 c2] 52)).drew) := HC9.out.no HC10.out
      have e1 := heap_alloc_new (w9.alloc (.cells #[.slice A1 n1 c1, .int .i64 err'] 48)) (.cells #[.int .u64 (x : Int), .slice A2 n2 c2] 52)
      rw [show (w9.alloc (.cells #[.slice A1 n1 c1, .int .i64 err'] 48)).heap.size = w9.heap.size + 1 by simp] at e1
      have e0 := ((Chg.refl No (w9.alloc (.cells #[.slice A1 n1 c1, .int .i64 err'] 48))).alloc (.cells #[.int .u64 (x : Int), .slice A2 n2 c2] 52)).heap (heap_alloc_new w9 (.cells #[.slice A1 n1 c1, .int .i64 err'] 48)) (fun x => x)
      obtain ⟨s2, s3, -, -⟩ := cells2 (((Chg.refl No _).drew).heap e0 (fun x => x))
      obtain ⟨s4, s5, -, -⟩ := cells2 (((Chg.refl No _).drew).heap e1 (fun x => x))
      have s0 := HC10.out.cell q0 (fun x => x)
      have s1 := HC10.out.cell q1 (fun x => x)
      clear e0 e1 q0 q1
      refine wp_region_held_drew (S := fun W => W.cell? ⟨wr.heap.size, 0, none⟩ = some (.int .i64 kd) ∧ W.cell? ⟨wr.heap.size, 1, none⟩ = some (.int .i64 qk) ∧ W.cell? ⟨w9.heap.size, 0, none⟩ = some (.slice A1 n1 c1) ∧ W.cell? ⟨w9.heap.size, 1, none⟩ = some (.int .i64 err') ∧ W.cell? ⟨w9.heap.size + 1, 0, none⟩ = some (.int .u64 (x : Int)) ∧ W.cell? ⟨w9.heap.size + 1, 1, none⟩ = some (.slice A2 n2 c2)) (by kernel_rfl) ⟨s0, s1, s2, s3, s4, s5⟩ (fun hSw => ?_)
      refine wpAnyH_take (i := 0) (oi := { dst := some 49, op := Go.Op.move (Go.Operand.tmp 5), type := 32, pos := "law.go:70", after := #[], guard := none }) (v := ?_) rfl (by kernel_rfl) (by kernel_rfl) (by kernel_rfl) (fun _ _ _ h => h) (Or.inl ⟨by rfl, ?_⟩) hSw ?_
      rotate_left
      · (intro W hW; (try dsimp only at hW); go_simp; try with_reducible rfl)
      try simp only [Act.put, List.setIfInBounds_toArray, List.set_cons_zero, List.set_cons_succ]
      refine wpAnyH_take (i := 1) (oi := { dst := some 50, op := Go.Op.load 50 (Go.Operand.tmp 9), type := 50, pos := "law.go:70", after := #[], guard := none }) (v := ?_) rfl (by kernel_rfl) (by kernel_rfl) (by kernel_rfl) (fun _ _ _ h => h) (Or.inl ⟨by rfl, ?_⟩) hSw ?_
      rotate_left
      · (intro W hW; (try dsimp only at hW); go_simp; try with_reducible rfl)
      try simp only [Act.put, List.setIfInBounds_toArray, List.set_cons_zero, List.set_cons_succ]
      refine wpAnyH_take (i := 2) (oi := { dst := some 51, op := Go.Op.load 52 (Go.Operand.tmp 11), type := 52, pos := "law.go:70", after := #[], guard := none }) (v := ?_) rfl (by kernel_rfl) (by kernel_rfl) (by kernel_rfl) (fun _ _ _ h => h) (Or.inl ⟨by rfl, ?_⟩) hSw ?_
      rotate_left
      · (intro W hW; (try dsimp only at hW); go_simp; try with_reducible rfl)
      try simp only [Act.put, List.setIfInBounds_toArray, List.set_cons_zero, List.set_cons_succ]
      refine wpAnyH_ready (rs := [3]) (by kernel_rfl) (by simp) ?_
      refine AllReadyH.cons (o := { dst := some 52, op := Go.Op.call { callee := Go.Callee.value (Go.Operand.func 30), args := #[Go.Operand.tmp 49, Go.Operand.tmp 50, Go.Operand.tmp 51], argTypes := #[32, 50, 52] }, type := 4, pos := "law.go:70", after := #[{ on := 0, ground := Go.Ground.data }, { on := 1, ground := Go.Ground.data }, { on := 2, ground := Go.Ground.data }], guard := none }) rfl (fun K hK => ?_) AllReadyH.nil
      rw [if_pos (by rfl)]
      go_simp
      refine (told_any _ g d R (HRd.out.no HCr.out) (by have := HPT.out.1; omega) kd qk hk5.1 hk5.2 bk2 x A2 n2 c2 (by rw [HD.out]) (fun w' h => by rw [HD.out]; exact (HPT.out.trans hp2.out).2 w' ((HBM.out.no HCr.out).chg h (fun b hb hx => by have := HMB.out b hb; have : b = g := hx; omega)))).mono ?_
      rintro e w11 ⟨rfl, hr11, hc11⟩
      rw [HD.out] at hr11
      simp only at hr11
      have HR11 := Lib.hid hr11
      have HC11 := Lib.hid hc11
      have t0 := hc11.cell s0 (by show ¬ (wr.heap.size = g); omega)
      have t1 := hc11.cell s1 (by show ¬ (wr.heap.size = g); omega)
      have t2 := hc11.cell s2 (by show ¬ (w9.heap.size = g); omega)
      have t3 := hc11.cell s3 (by show ¬ (w9.heap.size = g); omega)
      have t4 := hc11.cell s4 (by show ¬ (w9.heap.size + 1 = g); omega)
      have t5 := hc11.cell s5 (by show ¬ (w9.heap.size + 1 = g); omega)
      clear hr11 hc11
      refine hK.out _ _ ⟨t0, t1, t2, t3, t4, t5⟩ (fun hSw => ?_)
      clear hK
      try simp only [Act.put, List.setIfInBounds_toArray, List.set_cons_zero, List.set_cons_succ]
      refine wpAnyH_take (i := 4) (oi := { dst := some 53, op := Go.Op.unOp Go.UnOp.not 4 (Go.Operand.tmp 52), type := 4, pos := "law.go:70", after := #[{ on := 3, ground := Go.Ground.data }], guard := none }) (v := ?_) rfl (by kernel_rfl) (by kernel_rfl) (by kernel_rfl) (fun _ _ _ h => h) (Or.inl ⟨by rfl, ?_⟩) hSw ?_
      rotate_left
      · (intro W hW; (try dsimp only at hW); go_simp; try with_reducible rfl)
      try simp only [Act.put, List.setIfInBounds_toArray, List.set_cons_zero, List.set_cons_succ]
      refine wpAnyH_take (i := 5) (oi := { dst := some 54, op := Go.Op.move (Go.Operand.tmp 53), type := 4, pos := "law.go:70", after := #[{ on := 4, ground := Go.Ground.data }, { on := 3, ground := Go.Ground.chain }], guard := none }) (v := ?_) rfl (by kernel_rfl) (by kernel_rfl) (by kernel_rfl) (fun _ _ _ h => h) (Or.inl ⟨by rfl, ?_⟩) hSw ?_
      rotate_left
      · (intro W hW; (try dsimp only at hW); go_simp; try with_reducible rfl)
      try simp only [Act.put, List.setIfInBounds_toArray, List.set_cons_zero, List.set_cons_succ]
      refine wpAnyH_take (i := 6) (oi := { dst := some 55, op := Go.Op.move (Go.Operand.tmp 5), type := 32, pos := "law.go:70", after := #[{ on := 5, ground := Go.Ground.guard }], guard := some (5, false) }) (v := ?_) rfl (by kernel_rfl) (by kernel_rfl) (by kernel_rfl) (fun _ _ _ h => h) (Or.inl ⟨by rfl, ?_⟩) hSw ?_
      rotate_left
      · (intro W hW; (try dsimp only at hW); go_simp; try with_reducible rfl)
      try simp only [Act.put, List.setIfInBounds_toArray, List.set_cons_zero, List.set_cons_succ]
      refine wpAnyH_take (i := 8) (oi := { dst := some 57, op := Go.Op.fieldAddr 48 (Go.Operand.tmp 10) 0, type := 0, pos := "law.go:70", after := #[{ on := 5, ground := Go.Ground.guard }], guard := some (5, false) }) (v := ?_) rfl (by kernel_rfl) (by kernel_rfl) (by kernel_rfl) (fun _ _ _ h => h) (Or.inl ⟨by rfl, ?_⟩) hSw ?_
      rotate_left
      · (intro W hW; (try dsimp only at hW); go_simp; try with_reducible rfl)
      try simp only [Act.put, List.setIfInBounds_toArray, List.set_cons_zero, List.set_cons_succ]
      refine wpAnyH_take (i := 9) (oi := { dst := some 58, op := Go.Op.load 22 (Go.Operand.tmp 57), type := 22, pos := "law.go:70", after := #[{ on := 8, ground := Go.Ground.data }, { on := 5, ground := Go.Ground.guard }], guard := some (5, false) }) (v := ?_) rfl (by kernel_rfl) (by kernel_rfl) (by kernel_rfl) (fun _ _ _ h => h) (Or.inl ⟨by rfl, ?_⟩) hSw ?_
      rotate_left
      · (intro W hW; (try dsimp only at hW); go_simp; try with_reducible rfl)
      try simp only [Act.put, List.setIfInBounds_toArray, List.set_cons_zero, List.set_cons_succ]
      refine wpAnyH_take (i := 10) (oi := { dst := some 59, op := Go.Op.call { callee := Go.Callee.builtin Go.Builtin.len, args := #[Go.Operand.tmp 58], argTypes := #[22] }, type := 3, pos := "law.go:70", after := #[{ on := 9, ground := Go.Ground.data }, { on := 5, ground := Go.Ground.guard }], guard := some (5, false) }) (v := ?_) rfl (by kernel_rfl) (by kernel_rfl) (by kernel_rfl) (fun _ _ _ h => h) (Or.inl ⟨by rfl, ?_⟩) hSw ?_
      rotate_left
      · (intro W hW; (try dsimp only at hW); go_simp; try with_reducible rfl)
      try simp only [Act.put, List.setIfInBounds_toArray, List.set_cons_zero, List.set_cons_succ]
      refine wpAnyH_ready (rs := [7]) (by kernel_rfl) (by simp) ?_
      refine AllReadyH.cons (o := { dst := some 56, op := Go.Op.call { callee := Go.Callee.value (Go.Operand.func 22), args := #[Go.Operand.tmp 55], argTypes := #[32] }, type := 3, pos := "law.go:70", after := #[{ on := 6, ground := Go.Ground.data }, { on := 5, ground := Go.Ground.chain }, { on := 5, ground := Go.Ground.guard }], guard := some (5, false) }) rfl (fun K hK => ?_) AllReadyH.nil
      rw [if_pos (by rfl)]
      go_simp
      refine (left_calls _ g d _ HR11.out).mono ?_
      rintro e w' ⟨rfl, rfl⟩
      rw [show (Rd.mk rest' err').rest.length = n1 from hp1.out.1]
      refine hK.out _ _ ⟨t0, t1, t2, t3, t4, t5⟩ (fun hSw => ?_)
      clear hK
      try simp only [Act.put, List.setIfInBounds_toArray, List.set_cons_zero, List.set_cons_succ]
      refine wpAnyH_take (i := 11) (oi := { dst := some 60, op := Go.Op.binOp Go.BinOp.neq 3 (Go.Operand.tmp 56) (Go.Operand.tmp 59) 3, type := 4, pos := "law.go:70", after := #[{ on := 7, ground := Go.Ground.data }, { on := 10, ground := Go.Ground.data }, { on := 5, ground := Go.Ground.guard }], guard := some (5, false) }) (v := ?_) rfl (by kernel_rfl) (by kernel_rfl) (by kernel_rfl) (fun _ _ _ h => h) (Or.inl ⟨by rfl, ?_⟩) hSw ?_
      rotate_left
      · (intro W hW; (try dsimp only at hW); go_simp; try with_reducible rfl)
      try simp only [Act.put, List.setIfInBounds_toArray, List.set_cons_zero, List.set_cons_succ]
      refine wpAnyH_take (i := 12) (oi := { dst := some 61, op := Go.Op.pick (Go.Operand.tmp 54) (Go.Operand.const (Go.Value.bool true)) (Go.Operand.tmp 60), type := 4, pos := "law.go:70", after := #[{ on := 5, ground := Go.Ground.data }, { on := 11, ground := Go.Ground.data }], guard := none }) (v := ?_) rfl (by kernel_rfl) (by kernel_rfl) (by kernel_rfl) (fun _ _ _ h => h) (Or.inl ⟨by rfl, ?_⟩) hSw ?_
      rotate_left
      · (intro W hW; (try dsimp only at hW); go_simp; try with_reducible rfl)
      try simp only [Act.put, List.setIfInBounds_toArray, List.set_cons_zero, List.set_cons_succ]
      refine wpAnyH_take (i := 13) (oi := { dst := some 62, op := Go.Op.move (Go.Operand.tmp 61), type := 4, pos := "law.go:70", after := #[{ on := 12, ground := Go.Ground.data }, { on := 7, ground := Go.Ground.chain }], guard := none }) (v := ?_) rfl (by kernel_rfl) (by kernel_rfl) (by kernel_rfl) (fun _ _ _ h => h) (Or.inl ⟨by rfl, ?_⟩) hSw ?_
      rotate_left
      · (intro W hW; (try dsimp only at hW); go_simp; try with_reducible rfl)
      try simp only [Act.put, List.setIfInBounds_toArray, List.set_cons_zero, List.set_cons_succ]
      refine wpAnyH_take (i := 14) (oi := { dst := some 63, op := Go.Op.move (Go.Operand.tmp 5), type := 32, pos := "law.go:70", after := #[{ on := 13, ground := Go.Ground.guard }], guard := some (13, false) }) (v := ?_) rfl (by kernel_rfl) (by kernel_rfl) (by kernel_rfl) (fun _ _ _ h => h) (Or.inl ⟨by rfl, ?_⟩) hSw ?_
      rotate_left
      · (intro W hW; (try dsimp only at hW); go_simp; try with_reducible rfl)
      try simp only [Act.put, List.setIfInBounds_toArray, List.set_cons_zero, List.set_cons_succ]
      refine wpAnyH_take (i := 16) (oi := { dst := some 65, op := Go.Op.fieldAddr 48 (Go.Operand.tmp 10) 1, type := 0, pos := "law.go:70", after := #[{ on := 13, ground := Go.Ground.guard }], guard := some (13, false) }) (v := ?_) rfl (by kernel_rfl) (by kernel_rfl) (by kernel_rfl) (fun _ _ _ h => h) (Or.inl ⟨by rfl, ?_⟩) hSw ?_
      rotate_left
      · (intro W hW; (try dsimp only at hW); go_simp; try with_reducible rfl)
      try simp only [Act.put, List.setIfInBounds_toArray, List.set_cons_zero, List.set_cons_succ]
      refine wpAnyH_take (i := 17) (oi := { dst := some 66, op := Go.Op.load 35 (Go.Operand.tmp 65), type := 35, pos := "law.go:70", after := #[{ on := 16, ground := Go.Ground.data }, { on := 13, ground := Go.Ground.guard }], guard := some (13, false) }) (v := ?_) rfl (by kernel_rfl) (by kernel_rfl) (by kernel_rfl) (fun _ _ _ h => h) (Or.inl ⟨by rfl, ?_⟩) hSw ?_
      rotate_left
      · (intro W hW; (try dsimp only at hW); go_simp; try with_reducible rfl)
      try simp only [Act.put, List.setIfInBounds_toArray, List.set_cons_zero, List.set_cons_succ]
      refine wpAnyH_ready (rs := [15]) (by kernel_rfl) (by simp) ?_
      refine AllReadyH.cons (o := { dst := some 64, op := Go.Op.call { callee := Go.Callee.value (Go.Operand.func 21), args := #[Go.Operand.tmp 63], argTypes := #[32] }, type := 35, pos := "law.go:70", after := #[{ on := 14, ground := Go.Ground.data }, { on := 13, ground := Go.Ground.chain }, { on := 13, ground := Go.Ground.guard }], guard := some (13, false) }) rfl (fun K hK => ?_) AllReadyH.nil
      rw [if_pos (by rfl)]
      go_simp
      refine (err_calls _ g d _ HR11.out).mono ?_
      rintro e w' ⟨rfl, rfl⟩
      refine hK.out _ _ ⟨t0, t1, t2, t3, t4, t5⟩ (fun hSw => ?_)
      clear hK
      try simp only [Act.put, List.setIfInBounds_toArray, List.set_cons_zero, List.set_cons_succ]
      refine wpAnyH_take (i := 18) (oi := { dst := some 67, op := Go.Op.binOp Go.BinOp.neq 35 (Go.Operand.tmp 64) (Go.Operand.tmp 66) 35, type := 4, pos := "law.go:70", after := #[{ on := 15, ground := Go.Ground.data }, { on := 17, ground := Go.Ground.data }, { on := 13, ground := Go.Ground.guard }], guard := some (13, false) }) (v := ?_) rfl (by kernel_rfl) (by kernel_rfl) (by kernel_rfl) (fun _ _ _ h => h) (Or.inl ⟨by rfl, ?_⟩) hSw ?_
      rotate_left
      · (intro W hW; (try dsimp only at hW); go_simp; try with_reducible rfl)
      try simp only [Act.put, List.setIfInBounds_toArray, List.set_cons_zero, List.set_cons_succ]
      refine wpAnyH_take (i := 19) (oi := { dst := some 68, op := Go.Op.pick (Go.Operand.tmp 62) (Go.Operand.const (Go.Value.bool true)) (Go.Operand.tmp 67), type := 4, pos := "law.go:70", after := #[{ on := 13, ground := Go.Ground.data }, { on := 18, ground := Go.Ground.data }], guard := none }) (v := ?_) rfl (by kernel_rfl) (by kernel_rfl) (by kernel_rfl) (fun _ _ _ h => h) (Or.inl ⟨by rfl, ?_⟩) hSw ?_
      rotate_left
      · (intro W hW; (try dsimp only at hW); go_simp; try with_reducible rfl)
      try simp only [Act.put, List.setIfInBounds_toArray, List.set_cons_zero, List.set_cons_succ]
      refine wpAnyH_take (i := 20) (oi := { dst := some 69, op := Go.Op.move (Go.Operand.tmp 68), type := 4, pos := "law.go:70", after := #[{ on := 19, ground := Go.Ground.data }, { on := 15, ground := Go.Ground.chain }], guard := none }) (v := ?_) rfl (by kernel_rfl) (by kernel_rfl) (by kernel_rfl) (fun _ _ _ h => h) (Or.inl ⟨by rfl, ?_⟩) hSw ?_
      rotate_left
      · (intro W hW; (try dsimp only at hW); go_simp; try with_reducible rfl)
      try simp only [Act.put, List.setIfInBounds_toArray, List.set_cons_zero, List.set_cons_succ]
      refine wpAnyH_take (i := 21) (oi := { dst := some 70, op := Go.Op.move (Go.Operand.tmp 5), type := 32, pos := "law.go:70", after := #[{ on := 20, ground := Go.Ground.guard }], guard := some (20, false) }) (v := ?_) rfl (by kernel_rfl) (by kernel_rfl) (by kernel_rfl) (fun _ _ _ h => h) (Or.inl ⟨by rfl, ?_⟩) hSw ?_
      rotate_left
      · (intro W hW; (try dsimp only at hW); go_simp; try with_reducible rfl)
      try simp only [Act.put, List.setIfInBounds_toArray, List.set_cons_zero, List.set_cons_succ]
      refine wpAnyH_take (i := 23) (oi := { dst := some 72, op := Go.Op.load 48 (Go.Operand.tmp 10), type := 48, pos := "law.go:70", after := #[{ on := 20, ground := Go.Ground.guard }], guard := some (20, false) }) (v := ?_) rfl (by kernel_rfl) (by kernel_rfl) (by kernel_rfl) (fun _ _ _ h => h) (Or.inl ⟨by rfl, ?_⟩) hSw ?_
      rotate_left
      · (intro W hW; (try dsimp only at hW); go_simp; try with_reducible rfl)
      try simp only [Act.put, List.setIfInBounds_toArray, List.set_cons_zero, List.set_cons_succ]
      refine wpAnyH_ready (rs := [22]) (by kernel_rfl) (by simp) ?_
      refine AllReadyH.cons (o := { dst := some 71, op := Go.Op.call { callee := Go.Callee.value (Go.Operand.func 31), args := #[Go.Operand.tmp 70], argTypes := #[32] }, type := 35, pos := "law.go:70", after := #[{ on := 21, ground := Go.Ground.data }, { on := 20, ground := Go.Ground.chain }, { on := 20, ground := Go.Ground.guard }], guard := some (20, false) }) rfl (fun K hK => ?_) AllReadyH.nil
      rw [if_pos (by rfl)]
      go_simp
      refine (end_calls _ g d _ HR11.out).mono ?_
      rintro e w' ⟨rfl, rfl⟩
      refine hK.out _ _ ⟨t0, t1, t2, t3, t4, t5⟩ (fun hSw => ?_)
      clear hK
      try simp only [Act.put, List.setIfInBounds_toArray, List.set_cons_zero, List.set_cons_succ]
      refine wpAnyH_ready (rs := [24]) (by kernel_rfl) (by simp) ?_
      refine AllReadyH.cons (o := { dst := some 73, op := Go.Op.call { callee := Go.Callee.value (Go.Operand.func 32), args := #[Go.Operand.tmp 72], argTypes := #[48] }, type := 35, pos := "law.go:70", after := #[{ on := 23, ground := Go.Ground.data }, { on := 22, ground := Go.Ground.chain }, { on := 20, ground := Go.Ground.guard }], guard := some (20, false) }) rfl (fun K hK => ?_) AllReadyH.nil
      rw [if_pos (by rfl)]
      go_simp
      refine (rend_calls _ A1 n1 c1 rest' hp1.out.1 err').mono ?_
      rintro e w12 ⟨rfl, hc12⟩
      have HC12 := Lib.hid hc12
      have u0 := hc12.cell t0 (fun x => x)
      have u1 := hc12.cell t1 (fun x => x)
      have u2 := hc12.cell t2 (fun x => x)
      have u3 := hc12.cell t3 (fun x => x)
      have u4 := hc12.cell t4 (fun x => x)
      have u5 := hc12.cell t5 (fun x => x)
      clear hc12
      refine hK.out _ _ ⟨u0, u1, u2, u3, u4, u5⟩ (fun hSw => ?_)
      clear hK
      try simp only [Act.put, List.setIfInBounds_toArray, List.set_cons_zero, List.set_cons_succ]
      refine wpAnyH_take (i := 25) (oi := { dst := some 74, op := Go.Op.binOp Go.BinOp.neq 35 (Go.Operand.tmp 71) (Go.Operand.tmp 73) 35, type := 4, pos := "law.go:70", after := #[{ on := 22, ground := Go.Ground.data }, { on := 24, ground := Go.Ground.data }, { on := 20, ground := Go.Ground.guard }], guard := some (20, false) }) (v := ?_) rfl (by kernel_rfl) (by kernel_rfl) (by kernel_rfl) (fun _ _ _ h => h) (Or.inl ⟨by rfl, ?_⟩) hSw ?_
      rotate_left
      · (intro W hW; (try dsimp only at hW); go_simp; try with_reducible rfl)
      try simp only [Act.put, List.setIfInBounds_toArray, List.set_cons_zero, List.set_cons_succ]
      refine wpAnyH_take (i := 26) (oi := { dst := some 75, op := Go.Op.pick (Go.Operand.tmp 69) (Go.Operand.const (Go.Value.bool true)) (Go.Operand.tmp 74), type := 4, pos := "law.go:70", after := #[{ on := 20, ground := Go.Ground.data }, { on := 25, ground := Go.Ground.data }], guard := none }) (v := ?_) rfl (by kernel_rfl) (by kernel_rfl) (by kernel_rfl) (fun _ _ _ h => h) (Or.inl ⟨by rfl, ?_⟩) hSw ?_
      rotate_left
      · (intro W hW; (try dsimp only at hW); go_simp; try with_reducible rfl)
      try simp only [Act.put, List.setIfInBounds_toArray, List.set_cons_zero, List.set_cons_succ]
      refine wpAnyH_done (by kernel_rfl) ?_ _

      have HC13 : Hid (Chg (One g) wr w12) := ((HCr.out.mono (S' := One g) (fun _ _ x => x.elim)).one HC11.out (.inr (Eq.refl g))).no HC12.out
      have HM13 : Hid (w12.heap[gm]? = some (.cells #[.slice B nb cb, .int .i64 R.err] 48 (0, 0))) := HC13.out.heap HM0.out (by show ¬ (gm = g); omega)
      obtain ⟨y0, y1, y2, y3⟩ := cells2 HM13.out
      clear s0 s1 s2 s3 s4 s5 t0 t1 t2 t3 t4 t5 hSw
      go_wp2
      go_roundw
      case rel =>
        have hcm : Chg (One gm) w12 ((w12.setCell ⟨gm, 0, none⟩ (.slice A1 n1 c1)).setCell ⟨gm, 1, none⟩ (.int .i64 err')) := (Chg.put w12 gm 0 _).setCell (p := ⟨gm, 1, none⟩) (.inr (Eq.refl gm)) _
        have hn1 := hp1.out.1
        have hdl : rest'.length ≤ nb := HDL.out
        refine ⟨k + 1, ⟨rest', err'⟩, A1, n1, c1, by omega, by go_num, by omega, ?_, ?_, set2 HM13.out, HPT.out.trans hp1.out, ?_, ?_⟩
        · exact (HR11.out.no HC12.out).chg hcm (by show ¬ (g = gm); omega) (by show ¬ (d = gm); omega)
        · exact (HRs.out.chg HC13.out (by show ¬ (s = g); omega) (by show ¬ (ds = g); omega)).chg hcm (by show ¬ (s = gm); omega) (by show ¬ (ds = gm); omega)
        · exact (HBM.out.chg HC13.out (fun b hb hx => by have := HMB.out b hb; have : b = g := hx; omega)).chg hcm (fun b hb hx => by have := HMB.out b hb; have : b = gm := hx; omega)
        · exact (HC.out.one HC13.out (.inl (by omega))).one hcm (.inl (by omega))
      case measure => simp [intOf]; omega
    · obtain rfl : na = k := by omega
      go_wp2_with (first | (go_at_call 22; refine (left_calls _ _ ds _ HRs.out).mono ?_; rintro e w' ⟨rfl, rfl⟩; rw [show (Rd.mk bs 0).rest.length = n from HL.out]) | (go_at_call 21; refine (err_calls _ _ ds _ HRs.out).mono ?_; rintro e w' ⟨rfl, rfl⟩))
      go_ret
      exact ⟨rfl, HC.out⟩
end Go.Proofs.Ytikfplfhndhjbaa
