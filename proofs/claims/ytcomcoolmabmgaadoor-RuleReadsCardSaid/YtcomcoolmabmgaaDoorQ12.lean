/-
  The reference's Quote.
-/
import Derived.Test.YtcomcoolmabmgaaDoorQ11
namespace Go.Proofs.YtcomcoolmabmgaaDoor
open Go.RowKit
set_option linter.unusedVariables false
set_option linter.unusedSimpArgs false

theorem u8_quo (u : Nat) (h : u < 256) : IntKind.u8.wrap ((u : Int) / 16) = ((u / 16 : Nat) : Int) := by
  show ((u : Int) / 16) % 256 = _
  omega
theorem u8_rem (u : Nat) : (u : Int).tmod 16 = ((u % 16 : Nat) : Int) := (Int.ofNat_tmod u 16).symm

set_option maxRecDepth 100000 in
set_option maxHeartbeats 3200000 in
theorem rquote_calls (w : World) (s : ByteArray) (hs : s.size ≤ 35184372088000) :
    Calls Tryd.prog 53 #[.string s] w fun e w' => e = .returned (.string (mkS (quoteF s.data.toList))) ∧ Chg No w w' := by
  have HS := Lib.hid (size_list s)
  have own0 : Hid (OwnB (w.alloc (.cells #[.int .u8 34] 5)) w.heap.size (.slice (some ⟨w.heap.size, 0, none⟩) 1 1) [34]) := OwnB.lit w [34] (by decide)
  go_enter Tryd.func53, Tryd.ntmps53
  go_wp2
  go_loopw [3, 4] (fun v a wr => ∃ (pos : Nat) (A : Option Addr) (n c : Nat) (ys : List UInt8), pos ≤ s.size ∧ a = .int .i64 (pos : Int) ∧ v = .slice A n c ∧ n ≤ 1 + 4 * pos ∧ Hid (quoteF s.data.toList = ys ++ ((pcs (s.data.toList.drop pos)).flatMap quoteP ++ [34])) ∧ Hid (ys.length = n) ∧ Hid (OwnB wr w.heap.size (.slice A n c) ys) ∧ w.heap.size ≤ wr.heap.size ∧ Hid (Chg No w wr)) (fun _ a _ => s.size - (intOf a).toNat)
  case atStart => exact ⟨0, _, 1, 1, [34], Nat.zero_le _, rfl, rfl, by omega, by simp [Hid, quoteF], rfl, own0.out, ((Chg.refl No w).alloc (.cells #[.int .u8 34] 5)).size, (Chg.refl No w).alloc _⟩
  case round =>
    clear own0
    obtain ⟨pos, A, n, c, ys, hpos, rfl, rfl, hn4, HQ, HL, HO, hsz, HC⟩ := hrel
    by_cases hp : pos < s.size
    · have hl := drop_ne hp
      obtain ⟨f1, f2, f3⟩ := decL_facts _ hl
      have HPC := Lib.hid (pcs_cons _ hl)
      have HONE := Lib.hid (brk_one (s.data.toList.drop pos))
      have HSM := Lib.hid (small_piece (s.data.toList.drop pos) hl)
      have HPI : Hid (∀ w1, Calls Tryd.prog 64 #[.string s, .int .i64 (pos : Int)] w1 fun e w' => e = .returned (.tuple #[.int .i64 ((decL (s.data.toList.drop pos)).2 : Int), .bool (brk (s.data.toList.drop pos)), .int .i32 ((decL (s.data.toList.drop pos)).1 : Int)]) ∧ Chg No w1 w') := fun w1 => piece_calls w1 s (by omega) pos hp
      have HCT : Hid (∀ w1, Calls Tryd.prog 65 #[.int .i32 (((decL (s.data.toList.drop pos)).1 : Nat) : Int)] w1 fun e w' => e = .returned (.bool (ctl (decL (s.data.toList.drop pos)).1)) ∧ w1 = w') := fun w1 => rcontrol_calls w1 _
      rw [List.length_drop, HS.out] at f2
      rw [List.drop_drop] at HPC
      have HTL : Hid (((s.data.toList.drop pos).take (decL (s.data.toList.drop pos)).2).length = (decL (s.data.toList.drop pos)).2) := by
        rw [Hid, List.length_take, List.length_drop, HS.out]; omega
      generalize decL (s.data.toList.drop pos) = D at *
      obtain ⟨r, k⟩ := D
      simp only at f1 f2 f3 HPI HCT HPC HTL HONE HSM
      generalize brk (s.data.toList.drop pos) = bk at *
      generalize hbs : (s.data.toList.drop pos).take k = bs at *
      have HBS := Lib.hid hbs
      clear hl hbs
      have HCL : Hid (∀ (w' : World) (v' : Value) (news : List UInt8), quoteP (r, bk, bs) = news → OwnB w' w.heap.size v' (ys ++ news) → Chg No w w' → w.heap.size ≤ w'.heap.size →
          (∃ (pos' : Nat) (A : Option Addr) (n c : Nat) (ys : List UInt8), pos' ≤ s.size ∧ Value.int .i64 ((pos : Int) + (k : Int)) = .int .i64 (pos' : Int) ∧ v' = .slice A n c ∧ n ≤ 1 + 4 * pos' ∧ Hid (quoteF s.data.toList = ys ++ ((pcs (s.data.toList.drop pos')).flatMap quoteP ++ [34])) ∧ Hid (ys.length = n) ∧ Hid (OwnB w' w.heap.size (.slice A n c) ys) ∧ w.heap.size ≤ w'.heap.size ∧ Hid (Chg No w w')) ∧ s.size - (intOf (.int .i64 ((pos : Int) + (k : Int)))).toNat < s.size - (intOf (.int .i64 (pos : Int))).toNat) := by
        intro w' v' news hq ho hc hz
        obtain ⟨A', c', rfl, -, -⟩ := ho.bytes.form
        have hlen := quoteP_len (r, bk, bs) (by show 1 ≤ bs.length; rw [HTL.out]; exact f1)
        rw [hq] at hlen
        have hlen : news.length ≤ 4 * k := by rw [← HTL.out]; exact hlen
        refine ⟨⟨pos + k, A', _, c', ys ++ news, by omega, by go_num, rfl, ?_, ?_, rfl, ho, hz, hc⟩, ?_⟩
        · have := HL.out; rw [List.length_append]; omega
        · rw [Hid, HQ.out, HPC.out, List.flatMap_cons, hq]; simp
        · simp only [intOf]; omega
      have hpk : pos + k ≤ s.size := by omega
      have h0n : n ≤ 1 + 4 * pos := hn4
      by_cases h10 : r = 10
      · have hb10 : ((r : Int) == 10) = true := by rw [h10]; rfl
        have HNW : Hid (quoteP (r, bk, bs) = [92, 110]) := by simp [Hid, quoteP, h10]
        clear h10
        go_wp2_with ((go_at_call 64; refine Hid.out ?_))
        refine Lib.hid ?_
        refine (HPI.out _).mono ?_
        rintro e wp ⟨rfl, hc⟩
        have HO : Hid (OwnB wp w.heap.size (.slice A n c) ys) := HO.out.chg hc (fun _ _ x => x)
        have HC : Hid (Chg No w wp) := HC.out.no hc
        have hsz : w.heap.size ≤ wp.heap.size := Nat.le_trans hsz hc.size
        clear hc
        go_wp2_with (at_builtin; (refine wpList_app _ rfl (.tmp 24) (.tmp 25) 57 57 rfl w.heap.size 5 (.int .u8 0) 1 1 infoU8 Tryd.underlying57 rfl (by decide) (.slice A n c) (.slice (some ⟨wp.heap.size, 0, none⟩) 2 2) n 2 (u8s ys) (u8s [92, 110]) rfl rfl ?own ?src ?b1 ?b2 ?b3 ?_; (case own => exact OwnB.n (HO.out.alloc _) HL.out); (case src => exact Src.two Tryd.underlying57 _ _ _ (Chg.refl No _) rfl (u8s_one _)); (case b1 => omega); (case b2 => unfold maxLen; omega); (case b3 => simp; omega); intro v' w' hown hg; refine Hid.out ?_))
        refine Lib.hid ?_
        have hown' : OwnB w' w.heap.size v' (ys ++ [92, 110]) := .of hown (by rw [u8s_append]; try rfl)
        have hcn : Chg No w w' := (HC.out.alloc _).grown hg (fun k hk => .inl (HO.out.block k hk).1)
        have HX := Lib.hid (HCL.out w' v' _ HNW.out hown' hcn hcn.size)
        clear hown hg hown' hcn
        go_wp2
        go_roundw
        case rel => exact HX.out.1
        case measure => exact HX.out.2
      have hb10 : ((r : Int) == 10) = false := by simp; omega
      by_cases hh : bk = true ∨ ctl r = true
      · have hr34 : ¬ (r = 34 ∨ r = 92) := by
          intro h
          rcases hh with hh | hh
          · have := HONE.out hh; simp only [Prod.mk.injEq] at this; omega
          · rcases h with rfl | rfl <;> simp [ctl] at hh
        have HQ1 : Hid (quoteP (r, bk, bs) = hexs bs) := by simp [Hid, quoteP, hr34, h10, hh]
        have HHH := Lib.hid hh
        clear hh hr34 h10
        go_wp2_with ((go_at_call 64; refine Hid.out ?_))
        refine Lib.hid ?_
        refine (HPI.out _).mono ?_
        rintro e wp ⟨rfl, hc⟩
        have HO : Hid (OwnB wp w.heap.size (.slice A n c) ys) := HO.out.chg hc (fun _ _ x => x)
        have HC : Hid (Chg No w wp) := HC.out.no hc
        have hsz : w.heap.size ≤ wp.heap.size := Nat.le_trans hsz hc.size
        clear hc
        obtain ⟨n0, hn0⟩ : ∃ m, n = m := ⟨n, rfl⟩
        obtain ⟨ys0, hy0⟩ : ∃ m, ys = m := ⟨ys, rfl⟩
        have hle : n ≤ n0 := by omega
        have h0n : n0 ≤ 1 + 4 * pos := by omega
        rw [hy0] at HCL
        have HYY : Hid (ys = ys0) := hy0
        clear hn0 hy0 hn4 HQ
        cases bk with
        | true =>
          go_wp2_with (go_at_call 65; refine (HCT.out _).mono ?_; rintro e w' ⟨rfl, rfl⟩)
          go_loopw [3, 8] (fun v i wr => ∃ (q : Nat) (A : Option Addr) (n c : Nat) (ys : List UInt8), pos ≤ q ∧ q ≤ pos + k ∧ i = .int .i64 (q : Int) ∧ v = .slice A n c ∧ n ≤ n0 + 4 * (q - pos) ∧ Hid (ys = ys0 ++ hexs (bs.take (q - pos))) ∧ Hid (ys.length = n) ∧ Hid (OwnB wr w.heap.size (.slice A n c) ys) ∧ w.heap.size ≤ wr.heap.size ∧ Hid (Chg No w wr)) (fun _ i _ => pos + k - (intOf i).toNat)
          case atStart => exact ⟨pos, _, _, _, _, Nat.le_refl _, by omega, rfl, rfl, by omega, by rw [Hid, HYY.out]; simp [hexs], HL.out, HO.out, hsz, HC.out⟩
          case round =>
            clear HO HL HC hsz
            obtain ⟨q, A, n, c, ys, hpq, hqk, rfl, rfl, hnj, HY, HL, HO, hsz, HC⟩ := hrel
            by_cases hjk : q < pos + k
            · have hlt : q < s.size := by omega
              have i0 : (0 : Int) ≤ (q : Int) := by omega
              have i1 : (q : Int) < (s.size : Int) := by omega
              have i2 : (q : Int) < (pos : Int) + (k : Int) := by omega
              have hn4 : n + 4 ≤ 140737488355328 := by omega
              have hu : (s[q]'hlt).toNat < 256 := (s[q]'hlt).toNat_lt
              have HT : Hid (bs.take (q + 1 - pos) = bs.take (q - pos) ++ [(s[q]'hlt)]) := by
                rw [Hid, show q + 1 - pos = (q - pos) + 1 by omega, List.take_succ_eq_append_getElem (by rw [HTL.out]; omega)]
                congr 2
                rw [List.getElem_of_eq HBS.out.symm (i := q - pos) (by rw [HTL.out]; omega), List.getElem_take, List.getElem_drop]
                have e : pos + (q - pos) = q := by omega
                simp only [e]
                rfl
              have HH1 : Hid (∀ w1, Calls Tryd.prog 69 #[.int .u8 (IntKind.u8.wrap (((s[q]'hlt).toNat : Int) / 16))] w1 fun e w' => e = .returned (.int .u8 ((hx ((s[q]'hlt).toNat / 16)).toNat : Int)) ∧ w1 = w') := fun w1 => by rw [u8_quo _ hu]; exact rhex_calls w1 ((s[q]'hlt).toNat / 16) (by omega)
              have HH2 : Hid (∀ w1, Calls Tryd.prog 69 #[.int .u8 (((s[q]'hlt).toNat : Int).tmod 16)] w1 fun e w' => e = .returned (.int .u8 ((hx ((s[q]'hlt).toNat % 16)).toNat : Int)) ∧ w1 = w') := fun w1 => by rw [u8_rem]; exact rhex_calls w1 ((s[q]'hlt).toNat % 16) (by omega)
              go_wp2
              refine wp_region_held_drew (S := fun _ => True) (by kernel_rfl) trivial (fun hSw => ?_)
              refine wpAnyH_take (i := 0) (oi := { dst := some 40, op := Go.Op.move (Go.Operand.tmp 3), type := 57, pos := "ref.go:56", after := #[], guard := none }) (v := ?_) rfl (by kernel_rfl) (by kernel_rfl) (by kernel_rfl) (fun _ _ _ h => h) (Or.inl ⟨by rfl, ?_⟩) hSw ?_
              rotate_left
              · (intro W hW; (try dsimp only at hW); go_simp; try with_reducible rfl)
              try simp only [Act.put, List.setIfInBounds_toArray, List.set_cons_zero, List.set_cons_succ]
              refine wpAnyH_take (i := 1) (oi := { dst := some 41, op := Go.Op.move (Go.Operand.tmp 0), type := 9, pos := "ref.go:56", after := #[], guard := none }) (v := ?_) rfl (by kernel_rfl) (by kernel_rfl) (by kernel_rfl) (fun _ _ _ h => h) (Or.inl ⟨by rfl, ?_⟩) hSw ?_
              rotate_left
              · (intro W hW; (try dsimp only at hW); go_simp; try with_reducible rfl)
              try simp only [Act.put, List.setIfInBounds_toArray, List.set_cons_zero, List.set_cons_succ]
              refine wpAnyH_take (i := 2) (oi := { dst := some 42, op := Go.Op.move (Go.Operand.tmp 8), type := 3, pos := "ref.go:56", after := #[], guard := none }) (v := ?_) rfl (by kernel_rfl) (by kernel_rfl) (by kernel_rfl) (fun _ _ _ h => h) (Or.inl ⟨by rfl, ?_⟩) hSw ?_
              rotate_left
              · (intro W hW; (try dsimp only at hW); go_simp; try with_reducible rfl)
              try simp only [Act.put, List.setIfInBounds_toArray, List.set_cons_zero, List.set_cons_succ]
              refine wpAnyH_take (i := 6) (oi := { dst := some 46, op := Go.Op.move (Go.Operand.tmp 0), type := 9, pos := "ref.go:56", after := #[], guard := none }) (v := ?_) rfl (by kernel_rfl) (by kernel_rfl) (by kernel_rfl) (fun _ _ _ h => h) (Or.inl ⟨by rfl, ?_⟩) hSw ?_
              rotate_left
              · (intro W hW; (try dsimp only at hW); go_simp; try with_reducible rfl)
              try simp only [Act.put, List.setIfInBounds_toArray, List.set_cons_zero, List.set_cons_succ]
              refine wpAnyH_take (i := 7) (oi := { dst := some 47, op := Go.Op.move (Go.Operand.tmp 8), type := 3, pos := "ref.go:56", after := #[], guard := none }) (v := ?_) rfl (by kernel_rfl) (by kernel_rfl) (by kernel_rfl) (fun _ _ _ h => h) (Or.inl ⟨by rfl, ?_⟩) hSw ?_
              rotate_left
              · (intro W hW; (try dsimp only at hW); go_simp; try with_reducible rfl)
              try simp only [Act.put, List.setIfInBounds_toArray, List.set_cons_zero, List.set_cons_succ]
              refine wpAnyH_take (i := 3) (oi := { dst := some 43, op := Go.Op.index 9 (Go.Operand.tmp 41) (Go.Operand.tmp 42), type := 5, pos := "ref.go:56", after := #[{ on := 1, ground := Go.Ground.data }, { on := 2, ground := Go.Ground.data }], guard := none }) (v := ?_) rfl (by kernel_rfl) (by kernel_rfl) (by kernel_rfl) (fun _ _ _ h => h) (Or.inl ⟨by rfl, ?_⟩) hSw ?_
              rotate_left
              · (intro W hW; (try dsimp only at hW); go_simp; try with_reducible rfl)
              try simp only [Act.put, List.setIfInBounds_toArray, List.set_cons_zero, List.set_cons_succ]
              refine wpAnyH_take (i := 8) (oi := { dst := some 48, op := Go.Op.index 9 (Go.Operand.tmp 46) (Go.Operand.tmp 47), type := 5, pos := "ref.go:56", after := #[{ on := 6, ground := Go.Ground.data }, { on := 7, ground := Go.Ground.data }], guard := none }) (v := ?_) rfl (by kernel_rfl) (by kernel_rfl) (by kernel_rfl) (fun _ _ _ h => h) (Or.inl ⟨by rfl, ?_⟩) hSw ?_
              rotate_left
              · (intro W hW; (try dsimp only at hW); go_simp; try with_reducible rfl)
              try simp only [Act.put, List.setIfInBounds_toArray, List.set_cons_zero, List.set_cons_succ]
              refine wpAnyH_take (i := 4) (oi := { dst := some 44, op := Go.Op.binOp Go.BinOp.quo 5 (Go.Operand.tmp 43) (Go.Operand.const (Go.Value.int Go.IntKind.u8 16)) 5, type := 5, pos := "ref.go:56", after := #[{ on := 3, ground := Go.Ground.data }], guard := none }) (v := ?_) rfl (by kernel_rfl) (by kernel_rfl) (by kernel_rfl) (fun _ _ _ h => h) (Or.inl ⟨by rfl, ?_⟩) hSw ?_
              rotate_left
              · (intro W hW; (try dsimp only at hW); go_simp; try with_reducible rfl)
              try simp only [Act.put, List.setIfInBounds_toArray, List.set_cons_zero, List.set_cons_succ]
              refine wpAnyH_take (i := 9) (oi := { dst := some 49, op := Go.Op.binOp Go.BinOp.rem 5 (Go.Operand.tmp 48) (Go.Operand.const (Go.Value.int Go.IntKind.u8 16)) 5, type := 5, pos := "ref.go:56", after := #[{ on := 8, ground := Go.Ground.data }], guard := none }) (v := ?_) rfl (by kernel_rfl) (by kernel_rfl) (by kernel_rfl) (fun _ _ _ h => h) (Or.inl ⟨by rfl, ?_⟩) hSw ?_
              rotate_left
              · (intro W hW; (try dsimp only at hW); go_simp; try with_reducible rfl)
              try simp only [Act.put, List.setIfInBounds_toArray, List.set_cons_zero, List.set_cons_succ]
              refine wpAnyH_ready (rs := [5]) (by kernel_rfl) (by simp) ?_
              refine AllReadyH.cons (o := { dst := some 45, op := Go.Op.call { callee := Go.Callee.value (Go.Operand.func 69), args := #[Go.Operand.tmp 44], argTypes := #[5] }, type := 5, pos := "ref.go:56", after := #[{ on := 4, ground := Go.Ground.data }], guard := none }) rfl (fun K hK => ?_) AllReadyH.nil
              rw [if_pos (by rfl)]
              go_simp
              refine (HH1.out _).mono ?_
              rintro e w'' ⟨rfl, rfl⟩
              refine hK.out _ _ trivial (fun hSw => ?_)
              clear hK
              try simp only [Act.put, List.setIfInBounds_toArray, List.set_cons_zero, List.set_cons_succ]
              refine wpAnyH_ready (rs := [10]) (by kernel_rfl) (by simp) ?_
              refine AllReadyH.cons (o := { dst := some 50, op := Go.Op.call { callee := Go.Callee.value (Go.Operand.func 69), args := #[Go.Operand.tmp 49], argTypes := #[5] }, type := 5, pos := "ref.go:56", after := #[{ on := 9, ground := Go.Ground.data }, { on := 5, ground := Go.Ground.chain }], guard := none }) rfl (fun K hK => ?_) AllReadyH.nil
              rw [if_pos (by rfl)]
              go_simp
              refine (HH2.out _).mono ?_
              rintro e w'' ⟨rfl, rfl⟩
              refine hK.out _ _ trivial (fun hSw => ?_)
              clear hK
              try simp only [Act.put, List.setIfInBounds_toArray, List.set_cons_zero, List.set_cons_succ]
              refine wpAnyH_ready (rs := [11]) (by kernel_rfl) (by simp) ?_
              refine AllReadyH.cons (o := { dst := some 51, op := Go.Op.buildSlice 57 4 #[(0, Go.Operand.const (Go.Value.int Go.IntKind.u8 92)), (1, Go.Operand.const (Go.Value.int Go.IntKind.u8 120)), (2, Go.Operand.tmp 45), (3, Go.Operand.tmp 50)], type := 57, pos := "ref.go:56", after := #[{ on := 5, ground := Go.Ground.data }, { on := 10, ground := Go.Ground.data }], guard := none }) rfl (fun K hK => ?_) AllReadyH.nil
              rw [if_pos (by rfl)]
              go_simp
              refine hK.out _ _ trivial (fun hSw => ?_)
              clear hK
              try simp only [Act.put, List.setIfInBounds_toArray, List.set_cons_zero, List.set_cons_succ]
              refine wpAnyH_ready (rs := [12]) (by kernel_rfl) (by simp) ?_
              refine AllReadyH.cons (o := { dst := some 52, op := Go.Op.call { callee := Go.Callee.builtin Go.Builtin.append, args := #[Go.Operand.tmp 40, Go.Operand.tmp 51], argTypes := #[57, 57] }, type := 57, pos := "ref.go:56", after := #[{ on := 0, ground := Go.Ground.data }, { on := 11, ground := Go.Ground.data }, { on := 10, ground := Go.Ground.chain }], guard := none }) rfl (fun K hK => ?_) AllReadyH.nil
              rw [if_pos (by rfl)]
              refine wp_app (.tmp 40) (.tmp 51) 57 57 rfl w.heap.size 5 (.int .u8 0) 1 1 infoU8 Tryd.underlying57 rfl (by decide) (.slice A n c) (.slice (some ⟨wr.heap.size, 0, none⟩) 4 4) n 4 (u8s ys) (u8s [92, 120, hx ((s[q]'hlt).toNat / 16), hx ((s[q]'hlt).toNat % 16)]) rfl rfl ?_ ?_ ?_ ?_ ?_ ?_
              · (have h0 := HO.out.chg (((Chg.refl No wr).drew).alloc (.cells #[.int .u8 92, .int .u8 120, .int .u8 ((hx ((s[q]'hlt).toNat / 16)).toNat : Int), .int .u8 ((hx ((s[q]'hlt).toNat % 16)).toNat : Int)] 5)) (fun _ _ h => h); unfold OwnB at h0; rw [HL.out] at h0; exact h0)
              · exact Src.four (w := wr.drew) Tryd.underlying57 _ _ _ _ _ (Chg.refl No _) rfl (u8s_one _)
              · omega
              · unfold maxLen; omega
              · simp; omega
              intro v' w' hown hg
              refine hK.out _ _ trivial (fun hSw => ?_)
              clear hK
              try simp only [Act.put, List.setIfInBounds_toArray, List.set_cons_zero, List.set_cons_succ]
              refine wpAnyH_ready (rs := [13]) (by kernel_rfl) (by simp) ?_
              refine AllReadyH.cons (o := { dst := some 3, op := Go.Op.assign (Go.Operand.tmp 52), type := 57, pos := "ref.go:56", after := #[{ on := 12, ground := Go.Ground.data }, { on := 12, ground := Go.Ground.chain }, { on := 0, ground := Go.Ground.phase }, { on := 1, ground := Go.Ground.phase }, { on := 2, ground := Go.Ground.phase }, { on := 3, ground := Go.Ground.phase }, { on := 4, ground := Go.Ground.phase }, { on := 5, ground := Go.Ground.phase }, { on := 6, ground := Go.Ground.phase }, { on := 7, ground := Go.Ground.phase }, { on := 8, ground := Go.Ground.phase }, { on := 9, ground := Go.Ground.phase }, { on := 10, ground := Go.Ground.phase }, { on := 11, ground := Go.Ground.phase }, { on := 12, ground := Go.Ground.phase }], guard := none }) rfl (fun K hK => ?_) AllReadyH.nil
              rw [if_pos (by rfl)]
              go_simp
              refine hK.out _ _ trivial (fun hSw => ?_)
              clear hK
              try simp only [Act.put, List.setIfInBounds_toArray, List.set_cons_zero, List.set_cons_succ]
              refine wpAnyH_done (by kernel_rfl) ?_ _
              have hown' : OwnB w' w.heap.size v' (ys ++ [92, 120, hx ((s[q]'hlt).toNat / 16), hx ((s[q]'hlt).toNat % 16)]) := .of hown (by rw [u8s_append]; try rfl)
              obtain ⟨A', n', c', rfl, HL', HO'⟩ := hown'.form
              have HCN : Hid (Chg No w w') := ((HC.out.drew).alloc _).grown hg (fun k hk => .inl (HO.out.block k hk).1)
              have hbz : w.heap.size ≤ w'.heap.size := HCN.out.size
              clear hown' 
              clear hown hg
              go_wp2
              go_roundw
              case rel =>
                refine ⟨q + 1, A', n', c', _, by omega, hjk, by go_num, rfl, ?_, ?_, HL', HO', hbz, HCN.out⟩
                · have h1 := HL'.out; have h2 := HL.out; simp only [List.length_append, List.length_cons, List.length_nil] at h1; omega
                · rw [Hid, HY.out, HT.out]; simp [hexs]
              case measure => simp only [intOf]; omega
            · have i2 : ¬ ((q : Int) < (pos : Int) + (k : Int)) := by omega
              have HX := Lib.hid (HCL.out wr (.slice A n c) (hexs bs) (HQ1.out) (by have := HO.out; rw [HY.out, List.take_of_length_le (by rw [HTL.out]; omega)] at this; simpa using this) HC.out hsz)
              clear HO HL HC
              go_wp2
              go_roundw
              case rel => exact HX.out.1
              case measure => exact HX.out.2

        | false =>
          have hct : ctl r = true := by have := HHH.out; simpa using this
          rw [hct] at HCT
          clear hct
          go_wp2_with (go_at_call 65; refine (HCT.out _).mono ?_; rintro e w' ⟨rfl, rfl⟩)
          go_loopw [3, 8] (fun v i wr => ∃ (q : Nat) (A : Option Addr) (n c : Nat) (ys : List UInt8), pos ≤ q ∧ q ≤ pos + k ∧ i = .int .i64 (q : Int) ∧ v = .slice A n c ∧ n ≤ n0 + 4 * (q - pos) ∧ Hid (ys = ys0 ++ hexs (bs.take (q - pos))) ∧ Hid (ys.length = n) ∧ Hid (OwnB wr w.heap.size (.slice A n c) ys) ∧ w.heap.size ≤ wr.heap.size ∧ Hid (Chg No w wr)) (fun _ i _ => pos + k - (intOf i).toNat)
          case atStart => exact ⟨pos, _, _, _, _, Nat.le_refl _, by omega, rfl, rfl, by omega, by rw [Hid, HYY.out]; simp [hexs], HL.out, HO.out, hsz, HC.out⟩
          case round =>
            clear HO HL HC hsz
            obtain ⟨q, A, n, c, ys, hpq, hqk, rfl, rfl, hnj, HY, HL, HO, hsz, HC⟩ := hrel
            by_cases hjk : q < pos + k
            · have hlt : q < s.size := by omega
              have i0 : (0 : Int) ≤ (q : Int) := by omega
              have i1 : (q : Int) < (s.size : Int) := by omega
              have i2 : (q : Int) < (pos : Int) + (k : Int) := by omega
              have hn4 : n + 4 ≤ 140737488355328 := by omega
              have hu : (s[q]'hlt).toNat < 256 := (s[q]'hlt).toNat_lt
              have HT : Hid (bs.take (q + 1 - pos) = bs.take (q - pos) ++ [(s[q]'hlt)]) := by
                rw [Hid, show q + 1 - pos = (q - pos) + 1 by omega, List.take_succ_eq_append_getElem (by rw [HTL.out]; omega)]
                congr 2
                rw [List.getElem_of_eq HBS.out.symm (i := q - pos) (by rw [HTL.out]; omega), List.getElem_take, List.getElem_drop]
                have e : pos + (q - pos) = q := by omega
                simp only [e]
                rfl
              have HH1 : Hid (∀ w1, Calls Tryd.prog 69 #[.int .u8 (IntKind.u8.wrap (((s[q]'hlt).toNat : Int) / 16))] w1 fun e w' => e = .returned (.int .u8 ((hx ((s[q]'hlt).toNat / 16)).toNat : Int)) ∧ w1 = w') := fun w1 => by rw [u8_quo _ hu]; exact rhex_calls w1 ((s[q]'hlt).toNat / 16) (by omega)
              have HH2 : Hid (∀ w1, Calls Tryd.prog 69 #[.int .u8 (((s[q]'hlt).toNat : Int).tmod 16)] w1 fun e w' => e = .returned (.int .u8 ((hx ((s[q]'hlt).toNat % 16)).toNat : Int)) ∧ w1 = w') := fun w1 => by rw [u8_rem]; exact rhex_calls w1 ((s[q]'hlt).toNat % 16) (by omega)
              go_wp2
              refine wp_region_held_drew (S := fun _ => True) (by kernel_rfl) trivial (fun hSw => ?_)
              refine wpAnyH_take (i := 0) (oi := { dst := some 40, op := Go.Op.move (Go.Operand.tmp 3), type := 57, pos := "ref.go:56", after := #[], guard := none }) (v := ?_) rfl (by kernel_rfl) (by kernel_rfl) (by kernel_rfl) (fun _ _ _ h => h) (Or.inl ⟨by rfl, ?_⟩) hSw ?_
              rotate_left
              · (intro W hW; (try dsimp only at hW); go_simp; try with_reducible rfl)
              try simp only [Act.put, List.setIfInBounds_toArray, List.set_cons_zero, List.set_cons_succ]
              refine wpAnyH_take (i := 1) (oi := { dst := some 41, op := Go.Op.move (Go.Operand.tmp 0), type := 9, pos := "ref.go:56", after := #[], guard := none }) (v := ?_) rfl (by kernel_rfl) (by kernel_rfl) (by kernel_rfl) (fun _ _ _ h => h) (Or.inl ⟨by rfl, ?_⟩) hSw ?_
              rotate_left
              · (intro W hW; (try dsimp only at hW); go_simp; try with_reducible rfl)
              try simp only [Act.put, List.setIfInBounds_toArray, List.set_cons_zero, List.set_cons_succ]
              refine wpAnyH_take (i := 2) (oi := { dst := some 42, op := Go.Op.move (Go.Operand.tmp 8), type := 3, pos := "ref.go:56", after := #[], guard := none }) (v := ?_) rfl (by kernel_rfl) (by kernel_rfl) (by kernel_rfl) (fun _ _ _ h => h) (Or.inl ⟨by rfl, ?_⟩) hSw ?_
              rotate_left
              · (intro W hW; (try dsimp only at hW); go_simp; try with_reducible rfl)
              try simp only [Act.put, List.setIfInBounds_toArray, List.set_cons_zero, List.set_cons_succ]
              refine wpAnyH_take (i := 6) (oi := { dst := some 46, op := Go.Op.move (Go.Operand.tmp 0), type := 9, pos := "ref.go:56", after := #[], guard := none }) (v := ?_) rfl (by kernel_rfl) (by kernel_rfl) (by kernel_rfl) (fun _ _ _ h => h) (Or.inl ⟨by rfl, ?_⟩) hSw ?_
              rotate_left
              · (intro W hW; (try dsimp only at hW); go_simp; try with_reducible rfl)
              try simp only [Act.put, List.setIfInBounds_toArray, List.set_cons_zero, List.set_cons_succ]
              refine wpAnyH_take (i := 7) (oi := { dst := some 47, op := Go.Op.move (Go.Operand.tmp 8), type := 3, pos := "ref.go:56", after := #[], guard := none }) (v := ?_) rfl (by kernel_rfl) (by kernel_rfl) (by kernel_rfl) (fun _ _ _ h => h) (Or.inl ⟨by rfl, ?_⟩) hSw ?_
              rotate_left
              · (intro W hW; (try dsimp only at hW); go_simp; try with_reducible rfl)
              try simp only [Act.put, List.setIfInBounds_toArray, List.set_cons_zero, List.set_cons_succ]
              refine wpAnyH_take (i := 3) (oi := { dst := some 43, op := Go.Op.index 9 (Go.Operand.tmp 41) (Go.Operand.tmp 42), type := 5, pos := "ref.go:56", after := #[{ on := 1, ground := Go.Ground.data }, { on := 2, ground := Go.Ground.data }], guard := none }) (v := ?_) rfl (by kernel_rfl) (by kernel_rfl) (by kernel_rfl) (fun _ _ _ h => h) (Or.inl ⟨by rfl, ?_⟩) hSw ?_
              rotate_left
              · (intro W hW; (try dsimp only at hW); go_simp; try with_reducible rfl)
              try simp only [Act.put, List.setIfInBounds_toArray, List.set_cons_zero, List.set_cons_succ]
              refine wpAnyH_take (i := 8) (oi := { dst := some 48, op := Go.Op.index 9 (Go.Operand.tmp 46) (Go.Operand.tmp 47), type := 5, pos := "ref.go:56", after := #[{ on := 6, ground := Go.Ground.data }, { on := 7, ground := Go.Ground.data }], guard := none }) (v := ?_) rfl (by kernel_rfl) (by kernel_rfl) (by kernel_rfl) (fun _ _ _ h => h) (Or.inl ⟨by rfl, ?_⟩) hSw ?_
              rotate_left
              · (intro W hW; (try dsimp only at hW); go_simp; try with_reducible rfl)
              try simp only [Act.put, List.setIfInBounds_toArray, List.set_cons_zero, List.set_cons_succ]
              refine wpAnyH_take (i := 4) (oi := { dst := some 44, op := Go.Op.binOp Go.BinOp.quo 5 (Go.Operand.tmp 43) (Go.Operand.const (Go.Value.int Go.IntKind.u8 16)) 5, type := 5, pos := "ref.go:56", after := #[{ on := 3, ground := Go.Ground.data }], guard := none }) (v := ?_) rfl (by kernel_rfl) (by kernel_rfl) (by kernel_rfl) (fun _ _ _ h => h) (Or.inl ⟨by rfl, ?_⟩) hSw ?_
              rotate_left
              · (intro W hW; (try dsimp only at hW); go_simp; try with_reducible rfl)
              try simp only [Act.put, List.setIfInBounds_toArray, List.set_cons_zero, List.set_cons_succ]
              refine wpAnyH_take (i := 9) (oi := { dst := some 49, op := Go.Op.binOp Go.BinOp.rem 5 (Go.Operand.tmp 48) (Go.Operand.const (Go.Value.int Go.IntKind.u8 16)) 5, type := 5, pos := "ref.go:56", after := #[{ on := 8, ground := Go.Ground.data }], guard := none }) (v := ?_) rfl (by kernel_rfl) (by kernel_rfl) (by kernel_rfl) (fun _ _ _ h => h) (Or.inl ⟨by rfl, ?_⟩) hSw ?_
              rotate_left
              · (intro W hW; (try dsimp only at hW); go_simp; try with_reducible rfl)
              try simp only [Act.put, List.setIfInBounds_toArray, List.set_cons_zero, List.set_cons_succ]
              refine wpAnyH_ready (rs := [5]) (by kernel_rfl) (by simp) ?_
              refine AllReadyH.cons (o := { dst := some 45, op := Go.Op.call { callee := Go.Callee.value (Go.Operand.func 69), args := #[Go.Operand.tmp 44], argTypes := #[5] }, type := 5, pos := "ref.go:56", after := #[{ on := 4, ground := Go.Ground.data }], guard := none }) rfl (fun K hK => ?_) AllReadyH.nil
              rw [if_pos (by rfl)]
              go_simp
              refine (HH1.out _).mono ?_
              rintro e w'' ⟨rfl, rfl⟩
              refine hK.out _ _ trivial (fun hSw => ?_)
              clear hK
              try simp only [Act.put, List.setIfInBounds_toArray, List.set_cons_zero, List.set_cons_succ]
              refine wpAnyH_ready (rs := [10]) (by kernel_rfl) (by simp) ?_
              refine AllReadyH.cons (o := { dst := some 50, op := Go.Op.call { callee := Go.Callee.value (Go.Operand.func 69), args := #[Go.Operand.tmp 49], argTypes := #[5] }, type := 5, pos := "ref.go:56", after := #[{ on := 9, ground := Go.Ground.data }, { on := 5, ground := Go.Ground.chain }], guard := none }) rfl (fun K hK => ?_) AllReadyH.nil
              rw [if_pos (by rfl)]
              go_simp
              refine (HH2.out _).mono ?_
              rintro e w'' ⟨rfl, rfl⟩
              refine hK.out _ _ trivial (fun hSw => ?_)
              clear hK
              try simp only [Act.put, List.setIfInBounds_toArray, List.set_cons_zero, List.set_cons_succ]
              refine wpAnyH_ready (rs := [11]) (by kernel_rfl) (by simp) ?_
              refine AllReadyH.cons (o := { dst := some 51, op := Go.Op.buildSlice 57 4 #[(0, Go.Operand.const (Go.Value.int Go.IntKind.u8 92)), (1, Go.Operand.const (Go.Value.int Go.IntKind.u8 120)), (2, Go.Operand.tmp 45), (3, Go.Operand.tmp 50)], type := 57, pos := "ref.go:56", after := #[{ on := 5, ground := Go.Ground.data }, { on := 10, ground := Go.Ground.data }], guard := none }) rfl (fun K hK => ?_) AllReadyH.nil
              rw [if_pos (by rfl)]
              go_simp
              refine hK.out _ _ trivial (fun hSw => ?_)
              clear hK
              try simp only [Act.put, List.setIfInBounds_toArray, List.set_cons_zero, List.set_cons_succ]
              refine wpAnyH_ready (rs := [12]) (by kernel_rfl) (by simp) ?_
              refine AllReadyH.cons (o := { dst := some 52, op := Go.Op.call { callee := Go.Callee.builtin Go.Builtin.append, args := #[Go.Operand.tmp 40, Go.Operand.tmp 51], argTypes := #[57, 57] }, type := 57, pos := "ref.go:56", after := #[{ on := 0, ground := Go.Ground.data }, { on := 11, ground := Go.Ground.data }, { on := 10, ground := Go.Ground.chain }], guard := none }) rfl (fun K hK => ?_) AllReadyH.nil
              rw [if_pos (by rfl)]
              refine wp_app (.tmp 40) (.tmp 51) 57 57 rfl w.heap.size 5 (.int .u8 0) 1 1 infoU8 Tryd.underlying57 rfl (by decide) (.slice A n c) (.slice (some ⟨wr.heap.size, 0, none⟩) 4 4) n 4 (u8s ys) (u8s [92, 120, hx ((s[q]'hlt).toNat / 16), hx ((s[q]'hlt).toNat % 16)]) rfl rfl ?_ ?_ ?_ ?_ ?_ ?_
              · (have h0 := HO.out.chg (((Chg.refl No wr).drew).alloc (.cells #[.int .u8 92, .int .u8 120, .int .u8 ((hx ((s[q]'hlt).toNat / 16)).toNat : Int), .int .u8 ((hx ((s[q]'hlt).toNat % 16)).toNat : Int)] 5)) (fun _ _ h => h); unfold OwnB at h0; rw [HL.out] at h0; exact h0)
              · exact Src.four (w := wr.drew) Tryd.underlying57 _ _ _ _ _ (Chg.refl No _) rfl (u8s_one _)
              · omega
              · unfold maxLen; omega
              · simp; omega
              intro v' w' hown hg
              refine hK.out _ _ trivial (fun hSw => ?_)
              clear hK
              try simp only [Act.put, List.setIfInBounds_toArray, List.set_cons_zero, List.set_cons_succ]
              refine wpAnyH_ready (rs := [13]) (by kernel_rfl) (by simp) ?_
              refine AllReadyH.cons (o := { dst := some 3, op := Go.Op.assign (Go.Operand.tmp 52), type := 57, pos := "ref.go:56", after := #[{ on := 12, ground := Go.Ground.data }, { on := 12, ground := Go.Ground.chain }, { on := 0, ground := Go.Ground.phase }, { on := 1, ground := Go.Ground.phase }, { on := 2, ground := Go.Ground.phase }, { on := 3, ground := Go.Ground.phase }, { on := 4, ground := Go.Ground.phase }, { on := 5, ground := Go.Ground.phase }, { on := 6, ground := Go.Ground.phase }, { on := 7, ground := Go.Ground.phase }, { on := 8, ground := Go.Ground.phase }, { on := 9, ground := Go.Ground.phase }, { on := 10, ground := Go.Ground.phase }, { on := 11, ground := Go.Ground.phase }, { on := 12, ground := Go.Ground.phase }], guard := none }) rfl (fun K hK => ?_) AllReadyH.nil
              rw [if_pos (by rfl)]
              go_simp
              refine hK.out _ _ trivial (fun hSw => ?_)
              clear hK
              try simp only [Act.put, List.setIfInBounds_toArray, List.set_cons_zero, List.set_cons_succ]
              refine wpAnyH_done (by kernel_rfl) ?_ _
              have hown' : OwnB w' w.heap.size v' (ys ++ [92, 120, hx ((s[q]'hlt).toNat / 16), hx ((s[q]'hlt).toNat % 16)]) := .of hown (by rw [u8s_append]; try rfl)
              obtain ⟨A', n', c', rfl, HL', HO'⟩ := hown'.form
              have HCN : Hid (Chg No w w') := ((HC.out.drew).alloc _).grown hg (fun k hk => .inl (HO.out.block k hk).1)
              have hbz : w.heap.size ≤ w'.heap.size := HCN.out.size
              clear hown' 
              clear hown hg
              go_wp2
              go_roundw
              case rel =>
                refine ⟨q + 1, A', n', c', _, by omega, hjk, by go_num, rfl, ?_, ?_, HL', HO', hbz, HCN.out⟩
                · have h1 := HL'.out; have h2 := HL.out; simp only [List.length_append, List.length_cons, List.length_nil] at h1; omega
                · rw [Hid, HY.out, HT.out]; simp [hexs]
              case measure => simp only [intOf]; omega
            · have i2 : ¬ ((q : Int) < (pos : Int) + (k : Int)) := by omega
              have HX := Lib.hid (HCL.out wr (.slice A n c) (hexs bs) (HQ1.out) (by have := HO.out; rw [HY.out, List.take_of_length_le (by rw [HTL.out]; omega)] at this; simpa using this) HC.out hsz)
              clear HO HL HC
              go_wp2
              go_roundw
              case rel => exact HX.out.1
              case measure => exact HX.out.2

      have hbf : bk = false := by cases bk <;> simp_all
      have hcf : ctl r = false := by cases h : ctl r <;> simp_all
      subst hbf
      rw [hcf] at HCT
      have HCF := Lib.hid hcf
      clear hh hcf
      by_cases h3 : r = 34 ∨ r = 92
      · have HQ2 : Hid (quoteP (r, false, bs) = [92] ++ bs) := by
          rw [Hid, quoteP, if_pos h3, HSM.out (by show r < 128; omega)]
          rfl
        have hne : ((r : Int) == 34) = false → ((r : Int) == 92) = true := by
          intro h
          rcases h3 with h3 | h3
          · rw [h3] at h; cases h
          · rw [h3]; rfl
        clear HSM HONE
        go_wp2_with ((go_at_call 64; refine Hid.out ?_))
        refine Lib.hid ?_
        refine (HPI.out _).mono ?_
        rintro e wp ⟨rfl, hc⟩
        have HO : Hid (OwnB wp w.heap.size (.slice A n c) ys) := HO.out.chg hc (fun _ _ x => x)
        have HC : Hid (Chg No w wp) := HC.out.no hc
        have hsz : w.heap.size ≤ wp.heap.size := Nat.le_trans hsz hc.size
        clear hc
        have HR3 := Lib.hid h3
        rcases h3 with h3 | h3
        · have hb34 : ((r : Int) == 34) = true := by rw [h3]; rfl
          clear h3 hne h10
          go_wp2_with (first | (go_at_call 65; refine (HCT.out _).mono ?_; rintro e w' ⟨rfl, rfl⟩) | (at_builtin; (refine wpList_app _ rfl (.tmp 59) (.tmp 60) 57 57 rfl w.heap.size 5 (.int .u8 0) 1 1 infoU8 Tryd.underlying57 rfl (by decide) (.slice A n c) (.slice (some ⟨wp.heap.size, 0, none⟩) 1 1) n 1 (u8s ys) ([.int .u8 92]) rfl rfl ?own ?src ?b1 ?b2 ?b3 ?_; (case own => exact OwnB.n (HO.out.alloc _) HL.out); (case src => exact Src.one Tryd.underlying57 _ rfl); (case b1 => omega); (case b2 => unfold maxLen; omega); (case b3 => simp; omega); intro v' w' hown hg; refine Hid.out ?_)))
          refine Lib.hid ?_
          have hown' : OwnB w' w.heap.size v' (ys ++ [92]) := .of hown (by rw [u8s_append]; rfl)
          obtain ⟨A0, m0, c0, rfl, HL0, HO0⟩ := hown'.form
          have HCW : Hid (Chg No w w') := (HC.out.alloc _).grown hg (fun k hk => .inl (HO.out.block k hk).1)
          have hszw := HCW.out.size
          have hn01 : m0 = n + 1 := by have h1 := HL0.out; have h2 := HL.out; rw [List.length_append] at h1; simp only [List.length_cons, List.length_nil] at h1; omega
          have HCL2 := Lib.hid (fun (w'' : World) (v'' : Value) (news : List UInt8) (hq : bs = news) (ho : OwnB w'' w.heap.size v'' ((ys ++ [92]) ++ news)) => HCL.out w'' v'' ([92] ++ news) (by rw [HQ2.out, hq]) (by simpa using ho))
          clear HCL hown' hown hg HO HL HC hsz HQ
          have HYX : Hid (ys ++ [92] = ys ++ [92]) := rfl
          generalize ys ++ [92] = ys1 at HL0 HO0 HCL2 HYX
          obtain ⟨ys0, hy0⟩ : ∃ m, ys1 = m := ⟨_, rfl⟩
          have HCL := HCL2
          rw [hy0] at HCL
          have HYY : Hid (ys1 = ys0) := hy0
          have HO := HO0
          have HL := HL0
          have HC := HCW
          have hsz := hszw
          obtain ⟨n0, hn0⟩ : ∃ m, m0 = m := ⟨_, rfl⟩
          have hle : m0 ≤ n0 := by omega
          have h0n : n0 ≤ 2 + 4 * pos := by omega
          clear hy0 hn0 hn01 HO0 HL0 HCW hszw HCL2 hn4
          go_wp2
          go_loopw [3, 9] (fun v i wr => ∃ (q : Nat) (A : Option Addr) (n c : Nat) (ys : List UInt8), pos ≤ q ∧ q ≤ pos + k ∧ i = .int .i64 (q : Int) ∧ v = .slice A n c ∧ n ≤ n0 + 1 * (q - pos) ∧ Hid (ys = ys0 ++ (bs.take (q - pos))) ∧ Hid (ys.length = n) ∧ Hid (OwnB wr w.heap.size (.slice A n c) ys) ∧ w.heap.size ≤ wr.heap.size ∧ Hid (Chg No w wr)) (fun _ i _ => pos + k - (intOf i).toNat)
          case atStart => exact ⟨pos, _, _, _, _, Nat.le_refl _, by omega, rfl, rfl, by omega, by rw [Hid, HYY.out]; simp [hexs], HL.out, HO.out, hsz, HC.out⟩
          case round =>
            clear HO HL HC hsz
            obtain ⟨q, A, n, c, ys, hpq, hqk, rfl, rfl, hnj, HY, HL, HO, hsz, HC⟩ := hrel
            by_cases hjk : q < pos + k
            · have hlt : q < s.size := by omega
              have i0 : (0 : Int) ≤ (q : Int) := by omega
              have i1 : (q : Int) < (s.size : Int) := by omega
              have i2 : (q : Int) < (pos : Int) + (k : Int) := by omega
              have hn4 : n + 4 ≤ 140737488355328 := by omega
              have hu : (s[q]'hlt).toNat < 256 := (s[q]'hlt).toNat_lt
              have HT : Hid (bs.take (q + 1 - pos) = bs.take (q - pos) ++ [(s[q]'hlt)]) := by
                rw [Hid, show q + 1 - pos = (q - pos) + 1 by omega, List.take_succ_eq_append_getElem (by rw [HTL.out]; omega)]
                congr 2
                rw [List.getElem_of_eq HBS.out.symm (i := q - pos) (by rw [HTL.out]; omega), List.getElem_take, List.getElem_drop]
                have e : pos + (q - pos) = q := by omega
                simp only [e]
                rfl
              have HH1 : Hid (∀ w1, Calls Tryd.prog 69 #[.int .u8 (IntKind.u8.wrap (((s[q]'hlt).toNat : Int) / 16))] w1 fun e w' => e = .returned (.int .u8 ((hx ((s[q]'hlt).toNat / 16)).toNat : Int)) ∧ w1 = w') := fun w1 => by rw [u8_quo _ hu]; exact rhex_calls w1 ((s[q]'hlt).toNat / 16) (by omega)
              have HH2 : Hid (∀ w1, Calls Tryd.prog 69 #[.int .u8 (((s[q]'hlt).toNat : Int).tmod 16)] w1 fun e w' => e = .returned (.int .u8 ((hx ((s[q]'hlt).toNat % 16)).toNat : Int)) ∧ w1 = w') := fun w1 => by rw [u8_rem]; exact rhex_calls w1 ((s[q]'hlt).toNat % 16) (by omega)
              go_wp2_with (at_builtin; (refine wpList_app _ rfl (.tmp 70) (.tmp 74) 57 57 rfl w.heap.size 5 (.int .u8 0) 1 1 infoU8 Tryd.underlying57 rfl (by decide) (.slice A n c) (.slice (some ⟨wr.heap.size, 0, none⟩) 1 1) n 1 (u8s ys) ([.int .u8 ((s[q]'hlt).toNat : Int)]) rfl rfl ?own ?src ?b1 ?b2 ?b3 ?_; (case own => exact OwnB.n (HO.out.alloc _) HL.out); (case src => exact Src.one Tryd.underlying57 _ rfl); (case b1 => omega); (case b2 => unfold maxLen; omega); (case b3 => simp; omega); intro v' w' hown hg; refine Hid.out ?_))
              refine Lib.hid ?_
              have hown' : OwnB w' w.heap.size v' (ys ++ [(s[q]'hlt)]) := .of hown (by rw [u8s_append]; try rfl)
              obtain ⟨A', n', c', rfl, HL', HO'⟩ := hown'.form
              have HCN : Hid (Chg No w w') := (HC.out.alloc _).grown hg (fun k hk => .inl (HO.out.block k hk).1)
              have hbz : w.heap.size ≤ w'.heap.size := HCN.out.size
              clear hown' 
              clear hown hg
              go_wp2
              go_roundw
              case rel =>
                refine ⟨q + 1, A', n', c', _, by omega, hjk, by go_num, rfl, ?_, ?_, HL', HO', hbz, HCN.out⟩
                · have h1 := HL'.out; have h2 := HL.out; simp only [List.length_append, List.length_cons, List.length_nil] at h1; omega
                · rw [Hid, HY.out, HT.out]; simp [hexs]
              case measure => simp only [intOf]; omega
            · have i2 : ¬ ((q : Int) < (pos : Int) + (k : Int)) := by omega
              have HX := Lib.hid (HCL.out wr (.slice A n c) bs rfl (by have := HO.out; rw [HY.out, List.take_of_length_le (by rw [HTL.out]; omega)] at this; simpa using this) HC.out hsz)
              clear HO HL HC
              go_wp2
              go_roundw
              case rel => exact HX.out.1
              case measure => exact HX.out.2

        · have hb34 : ((r : Int) == 34) = false := by rw [h3]; rfl
          have hb92 : ((r : Int) == 92) = true := by rw [h3]; rfl
          clear h3 hne h10
          go_wp2_with (first | (go_at_call 65; refine (HCT.out _).mono ?_; rintro e w' ⟨rfl, rfl⟩) | (at_builtin; (refine wpList_app _ rfl (.tmp 59) (.tmp 60) 57 57 rfl w.heap.size 5 (.int .u8 0) 1 1 infoU8 Tryd.underlying57 rfl (by decide) (.slice A n c) (.slice (some ⟨wp.heap.size, 0, none⟩) 1 1) n 1 (u8s ys) ([.int .u8 92]) rfl rfl ?own ?src ?b1 ?b2 ?b3 ?_; (case own => exact OwnB.n (HO.out.alloc _) HL.out); (case src => exact Src.one Tryd.underlying57 _ rfl); (case b1 => omega); (case b2 => unfold maxLen; omega); (case b3 => simp; omega); intro v' w' hown hg; refine Hid.out ?_)))
          refine Lib.hid ?_
          have hown' : OwnB w' w.heap.size v' (ys ++ [92]) := .of hown (by rw [u8s_append]; rfl)
          obtain ⟨A0, m0, c0, rfl, HL0, HO0⟩ := hown'.form
          have HCW : Hid (Chg No w w') := (HC.out.alloc _).grown hg (fun k hk => .inl (HO.out.block k hk).1)
          have hszw := HCW.out.size
          have hn01 : m0 = n + 1 := by have h1 := HL0.out; have h2 := HL.out; rw [List.length_append] at h1; simp only [List.length_cons, List.length_nil] at h1; omega
          have HCL2 := Lib.hid (fun (w'' : World) (v'' : Value) (news : List UInt8) (hq : bs = news) (ho : OwnB w'' w.heap.size v'' ((ys ++ [92]) ++ news)) => HCL.out w'' v'' ([92] ++ news) (by rw [HQ2.out, hq]) (by simpa using ho))
          clear HCL hown' hown hg HO HL HC hsz HQ
          have HYX : Hid (ys ++ [92] = ys ++ [92]) := rfl
          generalize ys ++ [92] = ys1 at HL0 HO0 HCL2 HYX
          obtain ⟨ys0, hy0⟩ : ∃ m, ys1 = m := ⟨_, rfl⟩
          have HCL := HCL2
          rw [hy0] at HCL
          have HYY : Hid (ys1 = ys0) := hy0
          have HO := HO0
          have HL := HL0
          have HC := HCW
          have hsz := hszw
          obtain ⟨n0, hn0⟩ : ∃ m, m0 = m := ⟨_, rfl⟩
          have hle : m0 ≤ n0 := by omega
          have h0n : n0 ≤ 2 + 4 * pos := by omega
          clear hy0 hn0 hn01 HO0 HL0 HCW hszw HCL2 hn4
          go_wp2
          go_loopw [3, 9] (fun v i wr => ∃ (q : Nat) (A : Option Addr) (n c : Nat) (ys : List UInt8), pos ≤ q ∧ q ≤ pos + k ∧ i = .int .i64 (q : Int) ∧ v = .slice A n c ∧ n ≤ n0 + 1 * (q - pos) ∧ Hid (ys = ys0 ++ (bs.take (q - pos))) ∧ Hid (ys.length = n) ∧ Hid (OwnB wr w.heap.size (.slice A n c) ys) ∧ w.heap.size ≤ wr.heap.size ∧ Hid (Chg No w wr)) (fun _ i _ => pos + k - (intOf i).toNat)
          case atStart => exact ⟨pos, _, _, _, _, Nat.le_refl _, by omega, rfl, rfl, by omega, by rw [Hid, HYY.out]; simp [hexs], HL.out, HO.out, hsz, HC.out⟩
          case round =>
            clear HO HL HC hsz
            obtain ⟨q, A, n, c, ys, hpq, hqk, rfl, rfl, hnj, HY, HL, HO, hsz, HC⟩ := hrel
            by_cases hjk : q < pos + k
            · have hlt : q < s.size := by omega
              have i0 : (0 : Int) ≤ (q : Int) := by omega
              have i1 : (q : Int) < (s.size : Int) := by omega
              have i2 : (q : Int) < (pos : Int) + (k : Int) := by omega
              have hn4 : n + 4 ≤ 140737488355328 := by omega
              have hu : (s[q]'hlt).toNat < 256 := (s[q]'hlt).toNat_lt
              have HT : Hid (bs.take (q + 1 - pos) = bs.take (q - pos) ++ [(s[q]'hlt)]) := by
                rw [Hid, show q + 1 - pos = (q - pos) + 1 by omega, List.take_succ_eq_append_getElem (by rw [HTL.out]; omega)]
                congr 2
                rw [List.getElem_of_eq HBS.out.symm (i := q - pos) (by rw [HTL.out]; omega), List.getElem_take, List.getElem_drop]
                have e : pos + (q - pos) = q := by omega
                simp only [e]
                rfl
              have HH1 : Hid (∀ w1, Calls Tryd.prog 69 #[.int .u8 (IntKind.u8.wrap (((s[q]'hlt).toNat : Int) / 16))] w1 fun e w' => e = .returned (.int .u8 ((hx ((s[q]'hlt).toNat / 16)).toNat : Int)) ∧ w1 = w') := fun w1 => by rw [u8_quo _ hu]; exact rhex_calls w1 ((s[q]'hlt).toNat / 16) (by omega)
              have HH2 : Hid (∀ w1, Calls Tryd.prog 69 #[.int .u8 (((s[q]'hlt).toNat : Int).tmod 16)] w1 fun e w' => e = .returned (.int .u8 ((hx ((s[q]'hlt).toNat % 16)).toNat : Int)) ∧ w1 = w') := fun w1 => by rw [u8_rem]; exact rhex_calls w1 ((s[q]'hlt).toNat % 16) (by omega)
              go_wp2_with (at_builtin; (refine wpList_app _ rfl (.tmp 70) (.tmp 74) 57 57 rfl w.heap.size 5 (.int .u8 0) 1 1 infoU8 Tryd.underlying57 rfl (by decide) (.slice A n c) (.slice (some ⟨wr.heap.size, 0, none⟩) 1 1) n 1 (u8s ys) ([.int .u8 ((s[q]'hlt).toNat : Int)]) rfl rfl ?own ?src ?b1 ?b2 ?b3 ?_; (case own => exact OwnB.n (HO.out.alloc _) HL.out); (case src => exact Src.one Tryd.underlying57 _ rfl); (case b1 => omega); (case b2 => unfold maxLen; omega); (case b3 => simp; omega); intro v' w' hown hg; refine Hid.out ?_))
              refine Lib.hid ?_
              have hown' : OwnB w' w.heap.size v' (ys ++ [(s[q]'hlt)]) := .of hown (by rw [u8s_append]; try rfl)
              obtain ⟨A', n', c', rfl, HL', HO'⟩ := hown'.form
              have HCN : Hid (Chg No w w') := (HC.out.alloc _).grown hg (fun k hk => .inl (HO.out.block k hk).1)
              have hbz : w.heap.size ≤ w'.heap.size := HCN.out.size
              clear hown' 
              clear hown hg
              go_wp2
              go_roundw
              case rel =>
                refine ⟨q + 1, A', n', c', _, by omega, hjk, by go_num, rfl, ?_, ?_, HL', HO', hbz, HCN.out⟩
                · have h1 := HL'.out; have h2 := HL.out; simp only [List.length_append, List.length_cons, List.length_nil] at h1; omega
                · rw [Hid, HY.out, HT.out]; simp [hexs]
              case measure => simp only [intOf]; omega
            · have i2 : ¬ ((q : Int) < (pos : Int) + (k : Int)) := by omega
              have HX := Lib.hid (HCL.out wr (.slice A n c) bs rfl (by have := HO.out; rw [HY.out, List.take_of_length_le (by rw [HTL.out]; omega)] at this; simpa using this) HC.out hsz)
              clear HO HL HC
              go_wp2
              go_roundw
              case rel => exact HX.out.1
              case measure => exact HX.out.2

      · have hb34 : ((r : Int) == 34) = false := by simp; omega
        have hb92 : ((r : Int) == 92) = false := by simp; omega
        have HQ2 : Hid (quoteP (r, false, bs) = bs) := by simp [Hid, quoteP, h3, h10, HCF.out]
        clear h3 h10 HSM HONE
        go_wp2_with ((go_at_call 64; refine Hid.out ?_))
        refine Lib.hid ?_
        refine (HPI.out _).mono ?_
        rintro e wp ⟨rfl, hc⟩
        have HO : Hid (OwnB wp w.heap.size (.slice A n c) ys) := HO.out.chg hc (fun _ _ x => x)
        have HC : Hid (Chg No w wp) := HC.out.no hc
        have hsz : w.heap.size ≤ wp.heap.size := Nat.le_trans hsz hc.size
        clear hc
        obtain ⟨n0, hn0⟩ : ∃ m, n = m := ⟨n, rfl⟩
        obtain ⟨ys0, hy0⟩ : ∃ m, ys = m := ⟨ys, rfl⟩
        have hle : n ≤ n0 := by omega
        have h0n : n0 ≤ 1 + 4 * pos := by omega
        rw [hy0] at HCL
        have HYY : Hid (ys = ys0) := hy0
        clear hn0 hy0 hn4 HQ
        go_wp2_with (go_at_call 65; refine (HCT.out _).mono ?_; rintro e w' ⟨rfl, rfl⟩)
        go_loopw [3, 9] (fun v i wr => ∃ (q : Nat) (A : Option Addr) (n c : Nat) (ys : List UInt8), pos ≤ q ∧ q ≤ pos + k ∧ i = .int .i64 (q : Int) ∧ v = .slice A n c ∧ n ≤ n0 + 1 * (q - pos) ∧ Hid (ys = ys0 ++ (bs.take (q - pos))) ∧ Hid (ys.length = n) ∧ Hid (OwnB wr w.heap.size (.slice A n c) ys) ∧ w.heap.size ≤ wr.heap.size ∧ Hid (Chg No w wr)) (fun _ i _ => pos + k - (intOf i).toNat)
        case atStart => exact ⟨pos, _, _, _, _, Nat.le_refl _, by omega, rfl, rfl, by omega, by rw [Hid, HYY.out]; simp [hexs], HL.out, HO.out, hsz, HC.out⟩
        case round =>
          clear HO HL HC hsz
          obtain ⟨q, A, n, c, ys, hpq, hqk, rfl, rfl, hnj, HY, HL, HO, hsz, HC⟩ := hrel
          by_cases hjk : q < pos + k
          · have hlt : q < s.size := by omega
            have i0 : (0 : Int) ≤ (q : Int) := by omega
            have i1 : (q : Int) < (s.size : Int) := by omega
            have i2 : (q : Int) < (pos : Int) + (k : Int) := by omega
            have hn4 : n + 4 ≤ 140737488355328 := by omega
            have hu : (s[q]'hlt).toNat < 256 := (s[q]'hlt).toNat_lt
            have HT : Hid (bs.take (q + 1 - pos) = bs.take (q - pos) ++ [(s[q]'hlt)]) := by
              rw [Hid, show q + 1 - pos = (q - pos) + 1 by omega, List.take_succ_eq_append_getElem (by rw [HTL.out]; omega)]
              congr 2
              rw [List.getElem_of_eq HBS.out.symm (i := q - pos) (by rw [HTL.out]; omega), List.getElem_take, List.getElem_drop]
              have e : pos + (q - pos) = q := by omega
              simp only [e]
              rfl
            have HH1 : Hid (∀ w1, Calls Tryd.prog 69 #[.int .u8 (IntKind.u8.wrap (((s[q]'hlt).toNat : Int) / 16))] w1 fun e w' => e = .returned (.int .u8 ((hx ((s[q]'hlt).toNat / 16)).toNat : Int)) ∧ w1 = w') := fun w1 => by rw [u8_quo _ hu]; exact rhex_calls w1 ((s[q]'hlt).toNat / 16) (by omega)
            have HH2 : Hid (∀ w1, Calls Tryd.prog 69 #[.int .u8 (((s[q]'hlt).toNat : Int).tmod 16)] w1 fun e w' => e = .returned (.int .u8 ((hx ((s[q]'hlt).toNat % 16)).toNat : Int)) ∧ w1 = w') := fun w1 => by rw [u8_rem]; exact rhex_calls w1 ((s[q]'hlt).toNat % 16) (by omega)
            go_wp2_with (at_builtin; (refine wpList_app _ rfl (.tmp 70) (.tmp 74) 57 57 rfl w.heap.size 5 (.int .u8 0) 1 1 infoU8 Tryd.underlying57 rfl (by decide) (.slice A n c) (.slice (some ⟨wr.heap.size, 0, none⟩) 1 1) n 1 (u8s ys) ([.int .u8 ((s[q]'hlt).toNat : Int)]) rfl rfl ?own ?src ?b1 ?b2 ?b3 ?_; (case own => exact OwnB.n (HO.out.alloc _) HL.out); (case src => exact Src.one Tryd.underlying57 _ rfl); (case b1 => omega); (case b2 => unfold maxLen; omega); (case b3 => simp; omega); intro v' w' hown hg; refine Hid.out ?_))
            refine Lib.hid ?_
            have hown' : OwnB w' w.heap.size v' (ys ++ [(s[q]'hlt)]) := .of hown (by rw [u8s_append]; try rfl)
            obtain ⟨A', n', c', rfl, HL', HO'⟩ := hown'.form
            have HCN : Hid (Chg No w w') := (HC.out.alloc _).grown hg (fun k hk => .inl (HO.out.block k hk).1)
            have hbz : w.heap.size ≤ w'.heap.size := HCN.out.size
            clear hown' 
            clear hown hg
            go_wp2
            go_roundw
            case rel =>
              refine ⟨q + 1, A', n', c', _, by omega, hjk, by go_num, rfl, ?_, ?_, HL', HO', hbz, HCN.out⟩
              · have h1 := HL'.out; have h2 := HL.out; simp only [List.length_append, List.length_cons, List.length_nil] at h1; omega
              · rw [Hid, HY.out, HT.out]; simp [hexs]
            case measure => simp only [intOf]; omega
          · have i2 : ¬ ((q : Int) < (pos : Int) + (k : Int)) := by omega
            have HX := Lib.hid (HCL.out wr (.slice A n c) (bs) HQ2.out (by have := HO.out; rw [HY.out, List.take_of_length_le (by rw [HTL.out]; omega)] at this; simpa using this) HC.out hsz)
            clear HO HL HC
            go_wp2
            go_roundw
            case rel => exact HX.out.1
            case measure => exact HX.out.2

    · have HE : Hid (s.data.toList.drop pos = []) := by rw [Hid]; exact List.drop_of_length_le (by rw [HS.out]; omega)
      have hn : n ≤ 1 + 4 * s.size := by omega
      go_wp2_with (at_builtin; (refine wpList_app _ rfl (.tmp 79) (.tmp 80) 57 57 rfl w.heap.size 5 (.int .u8 0) 1 1 infoU8 Tryd.underlying57 rfl (by decide) (.slice A n c) (.slice (some ⟨wr.heap.size, 0, none⟩) 1 1) n 1 (u8s ys) ([.int .u8 34]) rfl rfl ?own ?src ?b1 ?b2 ?b3 ?_; (case own => exact OwnB.n (HO.out.alloc _) HL.out); (case src => exact Src.one Tryd.underlying57 _ rfl); (case b1 => omega); (case b2 => unfold maxLen; omega); (case b3 => simp; omega); intro v' w' hown hg; refine Hid.out ?_))
      refine Lib.hid ?_
      have hown' : OwnB w' w.heap.size v' (ys ++ [34]) := .of hown (by rw [u8s_append]; rfl)
      obtain ⟨A', n', c', rfl, HL', HO'⟩ := hown'.form
      have hcv := HO'.out.bytes.text (P := Tryd.prog) Tryd.underlying57 Tryd.underlying5 Tryd.underlying9
      have HCW : Hid (Chg No w w') := (HC.out.alloc _).grown hg (fun k hk => .inl (HO.out.block k hk).1)
      clear hown hown' hg
      go_wp2
      go_ret
      exact ⟨by rw [HQ.out, HE.out]; rfl, HCW.out⟩
end Go.Proofs.YtcomcoolmabmgaaDoor
