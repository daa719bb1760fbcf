/-
  Q12, Q13, Q14: in one text.
-/
import Derived.Test.YtcomcoolmabmgaaDoorBa5
namespace Go.Proofs.YtcomcoolmabmgaaDoor
set_option linter.unnecessarySimpa false
open Go.RowKit
set_option linter.unusedVariables false
set_option linter.unusedSimpArgs false

theorem u8_quo (u : Nat) (h : u < 256) : IntKind.u8.wrap ((u : Int) / 16) = ((u / 16 : Nat) : Int) := by
  show ((u : Int) / 16) % 256 = _
  omega
theorem u8_rem (u : Nat) : (u : Int).tmod 16 = ((u % 16 : Nat) : Int) := (Int.ofNat_tmod u 16).symm

set_option maxRecDepth 100000 in
set_option maxHeartbeats 3200000 in
theorem rquote_calls (w : World) (s : ByteArray) (hs : s.size ≤ 35184372088000) :
    Calls Tryd.prog 53 #[.string s] w fun e w' => e = .returned (.string (mkS (quoteF s.data.toList))) ∧ Chg No w w' := by
  have HS := Lib.hid (size_list s)
  have own0 : Hid (OwnB (w.alloc (.cells #[.int .u8 34] 5)) w.heap.size (.slice (some ⟨w.heap.size, 0, none⟩) 1 1) [34]) := OwnB.lit w [34] (by decide)
  go_enter Tryd.func53, Tryd.ntmps53
  go_wp2
  go_loopw [3, 4] (fun v a wr => ∃ (pos : Nat) (A : Option Addr) (n c : Nat) (ys : List UInt8), pos ≤ s.size ∧ a = .int .i64 (pos : Int) ∧ v = .slice A n c ∧ n ≤ 1 + 4 * pos ∧ Hid (quoteF s.data.toList = ys ++ ((pcs (s.data.toList.drop pos)).flatMap quoteP ++ [34])) ∧ Hid (ys.length = n) ∧ Hid (OwnB wr w.heap.size (.slice A n c) ys) ∧ w.heap.size ≤ wr.heap.size ∧ Hid (Chg No w wr)) (fun _ a _ => s.size - (intOf a).toNat)
  case atStart => exact ⟨0, _, 1, 1, [34], Nat.zero_le _, rfl, rfl, by omega, by simp [Hid, quoteF], rfl, own0.out, ((Chg.refl No w).alloc (.cells #[.int .u8 34] 5)).size, (Chg.refl No w).alloc _⟩
  case round =>
    clear own0
    obtain ⟨pos, A, n, c, ys, hpos, rfl, rfl, hn4, HQ, HL, HO, hsz, HC⟩ := hrel
    by_cases hp : pos < s.size
    · have hl := drop_ne hp
      obtain ⟨f1, f2, f3⟩ := decL_facts _ hl
      have HPC := Lib.hid (pcs_cons _ hl)
      have HONE := Lib.hid (brk_one (s.data.toList.drop pos))
      have HSM := Lib.hid (small_piece (s.data.toList.drop pos) hl)
      have HPI : Hid (∀ w1, Calls Tryd.prog 64 #[.string s, .int .i64 (pos : Int)] w1 fun e w' => e = .returned (.tuple #[.int .i64 ((decL (s.data.toList.drop pos)).2 : Int), .bool (brk (s.data.toList.drop pos)), .int .i32 ((decL (s.data.toList.drop pos)).1 : Int)]) ∧ Chg No w1 w') := fun w1 => piece_calls w1 s (by omega) pos hp
      have HCT : Hid (∀ w1, Calls Tryd.prog 65 #[.int .i32 (((decL (s.data.toList.drop pos)).1 : Nat) : Int)] w1 fun e w' => e = .returned (.bool (ctl (decL (s.data.toList.drop pos)).1)) ∧ w1 = w') := fun w1 => rcontrol_calls w1 _
      rw [List.length_drop, HS.out] at f2
      rw [List.drop_drop] at HPC
      have HTL : Hid (((s.data.toList.drop pos).take (decL (s.data.toList.drop pos)).2).length = (decL (s.data.toList.drop pos)).2) := by
        rw [Hid, List.length_take, List.length_drop, HS.out]; omega
      generalize decL (s.data.toList.drop pos) = D at *
      obtain ⟨r, k⟩ := D
      simp only at f1 f2 f3 HPI HCT HPC HTL HONE HSM
      generalize brk (s.data.toList.drop pos) = bk at *
      generalize hbs : (s.data.toList.drop pos).take k = bs at *
      have HBS := Lib.hid hbs
      clear hl hbs
      have HCL : Hid (∀ (w' : World) (v' : Value) (news : List UInt8), quoteP (r, bk, bs) = news → OwnB w' w.heap.size v' (ys ++ news) → Chg No w w' → w.heap.size ≤ w'.heap.size →
          (∃ (pos' : Nat) (A : Option Addr) (n c : Nat) (ys : List UInt8), pos' ≤ s.size ∧ Value.int .i64 ((pos : Int) + (k : Int)) = .int .i64 (pos' : Int) ∧ v' = .slice A n c ∧ n ≤ 1 + 4 * pos' ∧ Hid (quoteF s.data.toList = ys ++ ((pcs (s.data.toList.drop pos')).flatMap quoteP ++ [34])) ∧ Hid (ys.length = n) ∧ Hid (OwnB w' w.heap.size (.slice A n c) ys) ∧ w.heap.size ≤ w'.heap.size ∧ Hid (Chg No w w')) ∧ s.size - (intOf (.int .i64 ((pos : Int) + (k : Int)))).toNat < s.size - (intOf (.int .i64 (pos : Int))).toNat) := by
        intro w' v' news hq ho hc hz
        obtain ⟨A', c', rfl, -, -⟩ := ho.bytes.form
        have hlen := quoteP_len (r, bk, bs) (by show 1 ≤ bs.length; rw [HTL.out]; exact f1)
        rw [hq] at hlen
        have hlen : news.length ≤ 4 * k := by rw [← HTL.out]; exact hlen
        refine ⟨⟨pos + k, A', _, c', ys ++ news, by omega, by go_num, rfl, ?_, ?_, rfl, ho, hz, hc⟩, ?_⟩
        · have := HL.out; rw [List.length_append]; omega
        · rw [Hid, HQ.out, HPC.out, List.flatMap_cons, hq]; simp
        · simp only [intOf]; omega
      have hpk : pos + k ≤ s.size := by omega
      have h0n : n ≤ 1 + 4 * pos := hn4
      by_cases h10 : r = 10
      · have hb10 : ((r : Int) == 10) = true := by rw [h10]; rfl
        have HNW : Hid (quoteP (r, bk, bs) = [92, 110]) := by simp [Hid, quoteP, h10]
        clear h10
        go_wp2_with ((go_at_call 64; refine Hid.out ?_))
        refine Lib.hid ?_
        refine (HPI.out _).mono ?_
        rintro e wp ⟨rfl, hc⟩
        have HO : Hid (OwnB wp w.heap.size (.slice A n c) ys) := HO.out.chg hc (fun _ _ x => x)
        have HC : Hid (Chg No w wp) := HC.out.no hc
        have hsz : w.heap.size ≤ wp.heap.size := Nat.le_trans hsz hc.size
        clear hc
        go_wp2_with (at_builtin; (refine wpList_app _ rfl (.tmp 24) (.tmp 25) 57 57 rfl w.heap.size 5 (.int .u8 0) 1 1 infoU8 Tryd.underlying57 rfl (by decide) (.slice A n c) (.slice (some ⟨wp.heap.size, 0, none⟩) 2 2) n 2 (u8s ys) (u8s [92, 110]) rfl rfl ?own ?src ?b1 ?b2 ?b3 ?_; (case own => exact OwnB.n (HO.out.alloc _) HL.out); (case src => exact Src.two Tryd.underlying57 _ _ _ (Chg.refl No _) rfl (u8s_one _)); (case b1 => omega); (case b2 => unfold maxLen; omega); (case b3 => simp; omega); intro v' w' hown hg; refine Hid.out ?_))
        refine Lib.hid ?_
        have hown' : OwnB w' w.heap.size v' (ys ++ [92, 110]) := .of hown (by rw [u8s_append]; try rfl)
        have hcn : Chg No w w' := (HC.out.alloc _).grown hg (fun k hk => .inl (HO.out.block k hk).1)
        have HX := Lib.hid (HCL.out w' v' _ HNW.out hown' hcn hcn.size)
        clear hown hg hown' hcn
        go_wp2
        go_roundw
        case rel => exact HX.out.1
        case measure => exact HX.out.2
      have hb10 : ((r : Int) == 10) = false := by simp; omega
      by_cases hh : bk = true ∨ ctl r = true
      · have hr34 : ¬ (r = 34 ∨ r = 92) := by
          intro h
          rcases hh with hh | hh
          · have := HONE.out hh; simp only [Prod.mk.injEq] at this; omega
          · rcases h with rfl | rfl <;> simp [ctl] at hh
        have HQ1 : Hid (quoteP (r, bk, bs) = hexs bs) := by simp [Hid, quoteP, hr34, h10, hh]
        have HHH := Lib.hid hh
        clear hh hr34 h10
        go_wp2_with ((go_at_call 64; refine Hid.out ?_))
        refine Lib.hid ?_
        refine (HPI.out _).mono ?_
        rintro e wp ⟨rfl, hc⟩
        have HO : Hid (OwnB wp w.heap.size (.slice A n c) ys) := HO.out.chg hc (fun _ _ x => x)
        have HC : Hid (Chg No w wp) := HC.out.no hc
        have hsz : w.heap.size ≤ wp.heap.size := Nat.le_trans hsz hc.size
        clear hc
        obtain ⟨n0, hn0⟩ : ∃ m, n = m := ⟨n, rfl⟩
        obtain ⟨ys0, hy0⟩ : ∃ m, ys = m := ⟨ys, rfl⟩
        have hle : n ≤ n0 := by omega
        have h0n : n0 ≤ 1 + 4 * pos := by omega
        rw [hy0] at HCL
        have HYY : Hid (ys = ys0) := hy0
        clear hn0 hy0 hn4 HQ
        cases bk with
        | true =>
          go_wp2_with (go_at_call 65; refine (HCT.out _).mono ?_; rintro e w' ⟨rfl, rfl⟩)
          go_loopw [3, 8] (fun v i wr => ∃ (q : Nat) (A : Option Addr) (n c : Nat) (ys : List UInt8), pos ≤ q ∧ q ≤ pos + k ∧ i = .int .i64 (q : Int) ∧ v = .slice A n c ∧ n ≤ n0 + 4 * (q - pos) ∧ Hid (ys = ys0 ++ hexs (bs.take (q - pos))) ∧ Hid (ys.length = n) ∧ Hid (OwnB wr w.heap.size (.slice A n c) ys) ∧ w.heap.size ≤ wr.heap.size ∧ Hid (Chg No w wr)) (fun _ i _ => pos + k - (intOf i).toNat)
          case atStart => exact ⟨pos, _, _, _, _, Nat.le_refl _, by omega, rfl, rfl, by omega, by rw [Hid, HYY.out]; simp [hexs], HL.out, HO.out, hsz, HC.out⟩
          case round =>
            clear HO HL HC hsz
            obtain ⟨q, A, n, c, ys, hpq, hqk, rfl, rfl, hnj, HY, HL, HO, hsz, HC⟩ := hrel
            by_cases hjk : q < pos + k
            · have hlt : q < s.size := by omega
              have i0 : (0 : Int) ≤ (q : Int) := by omega
              have i1 : (q : Int) < (s.size : Int) := by omega
              have i2 : (q : Int) < (pos : Int) + (k : Int) := by omega
              have hn4 : n + 4 ≤ 140737488355328 := by omega
              have hu : (s[q]'hlt).toNat < 256 := (s[q]'hlt).toNat_lt
              have HT : Hid (bs.take (q + 1 - pos) = bs.take (q - pos) ++ [(s[q]'hlt)]) := by
                rw [Hid, show q + 1 - pos = (q - pos) + 1 by omega, List.take_succ_eq_append_getElem (by rw [HTL.out]; omega)]
                congr 2
                rw [List.getElem_of_eq HBS.out.symm (i := q - pos) (by rw [HTL.out]; omega), List.getElem_take, List.getElem_drop]
                have e : pos + (q - pos) = q := by omega
                simp only [e]
                rfl
              have HH1 : Hid (∀ w1, Calls Tryd.prog 69 #[.int .u8 (IntKind.u8.wrap (((s[q]'hlt).toNat : Int) / 16))] w1 fun e w' => e = .returned (.int .u8 ((hx ((s[q]'hlt).toNat / 16)).toNat : Int)) ∧ w1 = w') := fun w1 => by rw [u8_quo _ hu]; exact rhex_calls w1 ((s[q]'hlt).toNat / 16) (by omega)
              have HH2 : Hid (∀ w1, Calls Tryd.prog 69 #[.int .u8 (((s[q]'hlt).toNat : Int).tmod 16)] w1 fun e w' => e = .returned (.int .u8 ((hx ((s[q]'hlt).toNat % 16)).toNat : Int)) ∧ w1 = w') := fun w1 => by rw [u8_rem]; exact rhex_calls w1 ((s[q]'hlt).toNat % 16) (by omega)
              go_wp2
              refine wp_region_held_drew (S := fun _ => True) (by kernel_rfl) trivial (fun hSw => ?_)
              refine wpAnyH_take (i := 0) (oi := { dst := some 40, op := Go.Op.move (Go.Operand.tmp 3), type := 57, pos := "ref.go:56", after := #[], guard := none }) (v := ?_) rfl (by kernel_rfl) (by kernel_rfl) (by kernel_rfl) (fun _ _ _ h => h) (Or.inl ⟨by rfl, ?_⟩) hSw ?_
              rotate_left
              · (intro W hW; (try dsimp only at hW); go_simp; try with_reducible rfl)
              try simp only [Act.put, List.setIfInBounds_toArray, List.set_cons_zero, List.set_cons_succ]
              refine wpAnyH_take (i := 1) (oi := { dst := some 41, op := Go.Op.move (Go.Operand.tmp 0), type := 9, pos := "ref.go:56", after := #[], guard := none }) (v := ?_) rfl (by kernel_rfl) (by kernel_rfl) (by kernel_rfl) (fun _ _ _ h => h) (Or.inl ⟨by rfl, ?_⟩) hSw ?_
              rotate_left
              · (intro W hW; (try dsimp only at hW); go_simp; try with_reducible rfl)
              try simp only [Act.put, List.setIfInBounds_toArray, List.set_cons_zero, List.set_cons_succ]
              refine wpAnyH_take (i := 2) (oi := { dst := some 42, op := Go.Op.move (Go.Operand.tmp 8), type := 3, pos := "ref.go:56", after := #[], guard := none }) (v := ?_) rfl (by kernel_rfl) (by kernel_rfl) (by kernel_rfl) (fun _ _ _ h => h) (Or.inl ⟨by rfl, ?_⟩) hSw ?_
              rotate_left
              · (intro W hW; (try dsimp only at hW); go_simp; try with_reducible rfl)
              try simp only [Act.put, List.setIfInBounds_toArray, List.set_cons_zero, List.set_cons_succ]
              refine wpAnyH_take (i := 6) (oi := { dst := some 46, op := Go.Op.move (Go.Operand.tmp 0), type := 9, pos := "ref.go:56", after := #[], guard := none }) (v := ?_) rfl (by kernel_rfl) (by kernel_rfl) (by kernel_rfl) (fun _ _ _ h => h) (Or.inl ⟨by rfl, ?_⟩) hSw ?_
              rotate_left
              · (intro W hW; (try dsimp only at hW); go_simp; try with_reducible rfl)
              try simp only [Act.put, List.setIfInBounds_toArray, List.set_cons_zero, List.set_cons_succ]
              refine wpAnyH_take (i := 7) (oi := { dst := some 47, op := Go.Op.move (Go.Operand.tmp 8), type := 3, pos := "ref.go:56", after := #[], guard := none }) (v := ?_) rfl (by kernel_rfl) (by kernel_rfl) (by kernel_rfl) (fun _ _ _ h => h) (Or.inl ⟨by rfl, ?_⟩) hSw ?_
              rotate_left
              · (intro W hW; (try dsimp only at hW); go_simp; try with_reducible rfl)
              try simp only [Act.put, List.setIfInBounds_toArray, List.set_cons_zero, List.set_cons_succ]
              refine wpAnyH_take (i := 3) (oi := { dst := some 43, op := Go.Op.index 9 (Go.Operand.tmp 41) (Go.Operand.tmp 42), type := 5, pos := "ref.go:56", after := #[{ on := 1, ground := Go.Ground.data }, { on := 2, ground := Go.Ground.data }], guard := none }) (v := ?_) rfl (by kernel_rfl) (by kernel_rfl) (by kernel_rfl) (fun _ _ _ h => h) (Or.inl ⟨by rfl, ?_⟩) hSw ?_
              rotate_left
              · (intro W hW; (try dsimp only at hW); go_simp; try with_reducible rfl)
              try simp only [Act.put, List.setIfInBounds_toArray, List.set_cons_zero, List.set_cons_succ]
              refine wpAnyH_take (i := 8) (oi := { dst := some 48, op := Go.Op.index 9 (Go.Operand.tmp 46) (Go.Operand.tmp 47), type := 5, pos := "ref.go:56", after := #[{ on := 6, ground := Go.Ground.data }, { on := 7, ground := Go.Ground.data }], guard := none }) (v := ?_) rfl (by kernel_rfl) (by kernel_rfl) (by kernel_rfl) (fun _ _ _ h => h) (Or.inl ⟨by rfl, ?_⟩) hSw ?_
              rotate_left
              · (intro W hW; (try dsimp only at hW); go_simp; try with_reducible rfl)
              try simp only [Act.put, List.setIfInBounds_toArray, List.set_cons_zero, List.set_cons_succ]
              refine wpAnyH_take (i := 4) (oi := { dst := some 44, op := Go.Op.binOp Go.BinOp.quo 5 (Go.Operand.tmp 43) (Go.Operand.const (Go.Value.int Go.IntKind.u8 16)) 5, type := 5, pos := "ref.go:56", after := #[{ on := 3, ground := Go.Ground.data }], guard := none }) (v := ?_) rfl (by kernel_rfl) (by kernel_rfl) (by kernel_rfl) (fun _ _ _ h => h) (Or.inl ⟨by rfl, ?_⟩) hSw ?_
              rotate_left
              · (intro W hW; (try dsimp only at hW); go_simp; try with_reducible rfl)
              try simp only [Act.put, List.setIfInBounds_toArray, List.set_cons_zero, List.set_cons_succ]
              refine wpAnyH_take (i := 9) (oi := { dst := some 49, op := Go.Op.binOp Go.BinOp.rem 5 (Go.Operand.tmp 48) (Go.Operand.const (Go.Value.int Go.IntKind.u8 16)) 5, type := 5, pos := "ref.go:56", after := #[{ on := 8, ground := Go.Ground.data }], guard := none }) (v := ?_) rfl (by kernel_rfl) (by kernel_rfl) (by kernel_rfl) (fun _ _ _ h => h) (Or.inl ⟨by rfl, ?_⟩) hSw ?_
              rotate_left
              · (intro W hW; (try dsimp only at hW); go_simp; try with_reducible rfl)
              try simp only [Act.put, List.setIfInBounds_toArray, List.set_cons_zero, List.set_cons_succ]
              refine wpAnyH_ready (rs := [5]) (by kernel_rfl) (by simp) ?_
              refine AllReadyH.cons (o := { dst := some 45, op := Go.Op.call { callee := Go.Callee.value (Go.Operand.func 69), args := #[Go.Operand.tmp 44], argTypes := #[5] }, type := 5, pos := "ref.go:56", after := #[{ on := 4, ground := Go.Ground.data }], guard := none }) rfl (fun K hK => ?_) AllReadyH.nil
              rw [if_pos (by rfl)]
              go_simp
              refine (HH1.out _).mono ?_
              rintro e w'' ⟨rfl, rfl⟩
              refine hK.out _ _ trivial (fun hSw => ?_)
              clear hK
              try simp only [Act.put, List.setIfInBounds_toArray, List.set_cons_zero, List.set_cons_succ]
              refine wpAnyH_ready (rs := [10]) (by kernel_rfl) (by simp) ?_
              refine AllReadyH.cons (o := { dst := some 50, op := Go.Op.call { callee := Go.Callee.value (Go.Operand.func 69), args := #[Go.Operand.tmp 49], argTypes := #[5] }, type := 5, pos := "ref.go:56", after := #[{ on := 9, ground := Go.Ground.data }, { on := 5, ground := Go.Ground.chain }], guard := none }) rfl (fun K hK => ?_) AllReadyH.nil
              rw [if_pos (by rfl)]
              go_simp
              refine (HH2.out _).mono ?_
              rintro e w'' ⟨rfl, rfl⟩
              refine hK.out _ _ trivial (fun hSw => ?_)
              clear hK
              try simp only [Act.put, List.setIfInBounds_toArray, List.set_cons_zero, List.set_cons_succ]
              refine wpAnyH_ready (rs := [11]) (by kernel_rfl) (by simp) ?_
              refine AllReadyH.cons (o := { dst := some 51, op := Go.Op.buildSlice 57 4 #[(0, Go.Operand.const (Go.Value.int Go.IntKind.u8 92)), (1, Go.Operand.const (Go.Value.int Go.IntKind.u8 120)), (2, Go.Operand.tmp 45), (3, Go.Operand.tmp 50)], type := 57, pos := "ref.go:56", after := #[{ on := 5, ground := Go.Ground.data }, { on := 10, ground := Go.Ground.data }], guard := none }) rfl (fun K hK => ?_) AllReadyH.nil
              rw [if_pos (by rfl)]
              go_simp
              refine hK.out _ _ trivial (fun hSw => ?_)
              clear hK
              try simp only [Act.put, List.setIfInBounds_toArray, List.set_cons_zero, List.set_cons_succ]
              refine wpAnyH_ready (rs := [12]) (by kernel_rfl) (by simp) ?_
              refine AllReadyH.cons (o := { dst := some 52, op := Go.Op.call { callee := Go.Callee.builtin Go.Builtin.append, args := #[Go.Operand.tmp 40, Go.Operand.tmp 51], argTypes := #[57, 57] }, type := 57, pos := "ref.go:56", after := #[{ on := 0, ground := Go.Ground.data }, { on := 11, ground := Go.Ground.data }, { on := 10, ground := Go.Ground.chain }], guard := none }) rfl (fun K hK => ?_) AllReadyH.nil
              rw [if_pos (by rfl)]
              refine wp_app (.tmp 40) (.tmp 51) 57 57 rfl w.heap.size 5 (.int .u8 0) 1 1 infoU8 Tryd.underlying57 rfl (by decide) (.slice A n c) (.slice (some ⟨wr.heap.size, 0, none⟩) 4 4) n 4 (u8s ys) (u8s [92, 120, hx ((s[q]'hlt).toNat / 16), hx ((s[q]'hlt).toNat % 16)]) rfl rfl ?_ ?_ ?_ ?_ ?_ ?_
              · (have h0 := HO.out.chg (((Chg.refl No wr).drew).alloc (.cells #[.int .u8 92, .int .u8 120, .int .u8 ((hx ((s[q]'hlt).toNat / 16)).toNat : Int), .int .u8 ((hx ((s[q]'hlt).toNat % 16)).toNat : Int)] 5)) (fun _ _ h => h); unfold OwnB at h0; rw [HL.out] at h0; exact h0)
              · exact Src.four (w := wr.drew) Tryd.underlying57 _ _ _ _ _ (Chg.refl No _) rfl (u8s_one _)
              · omega
              · unfold maxLen; omega
              · simp; omega
              intro v' w' hown hg
              refine hK.out _ _ trivial (fun hSw => ?_)
              clear hK
              try simp only [Act.put, List.setIfInBounds_toArray, List.set_cons_zero, List.set_cons_succ]
              refine wpAnyH_ready (rs := [13]) (by kernel_rfl) (by simp) ?_
              refine AllReadyH.cons (o := { dst := some 3, op := Go.Op.assign (Go.Operand.tmp 52), type := 57, pos := "ref.go:56", after := #[{ on := 12, ground := Go.Ground.data }, { on := 12, ground := Go.Ground.chain }, { on := 0, ground := Go.Ground.phase }, { on := 1, ground := Go.Ground.phase }, { on := 2, ground := Go.Ground.phase }, { on := 3, ground := Go.Ground.phase }, { on := 4, ground := Go.Ground.phase }, { on := 5, ground := Go.Ground.phase }, { on := 6, ground := Go.Ground.phase }, { on := 7, ground := Go.Ground.phase }, { on := 8, ground := Go.Ground.phase }, { on := 9, ground := Go.Ground.phase }, { on := 10, ground := Go.Ground.phase }, { on := 11, ground := Go.Ground.phase }, { on := 12, ground := Go.Ground.phase }], guard := none }) rfl (fun K hK => ?_) AllReadyH.nil
              rw [if_pos (by rfl)]
              go_simp
              refine hK.out _ _ trivial (fun hSw => ?_)
              clear hK
              try simp only [Act.put, List.setIfInBounds_toArray, List.set_cons_zero, List.set_cons_succ]
              refine wpAnyH_done (by kernel_rfl) ?_ _
              have hown' : OwnB w' w.heap.size v' (ys ++ [92, 120, hx ((s[q]'hlt).toNat / 16), hx ((s[q]'hlt).toNat % 16)]) := .of hown (by rw [u8s_append]; try rfl)
              obtain ⟨A', n', c', rfl, HL', HO'⟩ := hown'.form
              have HCN : Hid (Chg No w w') := ((HC.out.drew).alloc _).grown hg (fun k hk => .inl (HO.out.block k hk).1)
              have hbz : w.heap.size ≤ w'.heap.size := HCN.out.size
              clear hown' 
              clear hown hg
              go_wp2
              go_roundw
              case rel =>
                refine ⟨q + 1, A', n', c', _, by omega, hjk, by go_num, rfl, ?_, ?_, HL', HO', hbz, HCN.out⟩
                · have h1 := HL'.out; have h2 := HL.out; simp only [List.length_append, List.length_cons, List.length_nil] at h1; omega
                · rw [Hid, HY.out, HT.out]; simp [hexs]
              case measure => simp only [intOf]; omega
            · have i2 : ¬ ((q : Int) < (pos : Int) + (k : Int)) := by omega
              have HX := Lib.hid (HCL.out wr (.slice A n c) (hexs bs) (HQ1.out) (by have := HO.out; rw [HY.out, List.take_of_length_le (by rw [HTL.out]; omega)] at this; simpa using this) HC.out hsz)
              clear HO HL HC
              go_wp2
              go_roundw
              case rel => exact HX.out.1
              case measure => exact HX.out.2

        | false =>
          have hct : ctl r = true := by have := HHH.out; simpa using this
          rw [hct] at HCT
          clear hct
          go_wp2_with (go_at_call 65; refine (HCT.out _).mono ?_; rintro e w' ⟨rfl, rfl⟩)
          go_loopw [3, 8] (fun v i wr => ∃ (q : Nat) (A : Option Addr) (n c : Nat) (ys : List UInt8), pos ≤ q ∧ q ≤ pos + k ∧ i = .int .i64 (q : Int) ∧ v = .slice A n c ∧ n ≤ n0 + 4 * (q - pos) ∧ Hid (ys = ys0 ++ hexs (bs.take (q - pos))) ∧ Hid (ys.length = n) ∧ Hid (OwnB wr w.heap.size (.slice A n c) ys) ∧ w.heap.size ≤ wr.heap.size ∧ Hid (Chg No w wr)) (fun _ i _ => pos + k - (intOf i).toNat)
          case atStart => exact ⟨pos, _, _, _, _, Nat.le_refl _, by omega, rfl, rfl, by omega, by rw [Hid, HYY.out]; simp [hexs], HL.out, HO.out, hsz, HC.out⟩
          case round =>
            clear HO HL HC hsz
            obtain ⟨q, A, n, c, ys, hpq, hqk, rfl, rfl, hnj, HY, HL, HO, hsz, HC⟩ := hrel
            by_cases hjk : q < pos + k
            · have hlt : q < s.size := by omega
              have i0 : (0 : Int) ≤ (q : Int) := by omega
              have i1 : (q : Int) < (s.size : Int) := by omega
              have i2 : (q : Int) < (pos : Int) + (k : Int) := by omega
              have hn4 : n + 4 ≤ 140737488355328 := by omega
              have hu : (s[q]'hlt).toNat < 256 := (s[q]'hlt).toNat_lt
              have HT : Hid (bs.take (q + 1 - pos) = bs.take (q - pos) ++ [(s[q]'hlt)]) := by
                rw [Hid, show q + 1 - pos = (q - pos) + 1 by omega, List.take_succ_eq_append_getElem (by rw [HTL.out]; omega)]
                congr 2
                rw [List.getElem_of_eq HBS.out.symm (i := q - pos) (by rw [HTL.out]; omega), List.getElem_take, List.getElem_drop]
                have e : pos + (q - pos) = q := by omega
                simp only [e]
                rfl
              have HH1 : Hid (∀ w1, Calls Tryd.prog 69 #[.int .u8 (IntKind.u8.wrap (((s[q]'hlt).toNat : Int) / 16))] w1 fun e w' => e = .returned (.int .u8 ((hx ((s[q]'hlt).toNat / 16)).toNat : Int)) ∧ w1 = w') := fun w1 => by rw [u8_quo _ hu]; exact rhex_calls w1 ((s[q]'hlt).toNat / 16) (by omega)
              have HH2 : Hid (∀ w1, Calls Tryd.prog 69 #[.int .u8 (((s[q]'hlt).toNat : Int).tmod 16)] w1 fun e w' => e = .returned (.int .u8 ((hx ((s[q]'hlt).toNat % 16)).toNat : Int)) ∧ w1 = w') := fun w1 => by rw [u8_rem]; exact rhex_calls w1 ((s[q]'hlt).toNat % 16) (by omega)
              go_wp2
              refine wp_region_held_drew (S := fun _ => True) (by kernel_rfl) trivial (fun hSw => ?_)
              refine wpAnyH_take (i := 0) (oi := { dst := some 40, op := Go.Op.move (Go.Operand.tmp 3), type := 57, pos := "ref.go:56", after := #[], guard := none }) (v := ?_) rfl (by kernel_rfl) (by kernel_rfl) (by kernel_rfl) (fun _ _ _ h => h) (Or.inl ⟨by rfl, ?_⟩) hSw ?_
              rotate_left
              · (intro W hW; (try dsimp only at hW); go_simp; try with_reducible rfl)
              try simp only [Act.put, List.setIfInBounds_toArray, List.set_cons_zero, List.set_cons_succ]
              refine wpAnyH_take (i := 1) (oi := { dst := some 41, op := Go.Op.move (Go.Operand.tmp 0), type := 9, pos := "ref.go:56", after := #[], guard := none }) (v := ?_) rfl (by kernel_rfl) (by kernel_rfl) (by kernel_rfl) (fun _ _ _ h => h) (Or.inl ⟨by rfl, ?_⟩) hSw ?_
              rotate_left
              · (intro W hW; (try dsimp only at hW); go_simp; try with_reducible rfl)
              try simp only [Act.put, List.setIfInBounds_toArray, List.set_cons_zero, List.set_cons_succ]
              refine wpAnyH_take (i := 2) (oi := { dst := some 42, op := Go.Op.move (Go.Operand.tmp 8), type := 3, pos := "ref.go:56", after := #[], guard := none }) (v := ?_) rfl (by kernel_rfl) (by kernel_rfl) (by kernel_rfl) (fun _ _ _ h => h) (Or.inl ⟨by rfl, ?_⟩) hSw ?_
              rotate_left
              · (intro W hW; (try dsimp only at hW); go_simp; try with_reducible rfl)
              try simp only [Act.put, List.setIfInBounds_toArray, List.set_cons_zero, List.set_cons_succ]
              refine wpAnyH_take (i := 6) (oi := { dst := some 46, op := Go.Op.move (Go.Operand.tmp 0), type := 9, pos := "ref.go:56", after := #[], guard := none }) (v := ?_) rfl (by kernel_rfl) (by kernel_rfl) (by kernel_rfl) (fun _ _ _ h => h) (Or.inl ⟨by rfl, ?_⟩) hSw ?_
              rotate_left
              · (intro W hW; (try dsimp only at hW); go_simp; try with_reducible rfl)
              try simp only [Act.put, List.setIfInBounds_toArray, List.set_cons_zero, List.set_cons_succ]
              refine wpAnyH_take (i := 7) (oi := { dst := some 47, op := Go.Op.move (Go.Operand.tmp 8), type := 3, pos := "ref.go:56", after := #[], guard := none }) (v := ?_) rfl (by kernel_rfl) (by kernel_rfl) (by kernel_rfl) (fun _ _ _ h => h) (Or.inl ⟨by rfl, ?_⟩) hSw ?_
              rotate_left
              · (intro W hW; (try dsimp only at hW); go_simp; try with_reducible rfl)
              try simp only [Act.put, List.setIfInBounds_toArray, List.set_cons_zero, List.set_cons_succ]
              refine wpAnyH_take (i := 3) (oi := { dst := some 43, op := Go.Op.index 9 (Go.Operand.tmp 41) (Go.Operand.tmp 42), type := 5, pos := "ref.go:56", after := #[{ on := 1, ground := Go.Ground.data }, { on := 2, ground := Go.Ground.data }], guard := none }) (v := ?_) rfl (by kernel_rfl) (by kernel_rfl) (by kernel_rfl) (fun _ _ _ h => h) (Or.inl ⟨by rfl, ?_⟩) hSw ?_
              rotate_left
              · (intro W hW; (try dsimp only at hW); go_simp; try with_reducible rfl)
              try simp only [Act.put, List.setIfInBounds_toArray, List.set_cons_zero, List.set_cons_succ]
              refine wpAnyH_take (i := 8) (oi := { dst := some 48, op := Go.Op.index 9 (Go.Operand.tmp 46) (Go.Operand.tmp 47), type := 5, pos := "ref.go:56", after := #[{ on := 6, ground := Go.Ground.data }, { on := 7, ground := Go.Ground.data }], guard := none }) (v := ?_) rfl (by kernel_rfl) (by kernel_rfl) (by kernel_rfl) (fun _ _ _ h => h) (Or.inl ⟨by rfl, ?_⟩) hSw ?_
              rotate_left
              · (intro W hW; (try dsimp only at hW); go_simp; try with_reducible rfl)
              try simp only [Act.put, List.setIfInBounds_toArray, List.set_cons_zero, List.set_cons_succ]
              refine wpAnyH_take (i := 4) (oi := { dst := some 44, op := Go.Op.binOp Go.BinOp.quo 5 (Go.Operand.tmp 43) (Go.Operand.const (Go.Value.int Go.IntKind.u8 16)) 5, type := 5, pos := "ref.go:56", after := #[{ on := 3, ground := Go.Ground.data }], guard := none }) (v := ?_) rfl (by kernel_rfl) (by kernel_rfl) (by kernel_rfl) (fun _ _ _ h => h) (Or.inl ⟨by rfl, ?_⟩) hSw ?_
              rotate_left
              · (intro W hW; (try dsimp only at hW); go_simp; try with_reducible rfl)
              try simp only [Act.put, List.setIfInBounds_toArray, List.set_cons_zero, List.set_cons_succ]
              refine wpAnyH_take (i := 9) (oi := { dst := some 49, op := Go.Op.binOp Go.BinOp.rem 5 (Go.Operand.tmp 48) (Go.Operand.const (Go.Value.int Go.IntKind.u8 16)) 5, type := 5, pos := "ref.go:56", after := #[{ on := 8, ground := Go.Ground.data }], guard := none }) (v := ?_) rfl (by kernel_rfl) (by kernel_rfl) (by kernel_rfl) (fun _ _ _ h => h) (Or.inl ⟨by rfl, ?_⟩) hSw ?_
              rotate_left
              · (intro W hW; (try dsimp only at hW); go_simp; try with_reducible rfl)
              try simp only [Act.put, List.setIfInBounds_toArray, List.set_cons_zero, List.set_cons_succ]
              refine wpAnyH_ready (rs := [5]) (by kernel_rfl) (by simp) ?_
              refine AllReadyH.cons (o := { dst := some 45, op := Go.Op.call { callee := Go.Callee.value (Go.Operand.func 69), args := #[Go.Operand.tmp 44], argTypes := #[5] }, type := 5, pos := "ref.go:56", after := #[{ on := 4, ground := Go.Ground.data }], guard := none }) rfl (fun K hK => ?_) AllReadyH.nil
              rw [if_pos (by rfl)]
              go_simp
              refine (HH1.out _).mono ?_
              rintro e w'' ⟨rfl, rfl⟩
              refine hK.out _ _ trivial (fun hSw => ?_)
              clear hK
              try simp only [Act.put, List.setIfInBounds_toArray, List.set_cons_zero, List.set_cons_succ]
              refine wpAnyH_ready (rs := [10]) (by kernel_rfl) (by simp) ?_
              refine AllReadyH.cons (o := { dst := some 50, op := Go.Op.call { callee := Go.Callee.value (Go.Operand.func 69), args := #[Go.Operand.tmp 49], argTypes := #[5] }, type := 5, pos := "ref.go:56", after := #[{ on := 9, ground := Go.Ground.data }, { on := 5, ground := Go.Ground.chain }], guard := none }) rfl (fun K hK => ?_) AllReadyH.nil
              rw [if_pos (by rfl)]
              go_simp
              refine (HH2.out _).mono ?_
              rintro e w'' ⟨rfl, rfl⟩
              refine hK.out _ _ trivial (fun hSw => ?_)
              clear hK
              try simp only [Act.put, List.setIfInBounds_toArray, List.set_cons_zero, List.set_cons_succ]
              refine wpAnyH_ready (rs := [11]) (by kernel_rfl) (by simp) ?_
              refine AllReadyH.cons (o := { dst := some 51, op := Go.Op.buildSlice 57 4 #[(0, Go.Operand.const (Go.Value.int Go.IntKind.u8 92)), (1, Go.Operand.const (Go.Value.int Go.IntKind.u8 120)), (2, Go.Operand.tmp 45), (3, Go.Operand.tmp 50)], type := 57, pos := "ref.go:56", after := #[{ on := 5, ground := Go.Ground.data }, { on := 10, ground := Go.Ground.data }], guard := none }) rfl (fun K hK => ?_) AllReadyH.nil
              rw [if_pos (by rfl)]
              go_simp
              refine hK.out _ _ trivial (fun hSw => ?_)
              clear hK
              try simp only [Act.put, List.setIfInBounds_toArray, List.set_cons_zero, List.set_cons_succ]
              refine wpAnyH_ready (rs := [12]) (by kernel_rfl) (by simp) ?_
              refine AllReadyH.cons (o := { dst := some 52, op := Go.Op.call { callee := Go.Callee.builtin Go.Builtin.append, args := #[Go.Operand.tmp 40, Go.Operand.tmp 51], argTypes := #[57, 57] }, type := 57, pos := "ref.go:56", after := #[{ on := 0, ground := Go.Ground.data }, { on := 11, ground := Go.Ground.data }, { on := 10, ground := Go.Ground.chain }], guard := none }) rfl (fun K hK => ?_) AllReadyH.nil
              rw [if_pos (by rfl)]
              refine wp_app (.tmp 40) (.tmp 51) 57 57 rfl w.heap.size 5 (.int .u8 0) 1 1 infoU8 Tryd.underlying57 rfl (by decide) (.slice A n c) (.slice (some ⟨wr.heap.size, 0, none⟩) 4 4) n 4 (u8s ys) (u8s [92, 120, hx ((s[q]'hlt).toNat / 16), hx ((s[q]'hlt).toNat % 16)]) rfl rfl ?_ ?_ ?_ ?_ ?_ ?_
              · (have h0 := HO.out.chg (((Chg.refl No wr).drew).alloc (.cells #[.int .u8 92, .int .u8 120, .int .u8 ((hx ((s[q]'hlt).toNat / 16)).toNat : Int), .int .u8 ((hx ((s[q]'hlt).toNat % 16)).toNat : Int)] 5)) (fun _ _ h => h); unfold OwnB at h0; rw [HL.out] at h0; exact h0)
              · exact Src.four (w := wr.drew) Tryd.underlying57 _ _ _ _ _ (Chg.refl No _) rfl (u8s_one _)
              · omega
              · unfold maxLen; omega
              · simp; omega
              intro v' w' hown hg
              refine hK.out _ _ trivial (fun hSw => ?_)
              clear hK
              try simp only [Act.put, List.setIfInBounds_toArray, List.set_cons_zero, List.set_cons_succ]
              refine wpAnyH_ready (rs := [13]) (by kernel_rfl) (by simp) ?_
              refine AllReadyH.cons (o := { dst := some 3, op := Go.Op.assign (Go.Operand.tmp 52), type := 57, pos := "ref.go:56", after := #[{ on := 12, ground := Go.Ground.data }, { on := 12, ground := Go.Ground.chain }, { on := 0, ground := Go.Ground.phase }, { on := 1, ground := Go.Ground.phase }, { on := 2, ground := Go.Ground.phase }, { on := 3, ground := Go.Ground.phase }, { on := 4, ground := Go.Ground.phase }, { on := 5, ground := Go.Ground.phase }, { on := 6, ground := Go.Ground.phase }, { on := 7, ground := Go.Ground.phase }, { on := 8, ground := Go.Ground.phase }, { on := 9, ground := Go.Ground.phase }, { on := 10, ground := Go.Ground.phase }, { on := 11, ground := Go.Ground.phase }, { on := 12, ground := Go.Ground.phase }], guard := none }) rfl (fun K hK => ?_) AllReadyH.nil
              rw [if_pos (by rfl)]
              go_simp
              refine hK.out _ _ trivial (fun hSw => ?_)
              clear hK
              try simp only [Act.put, List.setIfInBounds_toArray, List.set_cons_zero, List.set_cons_succ]
              refine wpAnyH_done (by kernel_rfl) ?_ _
              have hown' : OwnB w' w.heap.size v' (ys ++ [92, 120, hx ((s[q]'hlt).toNat / 16), hx ((s[q]'hlt).toNat % 16)]) := .of hown (by rw [u8s_append]; try rfl)
              obtain ⟨A', n', c', rfl, HL', HO'⟩ := hown'.form
              have HCN : Hid (Chg No w w') := ((HC.out.drew).alloc _).grown hg (fun k hk => .inl (HO.out.block k hk).1)
              have hbz : w.heap.size ≤ w'.heap.size := HCN.out.size
              clear hown' 
              clear hown hg
              go_wp2
              go_roundw
              case rel =>
                refine ⟨q + 1, A', n', c', _, by omega, hjk, by go_num, rfl, ?_, ?_, HL', HO', hbz, HCN.out⟩
                · have h1 := HL'.out; have h2 := HL.out; simp only [List.length_append, List.length_cons, List.length_nil] at h1; omega
                · rw [Hid, HY.out, HT.out]; simp [hexs]
              case measure => simp only [intOf]; omega
            · have i2 : ¬ ((q : Int) < (pos : Int) + (k : Int)) := by omega
              have HX := Lib.hid (HCL.out wr (.slice A n c) (hexs bs) (HQ1.out) (by have := HO.out; rw [HY.out, List.take_of_length_le (by rw [HTL.out]; omega)] at this; simpa using this) HC.out hsz)
              clear HO HL HC
              go_wp2
              go_roundw
              case rel => exact HX.out.1
              case measure => exact HX.out.2

      have hbf : bk = false := by cases bk <;> simp_all
      have hcf : ctl r = false := by cases h : ctl r <;> simp_all
      subst hbf
      rw [hcf] at HCT
      have HCF := Lib.hid hcf
      clear hh hcf
      by_cases h3 : r = 34 ∨ r = 92
      · have HQ2 : Hid (quoteP (r, false, bs) = [92] ++ bs) := by
          rw [Hid, quoteP, if_pos h3, HSM.out (by show r < 128; omega)]
          rfl
        have hne : ((r : Int) == 34) = false → ((r : Int) == 92) = true := by
          intro h
          rcases h3 with h3 | h3
          · rw [h3] at h; cases h
          · rw [h3]; rfl
        clear HSM HONE
        go_wp2_with ((go_at_call 64; refine Hid.out ?_))
        refine Lib.hid ?_
        refine (HPI.out _).mono ?_
        rintro e wp ⟨rfl, hc⟩
        have HO : Hid (OwnB wp w.heap.size (.slice A n c) ys) := HO.out.chg hc (fun _ _ x => x)
        have HC : Hid (Chg No w wp) := HC.out.no hc
        have hsz : w.heap.size ≤ wp.heap.size := Nat.le_trans hsz hc.size
        clear hc
        have HR3 := Lib.hid h3
        rcases h3 with h3 | h3
        · have hb34 : ((r : Int) == 34) = true := by rw [h3]; rfl
          clear h3 hne h10
          go_wp2_with (first | (go_at_call 65; refine (HCT.out _).mono ?_; rintro e w' ⟨rfl, rfl⟩) | (at_builtin; (refine wpList_app _ rfl (.tmp 59) (.tmp 60) 57 57 rfl w.heap.size 5 (.int .u8 0) 1 1 infoU8 Tryd.underlying57 rfl (by decide) (.slice A n c) (.slice (some ⟨wp.heap.size, 0, none⟩) 1 1) n 1 (u8s ys) ([.int .u8 92]) rfl rfl ?own ?src ?b1 ?b2 ?b3 ?_; (case own => exact OwnB.n (HO.out.alloc _) HL.out); (case src => exact Src.one Tryd.underlying57 _ rfl); (case b1 => omega); (case b2 => unfold maxLen; omega); (case b3 => simp; omega); intro v' w' hown hg; refine Hid.out ?_)))
          refine Lib.hid ?_
          have hown' : OwnB w' w.heap.size v' (ys ++ [92]) := .of hown (by rw [u8s_append]; rfl)
          obtain ⟨A0, m0, c0, rfl, HL0, HO0⟩ := hown'.form
          have HCW : Hid (Chg No w w') := (HC.out.alloc _).grown hg (fun k hk => .inl (HO.out.block k hk).1)
          have hszw := HCW.out.size
          have hn01 : m0 = n + 1 := by have h1 := HL0.out; have h2 := HL.out; rw [List.length_append] at h1; simp only [List.length_cons, List.length_nil] at h1; omega
          have HCL2 := Lib.hid (fun (w'' : World) (v'' : Value) (news : List UInt8) (hq : bs = news) (ho : OwnB w'' w.heap.size v'' ((ys ++ [92]) ++ news)) => HCL.out w'' v'' ([92] ++ news) (by rw [HQ2.out, hq]) (by simpa using ho))
          clear HCL hown' hown hg HO HL HC hsz HQ
          have HYX : Hid (ys ++ [92] = ys ++ [92]) := rfl
          generalize ys ++ [92] = ys1 at HL0 HO0 HCL2 HYX
          obtain ⟨ys0, hy0⟩ : ∃ m, ys1 = m := ⟨_, rfl⟩
          have HCL := HCL2
          rw [hy0] at HCL
          have HYY : Hid (ys1 = ys0) := hy0
          have HO := HO0
          have HL := HL0
          have HC := HCW
          have hsz := hszw
          obtain ⟨n0, hn0⟩ : ∃ m, m0 = m := ⟨_, rfl⟩
          have hle : m0 ≤ n0 := by omega
          have h0n : n0 ≤ 2 + 4 * pos := by omega
          clear hy0 hn0 hn01 HO0 HL0 HCW hszw HCL2 hn4
          go_wp2
          go_loopw [3, 9] (fun v i wr => ∃ (q : Nat) (A : Option Addr) (n c : Nat) (ys : List UInt8), pos ≤ q ∧ q ≤ pos + k ∧ i = .int .i64 (q : Int) ∧ v = .slice A n c ∧ n ≤ n0 + 1 * (q - pos) ∧ Hid (ys = ys0 ++ (bs.take (q - pos))) ∧ Hid (ys.length = n) ∧ Hid (OwnB wr w.heap.size (.slice A n c) ys) ∧ w.heap.size ≤ wr.heap.size ∧ Hid (Chg No w wr)) (fun _ i _ => pos + k - (intOf i).toNat)
          case atStart => exact ⟨pos, _, _, _, _, Nat.le_refl _, by omega, rfl, rfl, by omega, by rw [Hid, HYY.out]; simp [hexs], HL.out, HO.out, hsz, HC.out⟩
          case round =>
            clear HO HL HC hsz
            obtain ⟨q, A, n, c, ys, hpq, hqk, rfl, rfl, hnj, HY, HL, HO, hsz, HC⟩ := hrel
            by_cases hjk : q < pos + k
            · have hlt : q < s.size := by omega
              have i0 : (0 : Int) ≤ (q : Int) := by omega
              have i1 : (q : Int) < (s.size : Int) := by omega
              have i2 : (q : Int) < (pos : Int) + (k : Int) := by omega
              have hn4 : n + 4 ≤ 140737488355328 := by omega
              have hu : (s[q]'hlt).toNat < 256 := (s[q]'hlt).toNat_lt
              have HT : Hid (bs.take (q + 1 - pos) = bs.take (q - pos) ++ [(s[q]'hlt)]) := by
                rw [Hid, show q + 1 - pos = (q - pos) + 1 by omega, List.take_succ_eq_append_getElem (by rw [HTL.out]; omega)]
                congr 2
                rw [List.getElem_of_eq HBS.out.symm (i := q - pos) (by rw [HTL.out]; omega), List.getElem_take, List.getElem_drop]
                have e : pos + (q - pos) = q := by omega
                simp only [e]
                rfl
              have HH1 : Hid (∀ w1, Calls Tryd.prog 69 #[.int .u8 (IntKind.u8.wrap (((s[q]'hlt).toNat : Int) / 16))] w1 fun e w' => e = .returned (.int .u8 ((hx ((s[q]'hlt).toNat / 16)).toNat : Int)) ∧ w1 = w') := fun w1 => by rw [u8_quo _ hu]; exact rhex_calls w1 ((s[q]'hlt).toNat / 16) (by omega)
              have HH2 : Hid (∀ w1, Calls Tryd.prog 69 #[.int .u8 (((s[q]'hlt).toNat : Int).tmod 16)] w1 fun e w' => e = .returned (.int .u8 ((hx ((s[q]'hlt).toNat % 16)).toNat : Int)) ∧ w1 = w') := fun w1 => by rw [u8_rem]; exact rhex_calls w1 ((s[q]'hlt).toNat % 16) (by omega)
              go_wp2_with (at_builtin; (refine wpList_app _ rfl (.tmp 70) (.tmp 74) 57 57 rfl w.heap.size 5 (.int .u8 0) 1 1 infoU8 Tryd.underlying57 rfl (by decide) (.slice A n c) (.slice (some ⟨wr.heap.size, 0, none⟩) 1 1) n 1 (u8s ys) ([.int .u8 ((s[q]'hlt).toNat : Int)]) rfl rfl ?own ?src ?b1 ?b2 ?b3 ?_; (case own => exact OwnB.n (HO.out.alloc _) HL.out); (case src => exact Src.one Tryd.underlying57 _ rfl); (case b1 => omega); (case b2 => unfold maxLen; omega); (case b3 => simp; omega); intro v' w' hown hg; refine Hid.out ?_))
              refine Lib.hid ?_
              have hown' : OwnB w' w.heap.size v' (ys ++ [(s[q]'hlt)]) := .of hown (by rw [u8s_append]; try rfl)
              obtain ⟨A', n', c', rfl, HL', HO'⟩ := hown'.form
              have HCN : Hid (Chg No w w') := (HC.out.alloc _).grown hg (fun k hk => .inl (HO.out.block k hk).1)
              have hbz : w.heap.size ≤ w'.heap.size := HCN.out.size
              clear hown' 
              clear hown hg
              go_wp2
              go_roundw
              case rel =>
                refine ⟨q + 1, A', n', c', _, by omega, hjk, by go_num, rfl, ?_, ?_, HL', HO', hbz, HCN.out⟩
                · have h1 := HL'.out; have h2 := HL.out; simp only [List.length_append, List.length_cons, List.length_nil] at h1; omega
                · rw [Hid, HY.out, HT.out]; simp [hexs]
              case measure => simp only [intOf]; omega
            · have i2 : ¬ ((q : Int) < (pos : Int) + (k : Int)) := by omega
              have HX := Lib.hid (HCL.out wr (.slice A n c) bs rfl (by have := HO.out; rw [HY.out, List.take_of_length_le (by rw [HTL.out]; omega)] at this; simpa using this) HC.out hsz)
              clear HO HL HC
              go_wp2
              go_roundw
              case rel => exact HX.out.1
              case measure => exact HX.out.2

        · have hb34 : ((r : Int) == 34) = false := by rw [h3]; rfl
          have hb92 : ((r : Int) == 92) = true := by rw [h3]; rfl
          clear h3 hne h10
          go_wp2_with (first | (go_at_call 65; refine (HCT.out _).mono ?_; rintro e w' ⟨rfl, rfl⟩) | (at_builtin; (refine wpList_app _ rfl (.tmp 59) (.tmp 60) 57 57 rfl w.heap.size 5 (.int .u8 0) 1 1 infoU8 Tryd.underlying57 rfl (by decide) (.slice A n c) (.slice (some ⟨wp.heap.size, 0, none⟩) 1 1) n 1 (u8s ys) ([.int .u8 92]) rfl rfl ?own ?src ?b1 ?b2 ?b3 ?_; (case own => exact OwnB.n (HO.out.alloc _) HL.out); (case src => exact Src.one Tryd.underlying57 _ rfl); (case b1 => omega); (case b2 => unfold maxLen; omega); (case b3 => simp; omega); intro v' w' hown hg; refine Hid.out ?_)))
          refine Lib.hid ?_
          have hown' : OwnB w' w.heap.size v' (ys ++ [92]) := .of hown (by rw [u8s_append]; rfl)
          obtain ⟨A0, m0, c0, rfl, HL0, HO0⟩ := hown'.form
          have HCW : Hid (Chg No w w') := (HC.out.alloc _).grown hg (fun k hk => .inl (HO.out.block k hk).1)
          have hszw := HCW.out.size
          have hn01 : m0 = n + 1 := by have h1 := HL0.out; have h2 := HL.out; rw [List.length_append] at h1; simp only [List.length_cons, List.length_nil] at h1; omega
          have HCL2 := Lib.hid (fun (w'' : World) (v'' : Value) (news : List UInt8) (hq : bs = news) (ho : OwnB w'' w.heap.size v'' ((ys ++ [92]) ++ news)) => HCL.out w'' v'' ([92] ++ news) (by rw [HQ2.out, hq]) (by simpa using ho))
          clear HCL hown' hown hg HO HL HC hsz HQ
          have HYX : Hid (ys ++ [92] = ys ++ [92]) := rfl
          generalize ys ++ [92] = ys1 at HL0 HO0 HCL2 HYX
          obtain ⟨ys0, hy0⟩ : ∃ m, ys1 = m := ⟨_, rfl⟩
          have HCL := HCL2
          rw [hy0] at HCL
          have HYY : Hid (ys1 = ys0) := hy0
          have HO := HO0
          have HL := HL0
          have HC := HCW
          have hsz := hszw
          obtain ⟨n0, hn0⟩ : ∃ m, m0 = m := ⟨_, rfl⟩
          have hle : m0 ≤ n0 := by omega
          have h0n : n0 ≤ 2 + 4 * pos := by omega
          clear hy0 hn0 hn01 HO0 HL0 HCW hszw HCL2 hn4
          go_wp2
          go_loopw [3, 9] (fun v i wr => ∃ (q : Nat) (A : Option Addr) (n c : Nat) (ys : List UInt8), pos ≤ q ∧ q ≤ pos + k ∧ i = .int .i64 (q : Int) ∧ v = .slice A n c ∧ n ≤ n0 + 1 * (q - pos) ∧ Hid (ys = ys0 ++ (bs.take (q - pos))) ∧ Hid (ys.length = n) ∧ Hid (OwnB wr w.heap.size (.slice A n c) ys) ∧ w.heap.size ≤ wr.heap.size ∧ Hid (Chg No w wr)) (fun _ i _ => pos + k - (intOf i).toNat)
          case atStart => exact ⟨pos, _, _, _, _, Nat.le_refl _, by omega, rfl, rfl, by omega, by rw [Hid, HYY.out]; simp [hexs], HL.out, HO.out, hsz, HC.out⟩
          case round =>
            clear HO HL HC hsz
            obtain ⟨q, A, n, c, ys, hpq, hqk, rfl, rfl, hnj, HY, HL, HO, hsz, HC⟩ := hrel
            by_cases hjk : q < pos + k
            · have hlt : q < s.size := by omega
              have i0 : (0 : Int) ≤ (q : Int) := by omega
              have i1 : (q : Int) < (s.size : Int) := by omega
              have i2 : (q : Int) < (pos : Int) + (k : Int) := by omega
              have hn4 : n + 4 ≤ 140737488355328 := by omega
              have hu : (s[q]'hlt).toNat < 256 := (s[q]'hlt).toNat_lt
              have HT : Hid (bs.take (q + 1 - pos) = bs.take (q - pos) ++ [(s[q]'hlt)]) := by
                rw [Hid, show q + 1 - pos = (q - pos) + 1 by omega, List.take_succ_eq_append_getElem (by rw [HTL.out]; omega)]
                congr 2
                rw [List.getElem_of_eq HBS.out.symm (i := q - pos) (by rw [HTL.out]; omega), List.getElem_take, List.getElem_drop]
                have e : pos + (q - pos) = q := by omega
                simp only [e]
                rfl
              have HH1 : Hid (∀ w1, Calls Tryd.prog 69 #[.int .u8 (IntKind.u8.wrap (((s[q]'hlt).toNat : Int) / 16))] w1 fun e w' => e = .returned (.int .u8 ((hx ((s[q]'hlt).toNat / 16)).toNat : Int)) ∧ w1 = w') := fun w1 => by rw [u8_quo _ hu]; exact rhex_calls w1 ((s[q]'hlt).toNat / 16) (by omega)
              have HH2 : Hid (∀ w1, Calls Tryd.prog 69 #[.int .u8 (((s[q]'hlt).toNat : Int).tmod 16)] w1 fun e w' => e = .returned (.int .u8 ((hx ((s[q]'hlt).toNat % 16)).toNat : Int)) ∧ w1 = w') := fun w1 => by rw [u8_rem]; exact rhex_calls w1 ((s[q]'hlt).toNat % 16) (by omega)
              go_wp2_with (at_builtin; (refine wpList_app _ rfl (.tmp 70) (.tmp 74) 57 57 rfl w.heap.size 5 (.int .u8 0) 1 1 infoU8 Tryd.underlying57 rfl (by decide) (.slice A n c) (.slice (some ⟨wr.heap.size, 0, none⟩) 1 1) n 1 (u8s ys) ([.int .u8 ((s[q]'hlt).toNat : Int)]) rfl rfl ?own ?src ?b1 ?b2 ?b3 ?_; (case own => exact OwnB.n (HO.out.alloc _) HL.out); (case src => exact Src.one Tryd.underlying57 _ rfl); (case b1 => omega); (case b2 => unfold maxLen; omega); (case b3 => simp; omega); intro v' w' hown hg; refine Hid.out ?_))
              refine Lib.hid ?_
              have hown' : OwnB w' w.heap.size v' (ys ++ [(s[q]'hlt)]) := .of hown (by rw [u8s_append]; try rfl)
              obtain ⟨A', n', c', rfl, HL', HO'⟩ := hown'.form
              have HCN : Hid (Chg No w w') := (HC.out.alloc _).grown hg (fun k hk => .inl (HO.out.block k hk).1)
              have hbz : w.heap.size ≤ w'.heap.size := HCN.out.size
              clear hown' 
              clear hown hg
              go_wp2
              go_roundw
              case rel =>
                refine ⟨q + 1, A', n', c', _, by omega, hjk, by go_num, rfl, ?_, ?_, HL', HO', hbz, HCN.out⟩
                · have h1 := HL'.out; have h2 := HL.out; simp only [List.length_append, List.length_cons, List.length_nil] at h1; omega
                · rw [Hid, HY.out, HT.out]; simp [hexs]
              case measure => simp only [intOf]; omega
            · have i2 : ¬ ((q : Int) < (pos : Int) + (k : Int)) := by omega
              have HX := Lib.hid (HCL.out wr (.slice A n c) bs rfl (by have := HO.out; rw [HY.out, List.take_of_length_le (by rw [HTL.out]; omega)] at this; simpa using this) HC.out hsz)
              clear HO HL HC
              go_wp2
              go_roundw
              case rel => exact HX.out.1
              case measure => exact HX.out.2

      · have hb34 : ((r : Int) == 34) = false := by simp; omega
        have hb92 : ((r : Int) == 92) = false := by simp; omega
        have HQ2 : Hid (quoteP (r, false, bs) = bs) := by simp [Hid, quoteP, h3, h10, HCF.out]
        clear h3 h10 HSM HONE
        go_wp2_with ((go_at_call 64; refine Hid.out ?_))
        refine Lib.hid ?_
        refine (HPI.out _).mono ?_
        rintro e wp ⟨rfl, hc⟩
        have HO : Hid (OwnB wp w.heap.size (.slice A n c) ys) := HO.out.chg hc (fun _ _ x => x)
        have HC : Hid (Chg No w wp) := HC.out.no hc
        have hsz : w.heap.size ≤ wp.heap.size := Nat.le_trans hsz hc.size
        clear hc
        obtain ⟨n0, hn0⟩ : ∃ m, n = m := ⟨n, rfl⟩
        obtain ⟨ys0, hy0⟩ : ∃ m, ys = m := ⟨ys, rfl⟩
        have hle : n ≤ n0 := by omega
        have h0n : n0 ≤ 1 + 4 * pos := by omega
        rw [hy0] at HCL
        have HYY : Hid (ys = ys0) := hy0
        clear hn0 hy0 hn4 HQ
        go_wp2_with (go_at_call 65; refine (HCT.out _).mono ?_; rintro e w' ⟨rfl, rfl⟩)
        go_loopw [3, 9] (fun v i wr => ∃ (q : Nat) (A : Option Addr) (n c : Nat) (ys : List UInt8), pos ≤ q ∧ q ≤ pos + k ∧ i = .int .i64 (q : Int) ∧ v = .slice A n c ∧ n ≤ n0 + 1 * (q - pos) ∧ Hid (ys = ys0 ++ (bs.take (q - pos))) ∧ Hid (ys.length = n) ∧ Hid (OwnB wr w.heap.size (.slice A n c) ys) ∧ w.heap.size ≤ wr.heap.size ∧ Hid (Chg No w wr)) (fun _ i _ => pos + k - (intOf i).toNat)
        case atStart => exact ⟨pos, _, _, _, _, Nat.le_refl _, by omega, rfl, rfl, by omega, by rw [Hid, HYY.out]; simp [hexs], HL.out, HO.out, hsz, HC.out⟩
        case round =>
          clear HO HL HC hsz
          obtain ⟨q, A, n, c, ys, hpq, hqk, rfl, rfl, hnj, HY, HL, HO, hsz, HC⟩ := hrel
          by_cases hjk : q < pos + k
          · have hlt : q < s.size := by omega
            have i0 : (0 : Int) ≤ (q : Int) := by omega
            have i1 : (q : Int) < (s.size : Int) := by omega
            have i2 : (q : Int) < (pos : Int) + (k : Int) := by omega
            have hn4 : n + 4 ≤ 140737488355328 := by omega
            have hu : (s[q]'hlt).toNat < 256 := (s[q]'hlt).toNat_lt
            have HT : Hid (bs.take (q + 1 - pos) = bs.take (q - pos) ++ [(s[q]'hlt)]) := by
              rw [Hid, show q + 1 - pos = (q - pos) + 1 by omega, List.take_succ_eq_append_getElem (by rw [HTL.out]; omega)]
              congr 2
              rw [List.getElem_of_eq HBS.out.symm (i := q - pos) (by rw [HTL.out]; omega), List.getElem_take, List.getElem_drop]
              have e : pos + (q - pos) = q := by omega
              simp only [e]
              rfl
            have HH1 : Hid (∀ w1, Calls Tryd.prog 69 #[.int .u8 (IntKind.u8.wrap (((s[q]'hlt).toNat : Int) / 16))] w1 fun e w' => e = .returned (.int .u8 ((hx ((s[q]'hlt).toNat / 16)).toNat : Int)) ∧ w1 = w') := fun w1 => by rw [u8_quo _ hu]; exact rhex_calls w1 ((s[q]'hlt).toNat / 16) (by omega)
            have HH2 : Hid (∀ w1, Calls Tryd.prog 69 #[.int .u8 (((s[q]'hlt).toNat : Int).tmod 16)] w1 fun e w' => e = .returned (.int .u8 ((hx ((s[q]'hlt).toNat % 16)).toNat : Int)) ∧ w1 = w') := fun w1 => by rw [u8_rem]; exact rhex_calls w1 ((s[q]'hlt).toNat % 16) (by omega)
            go_wp2_with (at_builtin; (refine wpList_app _ rfl (.tmp 70) (.tmp 74) 57 57 rfl w.heap.size 5 (.int .u8 0) 1 1 infoU8 Tryd.underlying57 rfl (by decide) (.slice A n c) (.slice (some ⟨wr.heap.size, 0, none⟩) 1 1) n 1 (u8s ys) ([.int .u8 ((s[q]'hlt).toNat : Int)]) rfl rfl ?own ?src ?b1 ?b2 ?b3 ?_; (case own => exact OwnB.n (HO.out.alloc _) HL.out); (case src => exact Src.one Tryd.underlying57 _ rfl); (case b1 => omega); (case b2 => unfold maxLen; omega); (case b3 => simp; omega); intro v' w' hown hg; refine Hid.out ?_))
            refine Lib.hid ?_
            have hown' : OwnB w' w.heap.size v' (ys ++ [(s[q]'hlt)]) := .of hown (by rw [u8s_append]; try rfl)
            obtain ⟨A', n', c', rfl, HL', HO'⟩ := hown'.form
            have HCN : Hid (Chg No w w') := (HC.out.alloc _).grown hg (fun k hk => .inl (HO.out.block k hk).1)
            have hbz : w.heap.size ≤ w'.heap.size := HCN.out.size
            clear hown' 
            clear hown hg
            go_wp2
            go_roundw
            case rel =>
              refine ⟨q + 1, A', n', c', _, by omega, hjk, by go_num, rfl, ?_, ?_, HL', HO', hbz, HCN.out⟩
              · have h1 := HL'.out; have h2 := HL.out; simp only [List.length_append, List.length_cons, List.length_nil] at h1; omega
              · rw [Hid, HY.out, HT.out]; simp [hexs]
            case measure => simp only [intOf]; omega
          · have i2 : ¬ ((q : Int) < (pos : Int) + (k : Int)) := by omega
            have HX := Lib.hid (HCL.out wr (.slice A n c) (bs) HQ2.out (by have := HO.out; rw [HY.out, List.take_of_length_le (by rw [HTL.out]; omega)] at this; simpa using this) HC.out hsz)
            clear HO HL HC
            go_wp2
            go_roundw
            case rel => exact HX.out.1
            case measure => exact HX.out.2

    · have HE : Hid (s.data.toList.drop pos = []) := by rw [Hid]; exact List.drop_of_length_le (by rw [HS.out]; omega)
      have hn : n ≤ 1 + 4 * s.size := by omega
      go_wp2_with (at_builtin; (refine wpList_app _ rfl (.tmp 79) (.tmp 80) 57 57 rfl w.heap.size 5 (.int .u8 0) 1 1 infoU8 Tryd.underlying57 rfl (by decide) (.slice A n c) (.slice (some ⟨wr.heap.size, 0, none⟩) 1 1) n 1 (u8s ys) ([.int .u8 34]) rfl rfl ?own ?src ?b1 ?b2 ?b3 ?_; (case own => exact OwnB.n (HO.out.alloc _) HL.out); (case src => exact Src.one Tryd.underlying57 _ rfl); (case b1 => omega); (case b2 => unfold maxLen; omega); (case b3 => simp; omega); intro v' w' hown hg; refine Hid.out ?_))
      refine Lib.hid ?_
      have hown' : OwnB w' w.heap.size v' (ys ++ [34]) := .of hown (by rw [u8s_append]; rfl)
      obtain ⟨A', n', c', rfl, HL', HO'⟩ := hown'.form
      have hcv := HO'.out.bytes.text (P := Tryd.prog) Tryd.underlying57 Tryd.underlying5 Tryd.underlying9
      have HCW : Hid (Chg No w w') := (HC.out.alloc _).grown hg (fun k hk => .inl (HO.out.block k hk).1)
      clear hown hown' hg
      go_wp2
      go_ret
      exact ⟨by rw [HQ.out, HE.out]; rfl, HCW.out⟩
end Go.Proofs.YtcomcoolmabmgaaDoor

namespace Go.Proofs.YtcomcoolmabmgaaDoor
set_option linter.unnecessarySimpa false
open Go.RowKit
set_option linter.unusedVariables false
set_option linter.unusedSimpArgs false

/-- What the reference reads behind the first quote, right or not. -/
def rdF : List UInt8 → List UInt8
  | c :: d :: u =>
    if c ≠ 92 then c :: rdF (d :: u)
    else if d = 120 ∧ 3 ≤ u.length then match u with
      | a :: b :: v => UInt8.ofNat (dg a.toNat % 16 * 16 + dg b.toNat % 16) :: rdF v
      | _ => []
    else (if d = 110 then 10 else d) :: rdF u
  | _ => []
theorem rd_plain (c : UInt8) (u : List UInt8) (h : c ≠ 92) (hu : u ≠ []) : rdF (c :: u) = c :: rdF u := by
  cases u with
  | nil => exact absurd rfl hu
  | cons d u => rw [rdF.eq_def]; simp only; rw [if_pos h]
theorem rd_two (d : UInt8) (u : List UInt8) (h : ¬ (d = 120 ∧ 3 ≤ u.length)) : rdF (92 :: d :: u) = (if d = 110 then 10 else d) :: rdF u := by
  rw [rdF.eq_def]
  simp only
  rw [if_neg (by decide), if_neg h]
theorem rd_x (a b : UInt8) (v : List UInt8) (h : 1 ≤ v.length) : rdF (92 :: 120 :: a :: b :: v) = UInt8.ofNat (dg a.toNat % 16 * 16 + dg b.toNat % 16) :: rdF v := by
  rw [rdF.eq_def]
  simp only
  rw [if_neg (by decide), if_pos (by refine ⟨by first | rfl | trivial, ?_⟩; simp only [List.length_cons]; omega)]
theorem rd_hex (b : UInt8) (u : List UInt8) (hu : u ≠ []) : rdF (92 :: 120 :: hx (b.toNat / 16) :: hx (b.toNat % 16) :: u) = b :: rdF u := by
  have hb : b.toNat < 256 := b.toNat_lt
  rw [rd_x _ _ _ (List.length_pos_iff.2 hu), dg_hx _ (by omega), dg_hx _ (by omega)]
  have e : b.toNat / 16 % 16 * 16 + b.toNat % 16 % 16 = b.toNat := by omega
  rw [e, u8_of _ b rfl]
theorem rd_hexs (bs u : List UInt8) (hu : u ≠ []) : rdF (hexs bs ++ u) = bs ++ rdF u := by
  induction bs with
  | nil => simp [hexs]
  | cons b t ih =>
    have e : hexs (b :: t) ++ u = 92 :: 120 :: hx (b.toNat / 16) :: hx (b.toNat % 16) :: (hexs t ++ u) := rfl
    rw [e, rd_hex _ _ (by simp [hu]), ih]
    simp
theorem rd_bytes (bs u : List UInt8) (h : ∀ b ∈ bs, b ≠ 92) (hu : u ≠ []) : rdF (bs ++ u) = bs ++ rdF u := by
  induction bs with
  | nil => simp
  | cons b t ih => rw [List.cons_append, rd_plain b _ (h b (by simp)) (by simp [hu]), ih (fun x hx => h x (by simp [hx])), List.cons_append]
theorem rd_piece (l u : List UInt8) (h : l ≠ []) (hu : u ≠ []) : rdF (quoteP ((decL l).1, brk l, l.take (decL l).2) ++ u) = l.take (decL l).2 ++ rdF u := by
  unfold quoteP
  simp only
  split
  · rename_i h1
    rw [small_piece l h (by omega)]
    rcases h1 with h1 | h1 <;> rw [h1]
    · exact rd_two 34 u (by simp)
    · exact rd_two 92 u (by simp)
  · split
    · rename_i h1 h2
      rw [small_piece l h (by omega), h2]
      exact rd_two 110 u (by simp)
    · split
      · exact rd_hexs _ u hu
      · rename_i h1 h2 h3
        apply rd_bytes _ _ _ hu
        rcases Nat.lt_or_ge (decL l).1 128 with hr | hr
        · rw [small_piece l h hr]
          intro b hb
          simp only [List.mem_singleton] at hb
          subst hb
          intro he
          have := congrArg UInt8.toNat he
          rw [UInt8.toNat_ofNat'] at this
          have e92 : (92 : UInt8).toNat = 92 := rfl
          omega
        · exact fun b hb => (big_piece l h hr b hb).2
theorem rd_quote : ∀ (n : Nat) (l : List UInt8), l.length ≤ n → rdF ((pcs l).flatMap quoteP ++ [34]) = l := by
  intro n
  induction n with
  | zero =>
    intro l hl
    have : l = [] := List.eq_nil_of_length_eq_zero (by omega)
    subst this
    simp [pcs_nil, rdF]
  | succ n ih =>
    intro l hl
    by_cases h : l = []
    · subst h
      simp [pcs_nil, rdF]
    · obtain ⟨f1, f2, f3⟩ := decL_facts l h
      rw [pcs_cons l h, List.flatMap_cons, List.append_assoc, rd_piece l _ h (by simp), ih _ (by rw [List.length_drop]; omega), List.take_append_drop]
/-- What the reference tells is what Unquote tells. -/
theorem runq_eq (l : List UInt8) : (if quoteF (rdF (l.drop 1)) = l then some (rdF (l.drop 1)) else none) = unqF l := by
  split
  · rename_i h
    conv => rhs; rw [← h]
    rw [unq_quote]
  · rename_i h
    cases hu : unqF l with
    | none => rfl
    | some t =>
      have hq := unq_some hu
      have : rdF (l.drop 1) = t := by
        rw [← hq, quoteF_parts]
        exact rd_quote t.length t (Nat.le_refl _)
      rw [this] at h
      exact absurd hq h

set_option maxRecDepth 100000 in
set_option maxHeartbeats 3200000 in
theorem runquote_calls (w : World) (s : ByteArray) (hs : s.size ≤ 35184372088000) :
    Calls Tryd.prog 47 #[.string s] w fun e w' => e = plainlyR (unqF s.data.toList) ∧ Chg No w w' := by
  have HS := Lib.hid (size_list s)
  by_cases h2 : s.size < 2
  · have HU : Hid (unqF s.data.toList = none) := by rw [Hid, unqF, plainlyF, if_pos (by rw [HS.out]; exact h2)]
    have hi : (s.size : Int) < 2 := by omega
    go_enter Tryd.func47, Tryd.ntmps47
    go_wp2
    go_ret2
    exact ⟨by rw [HU.out]; rfl, Chg.refl _ _⟩
  · have hi : ¬ ((s.size : Int) < 2) := by omega
    go_enter Tryd.func47, Tryd.ntmps47
    go_wp2
    go_loopw [4, 5] (fun v a wr => ∃ (at' : Nat) (A : Option Addr) (n c : Nat) (ys : List UInt8), 1 ≤ at' ∧ at' ≤ s.size ∧ a = .int .i64 (at' : Int) ∧ v = .slice A n c ∧ n ≤ at' ∧ Hid (rdF (s.data.toList.drop 1) = ys ++ rdF (s.data.toList.drop at')) ∧ Hid (ys.length = n) ∧ Hid (OwnB wr w.heap.size (.slice A n c) ys) ∧ w.heap.size ≤ wr.heap.size ∧ Hid (Chg No w wr)) (fun _ a _ => s.size + 4 - (intOf a).toNat)
    case atStart => exact ⟨1, none, 0, 0, [], Nat.le_refl _, by omega, rfl, rfl, by omega, by simp [Hid], rfl, World.ownsRow_nil _ _ _ _, Nat.le_refl _, Chg.refl _ _⟩
    case round =>
      obtain ⟨at', A, n, c, ys, h1at, hat, rfl, rfl, hn, HP, HL, HO, hsz, HC⟩ := hrel
      by_cases hlt : at' + 1 < s.size
      · have i1 : (at' : Int) < (s.size : Int) - 1 := by omega
        have hlt0 : at' < s.size := by omega
        obtain ⟨x, hx⟩ : ∃ x, s[at'] = x := ⟨_, rfl⟩
        have HD : Hid (s.data.toList.drop at' = x :: s.data.toList.drop (at' + 1)) := by
          rw [Hid, List.drop_eq_getElem_cons (by rw [HS.out]; omega), ← hx]; rfl
        by_cases h92 : x = 92
        case neg =>
          have hb92 : ((x.toNat : Int) != 92) = true := bne_iff_ne.2 (fun h => h92 (UInt8.toNat_inj.1 (Int.ofNat.inj h)))
          have HP1 : Hid (rdF (s.data.toList.drop 1) = (ys ++ [x]) ++ rdF (s.data.toList.drop (at' + 1))) := by
            rw [Hid, HP.out, HD.out, rd_plain x _ h92 (List.ne_nil_of_length_pos (by rw [List.length_drop, HS.out]; omega))]
            simp
          clear HP HD h92
          go_wp2_with (at_builtin; (refine wpList_app _ rfl (.tmp 19) (.tmp 23) 57 57 rfl w.heap.size 5 (.int .u8 0) 1 1 infoU8 Tryd.underlying57 rfl (by decide) (.slice A n c) (.slice (some ⟨wr.heap.size, 0, none⟩) 1 1) n 1 (u8s ys) [.int .u8 (x.toNat : Int)] rfl rfl ?own ?src ?b1 ?b2 ?b3 ?_; (case own => exact OwnB.n (HO.out.alloc _) HL.out); (case src => exact Src.one Tryd.underlying57 _ rfl); (case b1 => omega); (case b2 => unfold maxLen; omega); (case b3 => simp; omega); intro v' w' hown hg; refine Hid.out ?_))
          refine Lib.hid ?_
          have hX : OwnB w' w.heap.size v' (ys ++ [x]) := .of hown (by rw [u8s_append]; try rfl)
          obtain ⟨A', n', c', rfl, HL', HO'⟩ := hX.form
          have hn' : n' = n + 1 := by have h1 := HL'.out; have h2 := HL.out; rw [List.length_append] at h1; simp only [List.length_cons, List.length_nil] at h1; omega
          have HC1 : Hid (Chg No w w') := (HC.out.alloc _).grown hg (fun k hk => .inl (HO.out.block k hk).1)
          clear hX hown hg
          go_wp2
          go_roundw
          case rel => exact ⟨at' + 1, A', n', c', ys ++ [x], by omega, by omega, by go_num, rfl, by omega, HP1.out, HL'.out, HO'.out, HC1.out.size, HC1.out⟩
          case measure => simp only [intOf]; omega
        subst h92
        have hib1 : ((at' : Int) + 1).toNat < s.size := by omega
        have hi10 : 0 ≤ (at' : Int) + 1 := by omega
        have hi11 : (at' : Int) + 1 < (s.size : Int) := by omega
        obtain ⟨d, hd⟩ : ∃ x, s[at' + 1] = x := ⟨_, rfl⟩
        have hd' : s[((at' : Int) + 1).toNat]'hib1 = d := by
          have hi1 : ((at' : Int) + 1).toNat = at' + 1 := by omega
          simp only [hi1]; exact hd
        have HDD : Hid (s.data.toList.drop at' = 92 :: d :: s.data.toList.drop (at' + 2)) := by
          rw [Hid, HD.out, List.drop_eq_getElem_cons (by rw [HS.out]; omega), ← hd]; rfl
        clear HD
        by_cases hxx : d = 120 ∧ at' + 4 < s.size
        · obtain ⟨hd1, hx4⟩ := hxx
          subst hd1
          have i3 : (at' : Int) + 3 < (s.size : Int) - 1 := by omega
          have hib2 : ((at' : Int) + 2).toNat < s.size := by omega
          have hib3 : ((at' : Int) + 3).toNat < s.size := by omega
          have hlt2 : at' + 2 < s.size := by omega
          have hlt3 : at' + 3 < s.size := by omega
          obtain ⟨a, ha⟩ : ∃ x, s[at' + 2] = x := ⟨_, rfl⟩
          obtain ⟨b, hb⟩ : ∃ x, s[at' + 3] = x := ⟨_, rfl⟩
          have ha' : s[((at' : Int) + 2).toNat]'hib2 = a := by
            have hi2 : ((at' : Int) + 2).toNat = at' + 2 := by omega
            simp only [hi2]; exact ha
          have hb' : s[((at' : Int) + 3).toNat]'hib3 = b := by
            have hi3 : ((at' : Int) + 3).toNat = at' + 3 := by omega
            simp only [hi3]; exact hb
          have HP1 : Hid (rdF (s.data.toList.drop 1) = (ys ++ [UInt8.ofNat (dg a.toNat % 16 * 16 + dg b.toNat % 16)]) ++ rdF (s.data.toList.drop (at' + 4))) := by
            have e1 : s.data.toList.drop (at' + 2) = a :: b :: s.data.toList.drop (at' + 4) := by
              rw [List.drop_eq_getElem_cons (by rw [HS.out]; omega), List.drop_eq_getElem_cons (by rw [HS.out]; omega), ← ha, ← hb]
              rfl
            rw [Hid, HP.out, HDD.out, e1, rd_x a b _ (by rw [List.length_drop, HS.out]; omega)]
            simp
          have HVa : Hid (∀ w1, Calls Tryd.prog 63 #[.int .u8 (a.toNat : Int)] w1 fun e w' => e = .returned (.int .u8 ((dg a.toNat : Nat) : Int)) ∧ w1 = w') := fun w1 => value_calls w1 _ a.toNat_lt
          have HVb : Hid (∀ w1, Calls Tryd.prog 63 #[.int .u8 (b.toNat : Int)] w1 fun e w' => e = .returned (.int .u8 ((dg b.toNat : Nat) : Int)) ∧ w1 = w') := fun w1 => value_calls w1 _ b.toNat_lt
          have hw2 : IntKind.i64.wrap ((at' : Int) + 2) = ((at' + 2 : Nat) : Int) := by rw [IntKind.wrap_i64]; omega
          have hw3 : IntKind.i64.wrap ((at' : Int) + 3) = ((at' + 3 : Nat) : Int) := by rw [IntKind.wrap_i64]; omega
          obtain ⟨q2, hq2⟩ : ∃ q, at' + 2 = q := ⟨_, rfl⟩
          obtain ⟨q3, hq3⟩ : ∃ q, at' + 3 = q := ⟨_, rfl⟩
          simp only [hq2] at hw2 hlt2 ha
          simp only [hq3] at hw3 hlt3 hb
          have j20 : 0 ≤ (q2 : Int) := by omega
          have j21 : (q2 : Int) < (s.size : Int) := by omega
          have j30 : 0 ≤ (q3 : Int) := by omega
          have j31 : (q3 : Int) < (s.size : Int) := by omega
          clear ha' hb' hib2 hib3
          have ht1 : ((dg a.toNat : Nat) : Int).tmod 16 = ((dg a.toNat % 16 : Nat) : Int) := u8_rem _
          have ht2 : ((dg b.toNat : Nat) : Int).tmod 16 = ((dg b.toNat % 16 : Nat) : Int) := u8_rem _
          clear HP HDD
          generalize dg a.toNat = da at *
          generalize dg b.toNat = db at *
          obtain ⟨pa, hpa⟩ : ∃ x, da % 16 = x := ⟨_, rfl⟩
          obtain ⟨pb, hpb⟩ : ∃ x, db % 16 = x := ⟨_, rfl⟩
          rw [hpa] at ht1
          rw [hpb] at ht2
          obtain ⟨pm, hpm⟩ : ∃ x, pa * 16 = x := ⟨_, rfl⟩
          obtain ⟨y, hy⟩ : ∃ y : UInt8, UInt8.ofNat (pm + pb) = y := ⟨_, rfl⟩
          have hm1 : IntKind.u8.wrap ((pa : Int) * 16) = (pm : Int) := by rw [IntKind.wrap_u8]; omega
          have hm2 : IntKind.u8.wrap ((pm : Int) + (pb : Int)) = (y.toNat : Int) := by
            rw [IntKind.wrap_u8, ← hy, UInt8.toNat_ofNat']; omega
          rw [hpa, hpb, hpm, hy] at HP1
          clear hpa hpb hpm hy
          go_wp2
          refine wp_region_held_drew (S := fun _ => True) (by kernel_rfl) trivial (fun hSw => ?_)
          refine wpAnyH_take (i := 0) (oi := { dst := some 41, op := Go.Op.move (Go.Operand.tmp 4), type := 57, pos := "ref.go:96", after := #[], guard := none }) (v := ?_) rfl (by kernel_rfl) (by kernel_rfl) (by kernel_rfl) (fun _ _ _ h => h) (Or.inl ⟨by rfl, ?_⟩) hSw ?_
          rotate_left
          · (intro W hW; (try dsimp only at hW); go_simp; try with_reducible rfl)
          try simp only [Act.put, List.setIfInBounds_toArray, List.set_cons_zero, List.set_cons_succ]
          refine wpAnyH_take (i := 1) (oi := { dst := some 42, op := Go.Op.move (Go.Operand.tmp 0), type := 9, pos := "ref.go:96", after := #[], guard := none }) (v := ?_) rfl (by kernel_rfl) (by kernel_rfl) (by kernel_rfl) (fun _ _ _ h => h) (Or.inl ⟨by rfl, ?_⟩) hSw ?_
          rotate_left
          · (intro W hW; (try dsimp only at hW); go_simp; try with_reducible rfl)
          try simp only [Act.put, List.setIfInBounds_toArray, List.set_cons_zero, List.set_cons_succ]
          refine wpAnyH_take (i := 2) (oi := { dst := some 43, op := Go.Op.move (Go.Operand.tmp 5), type := 3, pos := "ref.go:96", after := #[], guard := none }) (v := ?_) rfl (by kernel_rfl) (by kernel_rfl) (by kernel_rfl) (fun _ _ _ h => h) (Or.inl ⟨by rfl, ?_⟩) hSw ?_
          rotate_left
          · (intro W hW; (try dsimp only at hW); go_simp; try with_reducible rfl)
          try simp only [Act.put, List.setIfInBounds_toArray, List.set_cons_zero, List.set_cons_succ]
          refine wpAnyH_take (i := 8) (oi := { dst := some 49, op := Go.Op.move (Go.Operand.tmp 0), type := 9, pos := "ref.go:96", after := #[], guard := none }) (v := ?_) rfl (by kernel_rfl) (by kernel_rfl) (by kernel_rfl) (fun _ _ _ h => h) (Or.inl ⟨by rfl, ?_⟩) hSw ?_
          rotate_left
          · (intro W hW; (try dsimp only at hW); go_simp; try with_reducible rfl)
          try simp only [Act.put, List.setIfInBounds_toArray, List.set_cons_zero, List.set_cons_succ]
          refine wpAnyH_take (i := 9) (oi := { dst := some 50, op := Go.Op.move (Go.Operand.tmp 5), type := 3, pos := "ref.go:96", after := #[], guard := none }) (v := ?_) rfl (by kernel_rfl) (by kernel_rfl) (by kernel_rfl) (fun _ _ _ h => h) (Or.inl ⟨by rfl, ?_⟩) hSw ?_
          rotate_left
          · (intro W hW; (try dsimp only at hW); go_simp; try with_reducible rfl)
          try simp only [Act.put, List.setIfInBounds_toArray, List.set_cons_zero, List.set_cons_succ]
          refine wpAnyH_take (i := 3) (oi := { dst := some 44, op := Go.Op.binOp Go.BinOp.add 3 (Go.Operand.tmp 43) (Go.Operand.const (Go.Value.int Go.IntKind.i64 2)) 3, type := 3, pos := "ref.go:96", after := #[{ on := 2, ground := Go.Ground.data }], guard := none }) (v := ?_) rfl (by kernel_rfl) (by kernel_rfl) (by kernel_rfl) (fun _ _ _ h => h) (Or.inl ⟨by rfl, ?_⟩) hSw ?_
          rotate_left
          · (intro W hW; (try dsimp only at hW); go_simp; try with_reducible rfl)
          try simp only [Act.put, List.setIfInBounds_toArray, List.set_cons_zero, List.set_cons_succ]
          refine wpAnyH_take (i := 10) (oi := { dst := some 51, op := Go.Op.binOp Go.BinOp.add 3 (Go.Operand.tmp 50) (Go.Operand.const (Go.Value.int Go.IntKind.i64 3)) 3, type := 3, pos := "ref.go:96", after := #[{ on := 9, ground := Go.Ground.data }], guard := none }) (v := ?_) rfl (by kernel_rfl) (by kernel_rfl) (by kernel_rfl) (fun _ _ _ h => h) (Or.inl ⟨by rfl, ?_⟩) hSw ?_
          rotate_left
          · (intro W hW; (try dsimp only at hW); go_simp; try with_reducible rfl)
          try simp only [Act.put, List.setIfInBounds_toArray, List.set_cons_zero, List.set_cons_succ]
          refine wpAnyH_take (i := 4) (oi := { dst := some 45, op := Go.Op.index 9 (Go.Operand.tmp 42) (Go.Operand.tmp 44), type := 5, pos := "ref.go:96", after := #[{ on := 1, ground := Go.Ground.data }, { on := 3, ground := Go.Ground.data }], guard := none }) (v := ?_) rfl (by kernel_rfl) (by kernel_rfl) (by kernel_rfl) (fun _ _ _ h => h) (Or.inl ⟨by rfl, ?_⟩) hSw ?_
          rotate_left
          · (intro W hW; (try dsimp only at hW); go_simp; try with_reducible rfl)
          try simp only [Act.put, List.setIfInBounds_toArray, List.set_cons_zero, List.set_cons_succ]
          refine wpAnyH_take (i := 11) (oi := { dst := some 52, op := Go.Op.index 9 (Go.Operand.tmp 49) (Go.Operand.tmp 51), type := 5, pos := "ref.go:96", after := #[{ on := 8, ground := Go.Ground.data }, { on := 10, ground := Go.Ground.data }], guard := none }) (v := ?_) rfl (by kernel_rfl) (by kernel_rfl) (by kernel_rfl) (fun _ _ _ h => h) (Or.inl ⟨by rfl, ?_⟩) hSw ?_
          rotate_left
          · (intro W hW; (try dsimp only at hW); go_simp; try with_reducible rfl)
          try simp only [Act.put, List.setIfInBounds_toArray, List.set_cons_zero, List.set_cons_succ]
          refine wpAnyH_ready (rs := [5]) (by kernel_rfl) (by simp) ?_
          refine AllReadyH.cons (o := { dst := some 46, op := Go.Op.call { callee := Go.Callee.value (Go.Operand.func 63), args := #[Go.Operand.tmp 45], argTypes := #[5] }, type := 5, pos := "ref.go:96", after := #[{ on := 4, ground := Go.Ground.data }], guard := none }) rfl (fun K hK => ?_) AllReadyH.nil
          rw [if_pos (by rfl)]
          go_simp
          refine (HVa.out _).mono ?_
          rintro e w'' ⟨rfl, rfl⟩
          refine hK.out _ _ trivial (fun hSw => ?_)
          clear hK
          try simp only [Act.put, List.setIfInBounds_toArray, List.set_cons_zero, List.set_cons_succ]
          refine wpAnyH_take (i := 6) (oi := { dst := some 47, op := Go.Op.binOp Go.BinOp.rem 5 (Go.Operand.tmp 46) (Go.Operand.const (Go.Value.int Go.IntKind.u8 16)) 5, type := 5, pos := "ref.go:96", after := #[{ on := 5, ground := Go.Ground.data }], guard := none }) (v := ?_) rfl (by kernel_rfl) (by kernel_rfl) (by kernel_rfl) (fun _ _ _ h => h) (Or.inl ⟨by rfl, ?_⟩) hSw ?_
          rotate_left
          · (intro W hW; (try dsimp only at hW); go_simp; try with_reducible rfl)
          try simp only [Act.put, List.setIfInBounds_toArray, List.set_cons_zero, List.set_cons_succ]
          refine wpAnyH_take (i := 7) (oi := { dst := some 48, op := Go.Op.binOp Go.BinOp.mul 5 (Go.Operand.tmp 47) (Go.Operand.const (Go.Value.int Go.IntKind.u8 16)) 5, type := 5, pos := "ref.go:96", after := #[{ on := 6, ground := Go.Ground.data }], guard := none }) (v := ?_) rfl (by kernel_rfl) (by kernel_rfl) (by kernel_rfl) (fun _ _ _ h => h) (Or.inl ⟨by rfl, ?_⟩) hSw ?_
          rotate_left
          · (intro W hW; (try dsimp only at hW); go_simp; try with_reducible rfl)
          try simp only [Act.put, List.setIfInBounds_toArray, List.set_cons_zero, List.set_cons_succ]
          refine wpAnyH_ready (rs := [12]) (by kernel_rfl) (by simp) ?_
          refine AllReadyH.cons (o := { dst := some 53, op := Go.Op.call { callee := Go.Callee.value (Go.Operand.func 63), args := #[Go.Operand.tmp 52], argTypes := #[5] }, type := 5, pos := "ref.go:96", after := #[{ on := 11, ground := Go.Ground.data }, { on := 5, ground := Go.Ground.chain }], guard := none }) rfl (fun K hK => ?_) AllReadyH.nil
          rw [if_pos (by rfl)]
          go_simp
          refine (HVb.out _).mono ?_
          rintro e w'' ⟨rfl, rfl⟩
          refine hK.out _ _ trivial (fun hSw => ?_)
          clear hK
          try simp only [Act.put, List.setIfInBounds_toArray, List.set_cons_zero, List.set_cons_succ]
          refine wpAnyH_take (i := 13) (oi := { dst := some 54, op := Go.Op.binOp Go.BinOp.rem 5 (Go.Operand.tmp 53) (Go.Operand.const (Go.Value.int Go.IntKind.u8 16)) 5, type := 5, pos := "ref.go:96", after := #[{ on := 12, ground := Go.Ground.data }], guard := none }) (v := ?_) rfl (by kernel_rfl) (by kernel_rfl) (by kernel_rfl) (fun _ _ _ h => h) (Or.inl ⟨by rfl, ?_⟩) hSw ?_
          rotate_left
          · (intro W hW; (try dsimp only at hW); go_simp; try with_reducible rfl)
          try simp only [Act.put, List.setIfInBounds_toArray, List.set_cons_zero, List.set_cons_succ]
          refine wpAnyH_take (i := 14) (oi := { dst := some 55, op := Go.Op.binOp Go.BinOp.add 5 (Go.Operand.tmp 48) (Go.Operand.tmp 54) 5, type := 5, pos := "ref.go:96", after := #[{ on := 7, ground := Go.Ground.data }, { on := 13, ground := Go.Ground.data }], guard := none }) (v := ?_) rfl (by kernel_rfl) (by kernel_rfl) (by kernel_rfl) (fun _ _ _ h => h) (Or.inl ⟨by rfl, ?_⟩) hSw ?_
          rotate_left
          · (intro W hW; (try dsimp only at hW); go_simp; try with_reducible rfl)
          try simp only [Act.put, List.setIfInBounds_toArray, List.set_cons_zero, List.set_cons_succ]
          refine wpAnyH_ready (rs := [15]) (by kernel_rfl) (by simp) ?_
          refine AllReadyH.cons (o := { dst := some 56, op := Go.Op.buildSlice 57 1 #[(0, Go.Operand.tmp 55)], type := 57, pos := "ref.go:96", after := #[{ on := 14, ground := Go.Ground.data }], guard := none }) rfl (fun K hK => ?_) AllReadyH.nil
          rw [if_pos (by rfl)]
          go_simp
          refine hK.out _ _ trivial (fun hSw => ?_)
          clear hK
          try simp only [Act.put, List.setIfInBounds_toArray, List.set_cons_zero, List.set_cons_succ]
          refine wpAnyH_ready (rs := [16]) (by kernel_rfl) (by simp) ?_
          refine AllReadyH.cons (o := { dst := some 57, op := Go.Op.call { callee := Go.Callee.builtin Go.Builtin.append, args := #[Go.Operand.tmp 41, Go.Operand.tmp 56], argTypes := #[57, 57] }, type := 57, pos := "ref.go:96", after := #[{ on := 0, ground := Go.Ground.data }, { on := 15, ground := Go.Ground.data }, { on := 12, ground := Go.Ground.chain }], guard := none }) rfl (fun K hK => ?_) AllReadyH.nil
          rw [if_pos (by rfl)]
          refine wp_app (.tmp 41) (.tmp 56) 57 57 rfl w.heap.size 5 (.int .u8 0) 1 1 infoU8 Tryd.underlying57 rfl (by decide) (.slice A n c) (.slice (some ⟨wr.heap.size, 0, none⟩) 1 1) n 1 (u8s ys) (u8s [y]) rfl rfl ?_ ?_ ?_ ?_ ?_ ?_
          · (have h0 := HO.out.chg (((Chg.refl No wr).drew).alloc (.cells #[.int .u8 (y.toNat : Int)] 5)) (fun _ _ h => h); unfold OwnB at h0; rw [HL.out] at h0; exact h0)
          · exact Src.one' (w := wr.drew) Tryd.underlying57 _ _ (Chg.refl No _) rfl (u8s_one _)
          · omega
          · unfold maxLen; omega
          · simp; omega
          intro v' w' hown hg
          refine hK.out _ _ trivial (fun hSw => ?_)
          clear hK
          try simp only [Act.put, List.setIfInBounds_toArray, List.set_cons_zero, List.set_cons_succ]
          refine wpAnyH_ready (rs := [17]) (by kernel_rfl) (by simp) ?_
          refine AllReadyH.cons (o := { dst := some 4, op := Go.Op.assign (Go.Operand.tmp 57), type := 57, pos := "ref.go:96", after := #[{ on := 16, ground := Go.Ground.data }, { on := 16, ground := Go.Ground.chain }, { on := 0, ground := Go.Ground.phase }, { on := 1, ground := Go.Ground.phase }, { on := 2, ground := Go.Ground.phase }, { on := 3, ground := Go.Ground.phase }, { on := 4, ground := Go.Ground.phase }, { on := 5, ground := Go.Ground.phase }, { on := 6, ground := Go.Ground.phase }, { on := 7, ground := Go.Ground.phase }, { on := 8, ground := Go.Ground.phase }, { on := 9, ground := Go.Ground.phase }, { on := 10, ground := Go.Ground.phase }, { on := 11, ground := Go.Ground.phase }, { on := 12, ground := Go.Ground.phase }, { on := 13, ground := Go.Ground.phase }, { on := 14, ground := Go.Ground.phase }, { on := 15, ground := Go.Ground.phase }, { on := 16, ground := Go.Ground.phase }], guard := none }) rfl (fun K hK => ?_) AllReadyH.nil
          rw [if_pos (by rfl)]
          go_simp
          refine hK.out _ _ trivial (fun hSw => ?_)
          clear hK
          try simp only [Act.put, List.setIfInBounds_toArray, List.set_cons_zero, List.set_cons_succ]
          refine wpAnyH_done (by kernel_rfl) ?_ _
          have hX : OwnB w' w.heap.size v' (ys ++ [y]) := .of hown (by rw [u8s_append]; try rfl)
          obtain ⟨A', n', c', rfl, HL', HO'⟩ := hX.form
          have hn' : n' = n + 1 := by have h1 := HL'.out; have h2 := HL.out; rw [List.length_append] at h1; simp only [List.length_cons, List.length_nil] at h1; omega
          have HC1 : Hid (Chg No w w') := ((HC.out.drew).alloc _).grown hg (fun k hk => .inl (HO.out.block k hk).1)
          clear hX hown hg
          go_wp2
          go_roundw
          case rel => exact ⟨at' + 4, A', n', c', ys ++ [y], by omega, by omega, by go_num, rfl, by omega, HP1.out, HL'.out, HO'.out, HC1.out.size, HC1.out⟩
          case measure => simp only [intOf]; omega
        · have HP1 : Hid (rdF (s.data.toList.drop 1) = (ys ++ [if d = 110 then 10 else d]) ++ rdF (s.data.toList.drop (at' + 2))) := by
            rw [Hid, HP.out, HDD.out, rd_two d _ (by rw [List.length_drop, HS.out]; intro h; exact hxx ⟨h.1, by omega⟩)]
            simp
          clear HP HDD
          by_cases h120 : d = 120
          · have i3 : ¬ ((at' : Int) + 3 < (s.size : Int) - 1) := by
              have : ¬ (at' + 4 < s.size) := fun h => hxx ⟨h120, h⟩
              omega
            subst h120
            clear hxx
            rw [if_neg (by decide)] at HP1
            go_wp2_with (at_builtin; (refine wpList_app _ rfl (.tmp 62) (.tmp 64) 57 57 rfl w.heap.size 5 (.int .u8 0) 1 1 infoU8 Tryd.underlying57 rfl (by decide) (.slice A n c) (.slice (some ⟨wr.heap.size, 0, none⟩) 1 1) n 1 (u8s ys) [.int .u8 120] rfl rfl ?own ?src ?b1 ?b2 ?b3 ?_; (case own => exact OwnB.n (HO.out.alloc _) HL.out); (case src => exact Src.one Tryd.underlying57 _ rfl); (case b1 => omega); (case b2 => unfold maxLen; omega); (case b3 => simp; omega); intro v' w' hown hg; refine Hid.out ?_))
            refine Lib.hid ?_
            have hX : OwnB w' w.heap.size v' (ys ++ [120]) := .of hown (by rw [u8s_append]; try rfl)
            obtain ⟨A', n', c', rfl, HL', HO'⟩ := hX.form
            have hn' : n' = n + 1 := by have h1 := HL'.out; have h2 := HL.out; rw [List.length_append] at h1; simp only [List.length_cons, List.length_nil] at h1; omega
            have HC1 : Hid (Chg No w w') := (HC.out.alloc _).grown hg (fun k hk => .inl (HO.out.block k hk).1)
            clear hX hown hg
            go_wp2
            go_roundw
            case rel => exact ⟨at' + 2, A', n', c', ys ++ [120], by omega, by omega, by go_num, rfl, by omega, HP1.out, HL'.out, HO'.out, HC1.out.size, HC1.out⟩
            case measure => simp only [intOf]; omega
          have hb120 : ((d.toNat : Int) == 120) = false := beq_eq_false_iff_ne.2 (fun h => h120 (UInt8.toNat_inj.1 (Int.ofNat.inj h)))
          by_cases h110 : d = 110
          · subst h110
            clear hxx
            rw [if_pos rfl] at HP1
            go_wp2_with (at_builtin; (refine wpList_app _ rfl (.tmp 62) (.tmp 64) 57 57 rfl w.heap.size 5 (.int .u8 0) 1 1 infoU8 Tryd.underlying57 rfl (by decide) (.slice A n c) (.slice (some ⟨wr.heap.size, 0, none⟩) 1 1) n 1 (u8s ys) [.int .u8 10] rfl rfl ?own ?src ?b1 ?b2 ?b3 ?_; (case own => exact OwnB.n (HO.out.alloc _) HL.out); (case src => exact Src.one Tryd.underlying57 _ rfl); (case b1 => omega); (case b2 => unfold maxLen; omega); (case b3 => simp; omega); intro v' w' hown hg; refine Hid.out ?_))
            refine Lib.hid ?_
            have hX : OwnB w' w.heap.size v' (ys ++ [10]) := .of hown (by rw [u8s_append]; try rfl)
            obtain ⟨A', n', c', rfl, HL', HO'⟩ := hX.form
            have hn' : n' = n + 1 := by have h1 := HL'.out; have h2 := HL.out; rw [List.length_append] at h1; simp only [List.length_cons, List.length_nil] at h1; omega
            have HC1 : Hid (Chg No w w') := (HC.out.alloc _).grown hg (fun k hk => .inl (HO.out.block k hk).1)
            clear hX hown hg
            go_wp2
            go_roundw
            case rel => exact ⟨at' + 2, A', n', c', ys ++ [10], by omega, by omega, by go_num, rfl, by omega, HP1.out, HL'.out, HO'.out, HC1.out.size, HC1.out⟩
            case measure => simp only [intOf]; omega
          have hb110 : ((d.toNat : Int) == 110) = false := beq_eq_false_iff_ne.2 (fun h => h110 (UInt8.toNat_inj.1 (Int.ofNat.inj h)))
          rw [if_neg h110] at HP1
          clear hxx h120 h110
          go_wp2_with (at_builtin; (refine wpList_app _ rfl (.tmp 62) (.tmp 64) 57 57 rfl w.heap.size 5 (.int .u8 0) 1 1 infoU8 Tryd.underlying57 rfl (by decide) (.slice A n c) (.slice (some ⟨wr.heap.size, 0, none⟩) 1 1) n 1 (u8s ys) [.int .u8 (d.toNat : Int)] rfl rfl ?own ?src ?b1 ?b2 ?b3 ?_; (case own => exact OwnB.n (HO.out.alloc _) HL.out); (case src => exact Src.one Tryd.underlying57 _ rfl); (case b1 => omega); (case b2 => unfold maxLen; omega); (case b3 => simp; omega); intro v' w' hown hg; refine Hid.out ?_))
          refine Lib.hid ?_
          have hX : OwnB w' w.heap.size v' (ys ++ [d]) := .of hown (by rw [u8s_append]; try rfl)
          obtain ⟨A', n', c', rfl, HL', HO'⟩ := hX.form
          have hn' : n' = n + 1 := by have h1 := HL'.out; have h2 := HL.out; rw [List.length_append] at h1; simp only [List.length_cons, List.length_nil] at h1; omega
          have HC1 : Hid (Chg No w w') := (HC.out.alloc _).grown hg (fun k hk => .inl (HO.out.block k hk).1)
          clear hX hown hg
          go_wp2
          go_roundw
          case rel => exact ⟨at' + 2, A', n', c', ys ++ [d], by omega, by omega, by go_num, rfl, by omega, HP1.out, HL'.out, HO'.out, HC1.out.size, HC1.out⟩
          case measure => simp only [intOf]; omega
      · have i1 : ¬ ((at' : Int) < (s.size : Int) - 1) := by omega
        have HE : Hid (rdF (s.data.toList.drop 1) = ys) := by
          rw [Hid, HP.out]
          have hl : (s.data.toList.drop at').length ≤ 1 := by rw [List.length_drop, HS.out]; omega
          match hh : s.data.toList.drop at', hl with
          | [], _ => simp [rdF]
          | [a], _ => simp [rdF]
        have hcv := HO.out.bytes.text (P := Tryd.prog) Tryd.underlying57 Tryd.underlying5 Tryd.underlying9
        clear HP
        go_wp2_with (go_at_call 53; refine Hid.out ?_)
        refine Lib.hid ?_
        refine (rquote_calls wr (mkS ys) (by rw [mkS_size, HL.out]; omega)).mono ?_
        rintro e w2 ⟨rfl, hc2⟩
        have HC2 : Hid (Chg No w w2) := HC.out.no hc2
        have HO2 := HO.out.chg hc2 (fun _ _ x => x)
        have hcv2 := HO2.bytes.text (P := Tryd.prog) Tryd.underlying57 Tryd.underlying5 Tryd.underlying9
        clear hc2 HO2
        simp only [mkS_list]
        have HQ := Lib.hid (runq_eq s.data.toList)
        rw [HE.out] at HQ
        by_cases hq : quoteF ys = s.data.toList
        · have hb : ((mkS (quoteF ys)).toList == s.toList) = true := by rw [beq_iff_eq, Lib.toList_data, Lib.toList_data, mkS_list, hq]
          rw [if_pos hq] at HQ
          clear hq
          go_wp2
          go_ret2
          exact ⟨by rw [← HQ.out]; rfl, HC2.out⟩
        · have hb : ((mkS (quoteF ys)).toList == s.toList) = false := by rw [beq_eq_false_iff_ne, Lib.toList_data, Lib.toList_data, mkS_list]; exact hq
          rw [if_neg hq] at HQ
          clear hq
          go_wp2
          go_ret2
          exact ⟨by rw [← HQ.out]; rfl, HC2.out⟩
end Go.Proofs.YtcomcoolmabmgaaDoor

namespace Go.Proofs.YtcomcoolmabmgaaDoor
set_option linter.unnecessarySimpa false
open Go.RowKit
set_option linter.unusedVariables false
set_option linter.unusedSimpArgs false

theorem cells2 {w : World} {g : Nat} {a b : Value} {t : TypeId} (h : w.heap[g]? = some (.cells #[a, b] t (0, 0))) :
    w.cell? ⟨g, 0, none⟩ = some a ∧ w.cell? ⟨g, 1, none⟩ = some b ∧ w.frozen? ⟨g, 0, none⟩ = false ∧ w.frozen? ⟨g, 1, none⟩ = false := by
  simp [World.cell?, World.frozen?, h]
/-- A row of whatever, over a change that spares it. -/
theorem own_chg {S : Nat → Prop} {w w' : World} {base size n : Nat} {e : TypeId} {v : Value} {xs : List Value} (h : w.ownsRow base e size v n xs) (hc : Chg S w w') (hs : ∀ b, v.ownBlock = some b → ¬ S b) : w'.ownsRow base e size v n xs := by
  obtain ⟨h1, h2⟩ := h
  refine ⟨h1, h2.imp id ?_⟩
  rintro ⟨g, cap, cur, rfl, hg, hh, r⟩
  exact ⟨g, cap, cur, rfl, hg, hc.heap hh (hs g rfl), r⟩
theorem own_form {w : World} {base size n : Nat} {e : TypeId} {v : Value} {xs : List Value} (h : w.ownsRow base e size v n xs) : ∃ A c, v = .slice A n c := by
  obtain ⟨h1, h2⟩ := h
  rcases h2 with ⟨rfl, rfl⟩ | ⟨g, cap, cur, rfl, _⟩
  · exact ⟨none, 0, rfl⟩
  · exact ⟨_, _, rfl⟩
def strs (ws : List (List UInt8)) : List Value := ws.map fun l => .string (mkS l)
theorem infoStr : (Tryd.prog.info? 9).map (fun i => (i.zero, i.size, i.bytes)) = some (some (.string ⟨#[]⟩), 1, 16) := by kernel_rfl

/-- How many bytes the quoted word has behind its first quote. -/
def endL : List UInt8 → Option Nat
  | [] => none
  | c :: t => if c = 92 then (match t with
      | [] => none
      | _ :: u => (endL u).map (· + 2))
    else if c = 34 then some 1 else (endL t).map (· + 1)
theorem endL_esc (d : UInt8) (u : List UInt8) : endL (92 :: d :: u) = (endL u).map (· + 2) := by rw [endL.eq_def]; simp
theorem endL_esc1 : endL [92] = none := by rw [endL.eq_def]; simp
theorem endL_quote (u : List UInt8) : endL (34 :: u) = some 1 := by rw [endL.eq_def]; simp
theorem endL_any (c : UInt8) (u : List UInt8) (h1 : c ≠ 92) (h2 : c ≠ 34) : endL (c :: u) = (endL u).map (· + 1) := by
  conv => lhs; rw [endL.eq_def]
  simp only
  rw [if_neg h1, if_neg h2]
def endV (at' : Nat) : Option Nat → Int
  | none => -1
  | some k => ((at' + k : Nat) : Int)
theorem endV_map (a b : Nat) (o : Option Nat) : endV a (o.map (· + b)) = endV (a + b) o := by
  cases o with
  | none => rfl
  | some k => simp only [Option.map_some, endV]; omega

set_option maxHeartbeats 800000 in
theorem end_calls (w : World) (s : ByteArray) (hs : s.size ≤ 9223372036854775000) (p : Nat) (hp : p < s.size) :
    Calls Tryd.prog 36 #[.string s, .int .i64 (p : Int)] w fun e w' => e = .returned (.int .i64 (endV (p + 1) (endL (s.data.toList.drop (p + 1))))) ∧ Chg No w w' := by
  have HS := Lib.hid (size_list s)
  go_enter Tryd.func36, Tryd.ntmps36
  go_wp2
  go_loopw [5] (fun a wr => ∃ q : Nat, p + 1 ≤ q ∧ q ≤ s.size + 1 ∧ a = .int .i64 (q : Int) ∧ Hid (endV (p + 1) (endL (s.data.toList.drop (p + 1))) = endV q (endL (s.data.toList.drop q))) ∧ Hid (Chg No w wr)) (fun a _ => s.size + 2 - (intOf a).toNat)
  case atStart => exact ⟨p + 1, Nat.le_refl _, by omega, by go_num, rfl, Chg.refl No w⟩
  case round =>
    obtain ⟨q, hq1, hq2, rfl, HE, HC⟩ := hrel
    by_cases hlt : q < s.size
    · have i1 : (q : Int) < (s.size : Int) := by omega
      obtain ⟨x, hx⟩ : ∃ x, s[q] = x := ⟨_, rfl⟩
      have HD : Hid (s.data.toList.drop q = x :: s.data.toList.drop (q + 1)) := by
        rw [Hid, List.drop_eq_getElem_cons (by rw [HS.out]; omega), ← hx]; rfl
      by_cases h92 : x = 92
      · subst h92
        have HE1 : Hid (endV (p + 1) (endL (s.data.toList.drop (p + 1))) = endV (q + 2) (endL (s.data.toList.drop (q + 2)))) := by
          rw [Hid, HE.out, HD.out]
          cases hh : s.data.toList.drop (q + 1) with
          | nil =>
            have e : s.data.toList.drop (q + 2) = [] := by
              have := congrArg (List.drop 1) hh
              rw [List.drop_drop] at this
              simpa using this
            rw [e, endL_esc1]
            rfl
          | cons d u =>
            have e : s.data.toList.drop (q + 2) = u := by
              have := congrArg (List.drop 1) hh
              rw [List.drop_drop] at this
              simpa using this
            rw [e, endL_esc, endV_map]
        clear HE HD
        go_wp2
        go_roundw
        case rel => exact ⟨q + 2, by omega, by omega, by go_num, HE1.out, HC.out⟩
        case measure => simp only [intOf]; omega
      have hb92 : ((x.toNat : Int) == 92) = false := beq_eq_false_iff_ne.2 (fun h => h92 (UInt8.toNat_inj.1 (Int.ofNat.inj h)))
      by_cases h34 : x = 34
      · subst h34
        have HE1 : Hid (endV (p + 1) (endL (s.data.toList.drop (p + 1))) = (q : Int) + 1) := by
          rw [Hid, HE.out, HD.out, endL_quote]
          simp only [endV]; omega
        clear HE HD
        go_wp2
        go_ret
        exact ⟨by rw [HE1.out]; rfl, HC.out⟩
      have hb34 : ((x.toNat : Int) == 34) = false := beq_eq_false_iff_ne.2 (fun h => h34 (UInt8.toNat_inj.1 (Int.ofNat.inj h)))
      have HE1 : Hid (endV (p + 1) (endL (s.data.toList.drop (p + 1))) = endV (q + 1) (endL (s.data.toList.drop (q + 1)))) := by
        rw [Hid, HE.out, HD.out, endL_any x _ h92 h34, endV_map]
      clear HE HD h92 h34
      go_wp2
      go_roundw
      case rel => exact ⟨q + 1, by omega, by omega, by go_num, HE1.out, HC.out⟩
      case measure => simp only [intOf]; omega
    · have i1 : ¬ ((q : Int) < (s.size : Int)) := by omega
      have HE1 : Hid (endV (p + 1) (endL (s.data.toList.drop (p + 1))) = -1) := by
        rw [Hid, HE.out, List.drop_of_length_le (by rw [HS.out]; omega)]
        rfl
      clear HE
      go_wp2
      go_ret
      exact ⟨by rw [HE1.out]; rfl, HC.out⟩

theorem endL_pos : ∀ (n : Nat) (l : List UInt8), l.length ≤ n → ∀ k, endL l = some k → 1 ≤ k ∧ k ≤ l.length := by
  intro n
  induction n with
  | zero =>
    intro l hl k h
    have : l = [] := List.eq_nil_of_length_eq_zero (by omega)
    subst this
    simp [endL] at h
  | succ n ih =>
    intro l hl k h
    match l, hl, h with
    | [], _, h => simp [endL] at h
    | c :: t, hl, h =>
      simp only [List.length_cons] at hl ⊢
      by_cases h1 : c = 92
      · subst h1
        match t, hl, h with
        | [], _, h => rw [endL_esc1] at h; cases h
        | d :: u, hl, h =>
          rw [endL_esc] at h
          obtain ⟨a, ha, rfl⟩ := Option.map_eq_some_iff.1 h
          simp only [List.length_cons] at hl ⊢
          have := ih u (by omega) a ha
          omega
      · by_cases h2 : c = 34
        · subst h2; rw [endL_quote] at h; cases h; omega
        · rw [endL_any c t h1 h2] at h
          obtain ⟨a, ha, rfl⟩ := Option.map_eq_some_iff.1 h
          have := ih t (by omega) a ha
          omega

/-- A line's words, or the place of the first that is wrong. -/
def wordsF (p : Nat) (acc : List (List UInt8)) : List UInt8 → Nat ⊕ List (List UInt8)
  | [] => .inr acc
  | c :: t =>
    if c = 35 then .inr acc
    else if c = 32 then wordsF (p + 1) acc t
    else if c = 34 then match endL t with
      | none => .inl p
      | some k => if (t.drop k).head?.getD 32 ≠ 32 then .inl p else match unqF (c :: t.take k) with
        | none => .inl p
        | some x => wordsF (p + 1 + k) (acc ++ [x]) (t.drop k)
    else if plainF (c :: t.takeWhile (· ≠ 32)) then wordsF (p + 1 + (t.takeWhile (· ≠ 32)).length) (acc ++ [c :: t.takeWhile (· ≠ 32)]) (t.drop (t.takeWhile (· ≠ 32)).length) else .inl p
termination_by l => l.length
decreasing_by all_goals simp; try omega
end Go.Proofs.YtcomcoolmabmgaaDoor

