/-
  Rules: path, bare, read; the reference's path, rule.
-/
import Derived.Test.YtcomcoolmabmgaaDoorRl1
import Derived.Laws.StructEq
namespace Go.Proofs.YtcomcoolmabmgaaDoor
open Go.RowKit
set_option linter.unusedVariables false
set_option linter.unusedSimpArgs false
set_option maxRecDepth 100000

theorem spot_guard (w : World) (x y : Operand) (xs ys : Array Value) : (eqGuard .eql 26 x y (.agg xs) (.agg ys)).run Tryd.prog w = .ok () w := run_eqGuard_agg w _ _ _ _ _ _ (by kernel_rfl)
theorem spot_eq (w : World) (a b c d : Int) : (binOp .eql 26 (.agg #[.int .i64 a, .int .i64 b]) (.agg #[.int .i64 c, .int .i64 d])).run Tryd.prog w = .ok (.bool (a == c && b == d)) w := by
  rw [run_eql_struct, run_equalIn_agg w _ _ _ _ Tryd.underlying26 (by kernel_rfl)]
  go_simp
  by_cases h1 : a = c
  · by_cases h2 : b = d
    · simp [h1, h2]
    · simp [h1, h2]
  · simp [h1]
theorem rpath_calls (w : World) (p : List UInt8) (hp : p.length ≤ 9223372036854775807) : Calls Tryd.prog 30 #[.string (mkS p)] w fun e w' => e = .returned (.bool (isP p)) ∧ Chg No w w' := by
  have eg := fun w x y xs ys => spot_guard w x y xs ys
  have en := fun w a b c d => spot_eq w a b c d
  have HP := Lib.hid (path_calls w (mkS p) (by rw [mkS_size]; exact hp))
  rw [mkS_list] at HP
  have HQ : Hid (((pathF p).1 == 0 && (pathF p).2 == 0) = isP p) := pathq p
  obtain ⟨⟨a, b⟩, h⟩ : ∃ z, pathF p = z := ⟨_, rfl⟩
  rw [h] at HP HQ
  unfold spotV at HP
  clear h
  go_enter Tryd.func30, Tryd.ntmps30
  go_wp2_with fail
  refine HP.out.mono ?_
  rintro e w1 ⟨rfl, hc1⟩
  go_wp2
  go_ret
  exact ⟨by rw [← HQ.out]; rfl, hc1⟩
theorem wrong_calls (w : World) (p : List UInt8) (hp : p.length ≤ 9223372036854775807) : Calls Tryd.prog 29 #[.string (mkS p)] w fun e w' => e = .returned (.bool (!isP p)) ∧ Chg No w w' := by
  have HP := Lib.hid (refis_calls w (mkS p) (by rw [mkS_size]; exact hp))
  rw [mkS_list] at HP
  go_enter Tryd.func29, Tryd.ntmps29
  go_wp2_with fail
  refine HP.out.mono ?_
  rintro e w1 ⟨rfl, hc1⟩
  go_wp2
  go_ret
  exact ⟨rfl, hc1⟩
theorem bare_calls (w : World) (p : List UInt8) (hp : p.length ≤ 9223372036854775807) : Calls Tryd.prog 46 #[.string (mkS p)] w fun e w' => e = .returned (.tuple #[.string (mkS (bareF p).1), .bool (bareF p).2]) ∧ Chg No w w' := by
  by_cases h1 : p = [47]
  · have HB : Hid (bareF p = ([], true)) := if_pos h1
    have n1 : ((mkS p).toList == [47]) = true := by rw [Lib.toList_data, mkS_list, h1]; rfl
    clear h1
    go_enter Tryd.func46, Tryd.ntmps46
    go_wp2
    go_ret2
    exact ⟨by rw [HB.out]; rfl, Chg.refl _ _⟩
  · have HB : Hid (bareF p = (p, decide (p ≠ []) && isP p)) := if_neg h1
    have n1 : ((mkS p).toList == [47]) = false := by rw [Lib.toList_data, mkS_list]; exact beq_eq_false_iff_ne.2 h1
    clear h1
    by_cases h2 : p = []
    · have HB2 : Hid (bareF p = (p, false)) := by rw [Hid, HB.out, h2]; rfl
      have n2 : ((mkS p).toList == []) = true := by rw [Lib.toList_data, mkS_list, h2]; rfl
      have n3 : (mkS p).toList = [] := by rw [Lib.toList_data, mkS_list, h2]
      have n4 : (mkS p).toList.isEmpty = true := by rw [n3]; rfl
      clear h2
      go_enter Tryd.func46, Tryd.ntmps46
      go_wp2
      go_ret2
      exact ⟨by rw [HB2.out]; rfl, Chg.refl _ _⟩
    · have HB2 : Hid (bareF p = (p, isP p)) := by rw [Hid, HB.out, decide_eq_true h2]; rfl
      have n2 : ((mkS p).toList == []) = false := bytes_ne (by rw [mkS_list]; exact h2)
      have n4 : (mkS p).toList.isEmpty = false := by rw [Lib.toList_data, mkS_list]; cases p with | nil => exact absurd rfl h2 | cons => rfl
      have n3 : ¬ (mkS p).toList = [] := by rw [Lib.toList_data, mkS_list]; exact h2
      clear h2
      have HP := Lib.hid (rpath_calls w p hp)
      go_enter Tryd.func46, Tryd.ntmps46
      go_wp2_with fail
      refine HP.out.mono ?_
      rintro e w1 ⟨rfl, hc1⟩
      go_wp2
      go_ret2
      exact ⟨by rw [HB2.out]; first | rfl | simp | (rw [Bool.not_not]; rfl), hc1⟩
theorem refbare_calls (w : World) (p : List UInt8) (hp : p.length ≤ 9223372036854775807) : Calls Tryd.prog 49 #[.string (mkS p)] w fun e w' => e = .returned (.tuple #[.string (mkS (bareF p).1), .bool (bareF p).2]) ∧ Chg No w w' := by
  by_cases h1 : p = [47]
  · have HB : Hid (bareF p = ([], true)) := if_pos h1
    have n1 : ((mkS p).toList == [47]) = true := by rw [Lib.toList_data, mkS_list, h1]; rfl
    clear h1
    go_enter Tryd.func49, Tryd.ntmps49
    go_wp2
    go_ret2
    exact ⟨by rw [HB.out]; rfl, Chg.refl _ _⟩
  · have HB : Hid (bareF p = (p, decide (p ≠ []) && isP p)) := if_neg h1
    have n1 : ((mkS p).toList == [47]) = false := by rw [Lib.toList_data, mkS_list]; exact beq_eq_false_iff_ne.2 h1
    clear h1
    by_cases h2 : p = []
    · have HB2 : Hid (bareF p = (p, false)) := by rw [Hid, HB.out, h2]; rfl
      have n2 : ((mkS p).toList == []) = true := by rw [Lib.toList_data, mkS_list, h2]; rfl
      have n3 : (mkS p).toList = [] := by rw [Lib.toList_data, mkS_list, h2]
      have n4 : (mkS p).toList.isEmpty = true := by rw [n3]; rfl
      clear h2
      go_enter Tryd.func49, Tryd.ntmps49
      go_wp2
      go_ret2
      exact ⟨by rw [HB2.out]; rfl, Chg.refl _ _⟩
    · have HB2 : Hid (bareF p = (p, isP p)) := by rw [Hid, HB.out, decide_eq_true h2]; rfl
      have n2 : ((mkS p).toList == []) = false := bytes_ne (by rw [mkS_list]; exact h2)
      have n4 : (mkS p).toList.isEmpty = false := by rw [Lib.toList_data, mkS_list]; cases p with | nil => exact absurd rfl h2 | cons => rfl
      have n3 : ¬ (mkS p).toList = [] := by rw [Lib.toList_data, mkS_list]; exact h2
      clear h2
      have HP := Lib.hid (wrong_calls w p hp)
      go_enter Tryd.func49, Tryd.ntmps49
      go_wp2_with fail
      refine HP.out.mono ?_
      rintro e w1 ⟨rfl, hc1⟩
      go_wp2
      go_ret2
      exact ⟨by rw [HB2.out]; first | rfl | simp | (rw [Bool.not_not]; rfl), hc1⟩
/-- What read answers. -/
def ReadR (e : Ending) (ws : List (List UInt8)) : Prop := ∃ (x : Rul) (ok : Bool), e = .returned (.tuple #[rulV x, .bool ok]) ∧ readR ws = if ok then some x else none
theorem heap3 {W : World} {g : Nat} {a b c : Value} {t : TypeId} {fz : Nat × Nat} (h : W.heap[g]? = some (.cells #[a, b, c] t fz)) : W.cell? ⟨g, 0, none⟩ = some a ∧ W.cell? ⟨g, 1, none⟩ = some b ∧ W.cell? ⟨g, 2, none⟩ = some c := ⟨cellAt h 0 _ rfl, cellAt h 1 _ rfl, cellAt h 2 _ rfl⟩
theorem heap_set {w : World} {g : Nat} {cs : Array Value} {t : TypeId} {fz : Nat × Nat} (h : w.heap[g]? = some (.cells cs t fz)) (i : Nat) (u : Value) : (w.setCell ⟨g, i, none⟩ u).heap[g]? = some (.cells (cs.setIfInBounds i u) t fz) := by
  unfold World.setCell
  simp [Array.getElem?_modify, h]
theorem readR_other {ws : List (List UInt8)} (h2 : ws.length ≠ 2) (h3 : ws.length ≠ 3) : readR ws = none := by
  match ws with
  | [] => rfl
  | [_] => rfl
  | [_, _] => exact absurd rfl h2
  | [_, _, _] => exact absurd rfl h3
  | _ :: _ :: _ :: _ :: _ => rfl
theorem two_new (w : World) (o1 o2 : Obj) : ((w.alloc o1).alloc o2).heap[w.heap.size]? = some o1 ∧ ((w.alloc o1).alloc o2).heap[w.heap.size + 1]? = some o2 := by
  refine ⟨((Chg.refl No (w.alloc o1)).alloc o2).heap (heap_alloc_new w o1) (fun x => x), ?_⟩
  have := heap_alloc_new (w.alloc o1) o2
  rwa [World.size_alloc] at this
theorem kw_ne : kw 1 ≠ kw 2 ∧ kw 1 ≠ kw 3 ∧ kw 2 ≠ kw 3 := by decide
set_option maxHeartbeats 6400000 in
theorem read_calls (w : World) (A : Option Addr) (n c : Nat) (ws : List (List UInt8)) (h : Sl strv w (.slice A n c) ws) (hn : 1 ≤ n) (hn2 : n ≤ 9223372036854775807) (hx : ∀ x ∈ ws, x.length ≤ 9223372036854775807) :
    Calls Tryd.prog 23 #[.slice A n c] w fun e w' => ReadR e ws ∧ Chg No w w' := by
  have hl := h.len
  obtain ⟨b, o, rfl, hcell⟩ := h.addr (by omega)
  have HX := Lib.hid hx
  have HCELL : Hid (∀ k (hk : k < ws.length) (o1 o2 : Obj), ((w.alloc o1).alloc o2).cell? ⟨b, o + k, none⟩ = some (.string (mkS ws[k]))) := fun k hk o1 o2 => (((Chg.refl No w).alloc o1).alloc o2).cell (hcell k hk) (fun x => x)
  have HCELLW : Hid (∀ k (hk : k < ws.length) W, Chg No w W → W.cell? ⟨b, o + k, none⟩ = some (.string (mkS ws[k]))) := fun k hk W hW => hW.cell (hcell k hk) (fun x => x)
  have HBLT : Hid (b < w.heap.size) := World.block_lt_of_cell? _ _ (hcell 0 (by omega))
  obtain ⟨a, r, hwa⟩ : ∃ a r, ws = a :: r := by
    cases ws with
    | nil => simp at hl; omega
    | cons a r => exact ⟨a, r, rfl⟩
  have hw0 : ∀ o1 o2 : Obj, ((w.alloc o1).alloc o2).cell? ⟨b, o, none⟩ = some (.string (mkS a)) := fun o1 o2 => by
    have := HCELL.out 0 (by omega) o1 o2
    simpa [hwa] using this
  clear hcell h hx
  by_cases h1 : a = [107, 101, 101, 112]
  · have n1 : ((mkS a).toList == [107, 101, 101, 112]) = true := by rw [Lib.toList_data, mkS_list, h1]; rfl
    have n2 : ((mkS a).toList == [100, 114, 111, 112]) = false := by rw [Lib.toList_data, mkS_list, h1]; rfl
    have n3 : ((mkS a).toList == [109, 111, 118, 101]) = false := by rw [Lib.toList_data, mkS_list, h1]; rfl
    by_cases hnw : n = 2
    · subst hnw
      obtain ⟨a1, hws⟩ : ∃ a1, ws = [a, a1] := by
        match ws, hwa, hl with
        | x :: [y], hwa, hl => exact ⟨y, by cases hwa; rfl⟩
        | [x], _, hl => simp at hl
        | x :: y :: z :: r, _, hl => simp at hl
      have HB0 := Lib.hid fun W => bare_calls W a1 (HX.out a1 (by rw [hws]; simp))
      obtain ⟨⟨f0, o0⟩, hb0⟩ : ∃ z, bareF a1 = z := ⟨_, rfl⟩
      rw [hb0] at HB0
      have hw1 : ∀ o1 o2 : Obj, ((w.alloc o1).alloc o2).cell? ⟨b, o + 1, none⟩ = some (.string (mkS a1)) := fun o1 o2 => by
        have := HCELL.out 1 (by omega) o1 o2
        simpa [hws] using this
      have HN : Hid (readR ws = if o0 then some (1, f0, []) else none) := by rw [Hid, hws, h1]; simp only [readR, hb0]; cases o0 <;> simp [kw]
      clear HX HCELL hwa hws hb0 h1 hl
      clear HCELLW
      generalize mkS a = sa at *
      generalize mkS a1 = sa1 at *
      cases o0 with
      | false =>
        have HN : Hid (readR ws = none) := HN.out
        go_enter Tryd.func23, Tryd.ntmps23
        go_wp2_with fail
        refine (HB0.out _).mono ?_
        rintro e w1 ⟨rfl, hc1⟩
        have HR2a := Lib.hid (hc1.heap (two_new w _ _).1 (fun x => x))
        have HR4a := Lib.hid (hc1.heap (two_new w _ _).2 (fun x => x))
        have HC1 : Hid (Chg No w w1) := (((Chg.refl No w).alloc _).alloc _).no hc1
        have hz1 : w.heap.size + 2 ≤ w1.heap.size := by have := hc1.size; simpa using this
        clear hc1
        obtain ⟨q0, q1, q2⟩ := heap3 HR2a.out
        obtain ⟨r0, r1, r2⟩ := heap3 HR4a.out
        have qf := fun i => frzAt HR2a.out i
        have rf := fun i => frzAt HR4a.out i
        have HRn : Hid ((w1.setCell ⟨w.heap.size + 1, 1, none⟩ (.string (mkS f0))).heap[w.heap.size]? = some (.cells #[.int .i64 0, .string ⟨#[]⟩, .string ⟨#[]⟩] 32)) := (Chg.put w1 (w.heap.size + 1) 1 _).heap HR2a.out (fun h => by have h : w.heap.size = w.heap.size + 1 := h; omega)
        have e0 := World.cell?_setCell_same (w1.setCell ⟨w.heap.size + 1, 1, none⟩ (.string (mkS f0))) ⟨w.heap.size, 0, none⟩ (.int .i64 1) (cellAt HRn.out 0 _ rfl)
        have e1 := World.cell?_setCell_same ((w1.setCell ⟨w.heap.size + 1, 1, none⟩ (.string (mkS f0))).setCell ⟨w.heap.size, 0, none⟩ (.int .i64 1)) ⟨w.heap.size, 1, none⟩ (.string (mkS f0)) (cellAt (heap_set HRn.out 0 (.int .i64 1)) 1 _ rfl)
        have e2 := World.cell?_setCell_same (((w1.setCell ⟨w.heap.size + 1, 1, none⟩ (.string (mkS f0))).setCell ⟨w.heap.size, 0, none⟩ (.int .i64 1)).setCell ⟨w.heap.size, 1, none⟩ (.string (mkS f0))) ⟨w.heap.size, 2, none⟩ (.string ⟨#[]⟩) (cellAt (heap_set (heap_set HRn.out 0 (.int .i64 1)) 1 (.string (mkS f0))) 2 _ rfl)
        go_wp2
        exact bodyPost_ret (v := .tuple #[rulV (1, f0, []), .bool false]) (by first | (simp [results, Tryd.results23, go_sem, rulV, mkS_nil, *]; done) | (simp [results, Tryd.results23, go_sem, rulV, mkS_nil]; done)) rfl ⟨⟨(1, f0, []), false, rfl, HN.out⟩, Chg.setCell (Chg.setCell (Chg.setCell (Chg.setCell HC1.out (.inl (show w.heap.size ≤ w.heap.size + 1 by omega)) _) (.inl (show w.heap.size ≤ w.heap.size by omega)) _) (.inl (show w.heap.size ≤ w.heap.size by omega)) _) (.inl (show w.heap.size ≤ w.heap.size by omega)) _⟩
      | true =>
        have HN : Hid (readR ws = some (1, f0, [])) := HN.out
        go_enter Tryd.func23, Tryd.ntmps23
        go_wp2_with fail
        refine (HB0.out _).mono ?_
        rintro e w1 ⟨rfl, hc1⟩
        have HR2a := Lib.hid (hc1.heap (two_new w _ _).1 (fun x => x))
        have HR4a := Lib.hid (hc1.heap (two_new w _ _).2 (fun x => x))
        have HC1 : Hid (Chg No w w1) := (((Chg.refl No w).alloc _).alloc _).no hc1
        have hz1 : w.heap.size + 2 ≤ w1.heap.size := by have := hc1.size; simpa using this
        clear hc1
        obtain ⟨q0, q1, q2⟩ := heap3 HR2a.out
        obtain ⟨r0, r1, r2⟩ := heap3 HR4a.out
        have qf := fun i => frzAt HR2a.out i
        have rf := fun i => frzAt HR4a.out i
        have HRn : Hid ((w1.setCell ⟨w.heap.size + 1, 1, none⟩ (.string (mkS f0))).heap[w.heap.size]? = some (.cells #[.int .i64 0, .string ⟨#[]⟩, .string ⟨#[]⟩] 32)) := (Chg.put w1 (w.heap.size + 1) 1 _).heap HR2a.out (fun h => by have h : w.heap.size = w.heap.size + 1 := h; omega)
        have e0 := World.cell?_setCell_same (w1.setCell ⟨w.heap.size + 1, 1, none⟩ (.string (mkS f0))) ⟨w.heap.size, 0, none⟩ (.int .i64 1) (cellAt HRn.out 0 _ rfl)
        have e1 := World.cell?_setCell_same ((w1.setCell ⟨w.heap.size + 1, 1, none⟩ (.string (mkS f0))).setCell ⟨w.heap.size, 0, none⟩ (.int .i64 1)) ⟨w.heap.size, 1, none⟩ (.string (mkS f0)) (cellAt (heap_set HRn.out 0 (.int .i64 1)) 1 _ rfl)
        have e2 := World.cell?_setCell_same (((w1.setCell ⟨w.heap.size + 1, 1, none⟩ (.string (mkS f0))).setCell ⟨w.heap.size, 0, none⟩ (.int .i64 1)).setCell ⟨w.heap.size, 1, none⟩ (.string (mkS f0))) ⟨w.heap.size, 2, none⟩ (.string ⟨#[]⟩) (cellAt (heap_set (heap_set HRn.out 0 (.int .i64 1)) 1 (.string (mkS f0))) 2 _ rfl)
        go_wp2
        exact bodyPost_ret (v := .tuple #[rulV (1, f0, []), .bool true]) (by first | (simp [results, Tryd.results23, go_sem, rulV, mkS_nil, *]; done) | (simp [results, Tryd.results23, go_sem, rulV, mkS_nil]; done)) rfl ⟨⟨(1, f0, []), true, rfl, HN.out⟩, Chg.setCell (Chg.setCell (Chg.setCell (Chg.setCell HC1.out (.inl (show w.heap.size ≤ w.heap.size + 1 by omega)) _) (.inl (show w.heap.size ≤ w.heap.size by omega)) _) (.inl (show w.heap.size ≤ w.heap.size by omega)) _) (.inl (show w.heap.size ≤ w.heap.size by omega)) _⟩
    · have hni : ((n : Int) != 2) = true := by rw [bne_iff_ne]; omega
      have hni2 : ((n : Int) == 2) = false := by rw [beq_eq_false_iff_ne]; omega
      have HN : Hid (readR ws = none) := by
        rw [Hid, hwa, h1]
        match r, hwa with
        | [], _ => rfl
        | [y], hwa => exact absurd (by rw [← hl, hwa]; rfl) hnw
        | [y, z], _ => simp [readR, kw]
        | y :: z :: u :: v, _ => rfl

      clear HX HCELL HCELLW hwa h1
      generalize mkS a = sa at *
      go_enter Tryd.func23, Tryd.ntmps23
      go_wp2
      exact bodyPost_ret (v := .tuple #[rulV (1, [], []), .bool false]) (by first | (simp [results, Tryd.results23, go_sem, rulV, mkS_nil, *]; done) | (simp [results, Tryd.results23, go_sem, rulV, mkS_nil]; done)) rfl ⟨⟨(1, [], []), false, rfl, HN.out⟩, ((Chg.refl No w).alloc _).alloc _⟩
 
  · by_cases h2 : a = [100, 114, 111, 112]
    · have n1 : ((mkS a).toList == [107, 101, 101, 112]) = false := by rw [Lib.toList_data, mkS_list, h2]; rfl
      have n2 : ((mkS a).toList == [100, 114, 111, 112]) = true := by rw [Lib.toList_data, mkS_list, h2]; rfl
      have n3 : ((mkS a).toList == [109, 111, 118, 101]) = false := by rw [Lib.toList_data, mkS_list, h2]; rfl
      by_cases hnw : n = 2
      · subst hnw
        obtain ⟨a1, hws⟩ : ∃ a1, ws = [a, a1] := by
          match ws, hwa, hl with
          | x :: [y], hwa, hl => exact ⟨y, by cases hwa; rfl⟩
          | [x], _, hl => simp at hl
          | x :: y :: z :: r, _, hl => simp at hl
        have HB0 := Lib.hid fun W => bare_calls W a1 (HX.out a1 (by rw [hws]; simp))
        obtain ⟨⟨f0, o0⟩, hb0⟩ : ∃ z, bareF a1 = z := ⟨_, rfl⟩
        rw [hb0] at HB0
        have hw1 : ∀ o1 o2 : Obj, ((w.alloc o1).alloc o2).cell? ⟨b, o + 1, none⟩ = some (.string (mkS a1)) := fun o1 o2 => by
          have := HCELL.out 1 (by omega) o1 o2
          simpa [hws] using this
        have HN : Hid (readR ws = if o0 then some (2, f0, []) else none) := by rw [Hid, hws, h2]; simp only [readR, hb0]; cases o0 <;> simp [kw]
        clear HX HCELL hwa hws hb0 h1 h2 hl
        clear HCELLW
        generalize mkS a = sa at *
        generalize mkS a1 = sa1 at *
        cases o0 with
        | false =>
          have HN : Hid (readR ws = none) := HN.out
          go_enter Tryd.func23, Tryd.ntmps23
          go_wp2_with fail
          refine (HB0.out _).mono ?_
          rintro e w1 ⟨rfl, hc1⟩
          have HR2a := Lib.hid (hc1.heap (two_new w _ _).1 (fun x => x))
          have HR4a := Lib.hid (hc1.heap (two_new w _ _).2 (fun x => x))
          have HC1 : Hid (Chg No w w1) := (((Chg.refl No w).alloc _).alloc _).no hc1
          have hz1 : w.heap.size + 2 ≤ w1.heap.size := by have := hc1.size; simpa using this
          clear hc1
          obtain ⟨q0, q1, q2⟩ := heap3 HR2a.out
          obtain ⟨r0, r1, r2⟩ := heap3 HR4a.out
          have qf := fun i => frzAt HR2a.out i
          have rf := fun i => frzAt HR4a.out i
          have HRn : Hid ((w1.setCell ⟨w.heap.size + 1, 1, none⟩ (.string (mkS f0))).heap[w.heap.size]? = some (.cells #[.int .i64 0, .string ⟨#[]⟩, .string ⟨#[]⟩] 32)) := (Chg.put w1 (w.heap.size + 1) 1 _).heap HR2a.out (fun h => by have h : w.heap.size = w.heap.size + 1 := h; omega)
          have e0 := World.cell?_setCell_same (w1.setCell ⟨w.heap.size + 1, 1, none⟩ (.string (mkS f0))) ⟨w.heap.size, 0, none⟩ (.int .i64 2) (cellAt HRn.out 0 _ rfl)
          have e1 := World.cell?_setCell_same ((w1.setCell ⟨w.heap.size + 1, 1, none⟩ (.string (mkS f0))).setCell ⟨w.heap.size, 0, none⟩ (.int .i64 2)) ⟨w.heap.size, 1, none⟩ (.string (mkS f0)) (cellAt (heap_set HRn.out 0 (.int .i64 2)) 1 _ rfl)
          have e2 := World.cell?_setCell_same (((w1.setCell ⟨w.heap.size + 1, 1, none⟩ (.string (mkS f0))).setCell ⟨w.heap.size, 0, none⟩ (.int .i64 2)).setCell ⟨w.heap.size, 1, none⟩ (.string (mkS f0))) ⟨w.heap.size, 2, none⟩ (.string ⟨#[]⟩) (cellAt (heap_set (heap_set HRn.out 0 (.int .i64 2)) 1 (.string (mkS f0))) 2 _ rfl)
          go_wp2
          exact bodyPost_ret (v := .tuple #[rulV (2, f0, []), .bool false]) (by first | (simp [results, Tryd.results23, go_sem, rulV, mkS_nil, *]; done) | (simp [results, Tryd.results23, go_sem, rulV, mkS_nil]; done)) rfl ⟨⟨(2, f0, []), false, rfl, HN.out⟩, Chg.setCell (Chg.setCell (Chg.setCell (Chg.setCell HC1.out (.inl (show w.heap.size ≤ w.heap.size + 1 by omega)) _) (.inl (show w.heap.size ≤ w.heap.size by omega)) _) (.inl (show w.heap.size ≤ w.heap.size by omega)) _) (.inl (show w.heap.size ≤ w.heap.size by omega)) _⟩
        | true =>
          have HN : Hid (readR ws = some (2, f0, [])) := HN.out
          go_enter Tryd.func23, Tryd.ntmps23
          go_wp2_with fail
          refine (HB0.out _).mono ?_
          rintro e w1 ⟨rfl, hc1⟩
          have HR2a := Lib.hid (hc1.heap (two_new w _ _).1 (fun x => x))
          have HR4a := Lib.hid (hc1.heap (two_new w _ _).2 (fun x => x))
          have HC1 : Hid (Chg No w w1) := (((Chg.refl No w).alloc _).alloc _).no hc1
          have hz1 : w.heap.size + 2 ≤ w1.heap.size := by have := hc1.size; simpa using this
          clear hc1
          obtain ⟨q0, q1, q2⟩ := heap3 HR2a.out
          obtain ⟨r0, r1, r2⟩ := heap3 HR4a.out
          have qf := fun i => frzAt HR2a.out i
          have rf := fun i => frzAt HR4a.out i
          have HRn : Hid ((w1.setCell ⟨w.heap.size + 1, 1, none⟩ (.string (mkS f0))).heap[w.heap.size]? = some (.cells #[.int .i64 0, .string ⟨#[]⟩, .string ⟨#[]⟩] 32)) := (Chg.put w1 (w.heap.size + 1) 1 _).heap HR2a.out (fun h => by have h : w.heap.size = w.heap.size + 1 := h; omega)
          have e0 := World.cell?_setCell_same (w1.setCell ⟨w.heap.size + 1, 1, none⟩ (.string (mkS f0))) ⟨w.heap.size, 0, none⟩ (.int .i64 2) (cellAt HRn.out 0 _ rfl)
          have e1 := World.cell?_setCell_same ((w1.setCell ⟨w.heap.size + 1, 1, none⟩ (.string (mkS f0))).setCell ⟨w.heap.size, 0, none⟩ (.int .i64 2)) ⟨w.heap.size, 1, none⟩ (.string (mkS f0)) (cellAt (heap_set HRn.out 0 (.int .i64 2)) 1 _ rfl)
          have e2 := World.cell?_setCell_same (((w1.setCell ⟨w.heap.size + 1, 1, none⟩ (.string (mkS f0))).setCell ⟨w.heap.size, 0, none⟩ (.int .i64 2)).setCell ⟨w.heap.size, 1, none⟩ (.string (mkS f0))) ⟨w.heap.size, 2, none⟩ (.string ⟨#[]⟩) (cellAt (heap_set (heap_set HRn.out 0 (.int .i64 2)) 1 (.string (mkS f0))) 2 _ rfl)
          go_wp2
          exact bodyPost_ret (v := .tuple #[rulV (2, f0, []), .bool true]) (by first | (simp [results, Tryd.results23, go_sem, rulV, mkS_nil, *]; done) | (simp [results, Tryd.results23, go_sem, rulV, mkS_nil]; done)) rfl ⟨⟨(2, f0, []), true, rfl, HN.out⟩, Chg.setCell (Chg.setCell (Chg.setCell (Chg.setCell HC1.out (.inl (show w.heap.size ≤ w.heap.size + 1 by omega)) _) (.inl (show w.heap.size ≤ w.heap.size by omega)) _) (.inl (show w.heap.size ≤ w.heap.size by omega)) _) (.inl (show w.heap.size ≤ w.heap.size by omega)) _⟩
      · have hni : ((n : Int) != 2) = true := by rw [bne_iff_ne]; omega
        have hni2 : ((n : Int) == 2) = false := by rw [beq_eq_false_iff_ne]; omega
        have HN : Hid (readR ws = none) := by
          rw [Hid, hwa, h2]
          match r, hwa with
          | [], _ => rfl
          | [y], hwa => exact absurd (by rw [← hl, hwa]; rfl) hnw
          | [y, z], _ => simp [readR, kw]
          | y :: z :: u :: v, _ => rfl

        clear HX HCELL HCELLW hwa h1 h2
        generalize mkS a = sa at *
        go_enter Tryd.func23, Tryd.ntmps23
        go_wp2
        exact bodyPost_ret (v := .tuple #[rulV (2, [], []), .bool false]) (by first | (simp [results, Tryd.results23, go_sem, rulV, mkS_nil, *]; done) | (simp [results, Tryd.results23, go_sem, rulV, mkS_nil]; done)) rfl ⟨⟨(2, [], []), false, rfl, HN.out⟩, ((Chg.refl No w).alloc _).alloc _⟩
   
    · by_cases h3 : a = [109, 111, 118, 101]
      · have n1 : ((mkS a).toList == [107, 101, 101, 112]) = false := by rw [Lib.toList_data, mkS_list, h3]; rfl
        have n2 : ((mkS a).toList == [100, 114, 111, 112]) = false := by rw [Lib.toList_data, mkS_list, h3]; rfl
        have n3 : ((mkS a).toList == [109, 111, 118, 101]) = true := by rw [Lib.toList_data, mkS_list, h3]; rfl
        by_cases hnw : n = 3
        · subst hnw
          obtain ⟨a1, a2, hws⟩ : ∃ a1 a2, ws = [a, a1, a2] := by
            match ws, hwa, hl with
            | x :: y :: [z], hwa, hl => exact ⟨y, z, by cases hwa; rfl⟩
            | [x], _, hl => simp at hl
            | [x, y], _, hl => simp at hl
            | x :: y :: z :: u :: r, _, hl => simp at hl
          have HB0 := Lib.hid fun W => bare_calls W a1 (HX.out a1 (by rw [hws]; simp))
          obtain ⟨⟨f0, o0⟩, hb0⟩ : ∃ z, bareF a1 = z := ⟨_, rfl⟩
          rw [hb0] at HB0
          have HB1 := Lib.hid fun W => bare_calls W a2 (HX.out a2 (by rw [hws]; simp))
          obtain ⟨⟨f1, o1⟩, hb1⟩ : ∃ z, bareF a2 = z := ⟨_, rfl⟩
          rw [hb1] at HB1
          have hw1 : ∀ o1 o2 : Obj, ((w.alloc o1).alloc o2).cell? ⟨b, o + 1, none⟩ = some (.string (mkS a1)) := fun o1 o2 => by
            have := HCELL.out 1 (by omega) o1 o2
            simpa [hws] using this
          have HCELLW : Hid (∀ W, Chg No w W → W.cell? ⟨b, o + 2, none⟩ = some (.string (mkS a2))) := fun W hW => by
            have := HCELLW.out 2 (by omega) W hW
            simpa [hws] using this
          have HN : Hid (readR ws = if o0 && o1 then some (3, f0, f1) else none) := by rw [Hid, hws, h3]; simp only [readR, hb0, hb1]; cases o0 <;> cases o1 <;> simp [kw]
          clear HX HCELL hwa hws hb0 hb1 h1 h2 h3 hl
          generalize mkS a = sa at *
          generalize mkS a1 = sa1 at *
          generalize mkS a2 = sa2 at *
          cases o0 with
          | false =>
            cases o1 with
            | false =>
              have HN : Hid (readR ws = none) := HN.out
              go_enter Tryd.func23, Tryd.ntmps23
              go_wp2_with fail
              refine (HB0.out _).mono ?_
              rintro e w1 ⟨rfl, hc1⟩
              have HR2a := Lib.hid (hc1.heap (two_new w _ _).1 (fun x => x))
              have HR4a := Lib.hid (hc1.heap (two_new w _ _).2 (fun x => x))
              have HC1 : Hid (Chg No w w1) := (((Chg.refl No w).alloc _).alloc _).no hc1
              have hz1 : w.heap.size + 2 ≤ w1.heap.size := by have := hc1.size; simpa using this
              clear hc1
              obtain ⟨q0, q1, q2⟩ := heap3 HR2a.out
              obtain ⟨r0, r1, r2⟩ := heap3 HR4a.out
              have qf := fun i => frzAt HR2a.out i
              have rf := fun i => frzAt HR4a.out i
              have hcw2 := HCELLW.out _ (Chg.setCell HC1.out (.inl (show w.heap.size ≤ w.heap.size + 1 by omega)) _ : Chg No w (w1.setCell ⟨w.heap.size + 1, 1, none⟩ (.string (mkS f0))))
              go_wp2_with fail
              refine (HB1.out _).mono ?_
              rintro e w2 ⟨rfl, hc2⟩
              clear q0 q1 q2 r0 r1 r2 qf rf hcw2
              have HR2b := Lib.hid (hc2.heap ((Chg.put w1 (w.heap.size + 1) 1 (.string (mkS f0))).heap HR2a.out (fun h => by have h : w.heap.size = w.heap.size + 1 := h; omega)) (fun x => x))
              have HR4b := Lib.hid (hc2.heap (heap_set HR4a.out 1 (.string (mkS f0))) (fun x => x))
              have HC2 : Hid (Chg No w w2) := (Chg.setCell HC1.out (.inl (show w.heap.size ≤ w.heap.size + 1 by omega)) _ : Chg No w (w1.setCell ⟨w.heap.size + 1, 1, none⟩ (.string (mkS f0)))).no hc2
              clear hc2
              obtain ⟨q0, q1, q2⟩ := heap3 HR2b.out
              obtain ⟨r0, r1, r2⟩ := heap3 HR4b.out
              have qf := fun i => frzAt HR2b.out i
              have rf := fun i => frzAt HR4b.out i
              have HRn : Hid ((w2.setCell ⟨w.heap.size + 1, 2, none⟩ (.string (mkS f1))).heap[w.heap.size]? = some (.cells #[.int .i64 0, .string ⟨#[]⟩, .string ⟨#[]⟩] 32)) := (Chg.put w2 (w.heap.size + 1) 2 _).heap HR2b.out (fun h => by have h : w.heap.size = w.heap.size + 1 := h; omega)
              have e0 := World.cell?_setCell_same (w2.setCell ⟨w.heap.size + 1, 2, none⟩ (.string (mkS f1))) ⟨w.heap.size, 0, none⟩ (.int .i64 3) (cellAt HRn.out 0 _ rfl)
              have e1 := World.cell?_setCell_same ((w2.setCell ⟨w.heap.size + 1, 2, none⟩ (.string (mkS f1))).setCell ⟨w.heap.size, 0, none⟩ (.int .i64 3)) ⟨w.heap.size, 1, none⟩ (.string (mkS f0)) (cellAt (heap_set HRn.out 0 (.int .i64 3)) 1 _ rfl)
              have e2 := World.cell?_setCell_same (((w2.setCell ⟨w.heap.size + 1, 2, none⟩ (.string (mkS f1))).setCell ⟨w.heap.size, 0, none⟩ (.int .i64 3)).setCell ⟨w.heap.size, 1, none⟩ (.string (mkS f0))) ⟨w.heap.size, 2, none⟩ (.string (mkS f1)) (cellAt (heap_set (heap_set HRn.out 0 (.int .i64 3)) 1 (.string (mkS f0))) 2 _ rfl)
              go_wp2
              exact bodyPost_ret (v := .tuple #[rulV (3, f0, f1), .bool false]) (by first | (simp [results, Tryd.results23, go_sem, rulV, mkS_nil, *]; done) | (simp [results, Tryd.results23, go_sem, rulV, mkS_nil]; done)) rfl ⟨⟨(3, f0, f1), false, rfl, HN.out⟩, Chg.setCell (Chg.setCell (Chg.setCell (Chg.setCell HC2.out (.inl (show w.heap.size ≤ w.heap.size + 1 by omega)) _) (.inl (show w.heap.size ≤ w.heap.size by omega)) _) (.inl (show w.heap.size ≤ w.heap.size by omega)) _) (.inl (show w.heap.size ≤ w.heap.size by omega)) _⟩
            | true =>
              have HN : Hid (readR ws = none) := HN.out
              go_enter Tryd.func23, Tryd.ntmps23
              go_wp2_with fail
              refine (HB0.out _).mono ?_
              rintro e w1 ⟨rfl, hc1⟩
              have HR2a := Lib.hid (hc1.heap (two_new w _ _).1 (fun x => x))
              have HR4a := Lib.hid (hc1.heap (two_new w _ _).2 (fun x => x))
              have HC1 : Hid (Chg No w w1) := (((Chg.refl No w).alloc _).alloc _).no hc1
              have hz1 : w.heap.size + 2 ≤ w1.heap.size := by have := hc1.size; simpa using this
              clear hc1
              obtain ⟨q0, q1, q2⟩ := heap3 HR2a.out
              obtain ⟨r0, r1, r2⟩ := heap3 HR4a.out
              have qf := fun i => frzAt HR2a.out i
              have rf := fun i => frzAt HR4a.out i
              have hcw2 := HCELLW.out _ (Chg.setCell HC1.out (.inl (show w.heap.size ≤ w.heap.size + 1 by omega)) _ : Chg No w (w1.setCell ⟨w.heap.size + 1, 1, none⟩ (.string (mkS f0))))
              go_wp2_with fail
              refine (HB1.out _).mono ?_
              rintro e w2 ⟨rfl, hc2⟩
              clear q0 q1 q2 r0 r1 r2 qf rf hcw2
              have HR2b := Lib.hid (hc2.heap ((Chg.put w1 (w.heap.size + 1) 1 (.string (mkS f0))).heap HR2a.out (fun h => by have h : w.heap.size = w.heap.size + 1 := h; omega)) (fun x => x))
              have HR4b := Lib.hid (hc2.heap (heap_set HR4a.out 1 (.string (mkS f0))) (fun x => x))
              have HC2 : Hid (Chg No w w2) := (Chg.setCell HC1.out (.inl (show w.heap.size ≤ w.heap.size + 1 by omega)) _ : Chg No w (w1.setCell ⟨w.heap.size + 1, 1, none⟩ (.string (mkS f0)))).no hc2
              clear hc2
              obtain ⟨q0, q1, q2⟩ := heap3 HR2b.out
              obtain ⟨r0, r1, r2⟩ := heap3 HR4b.out
              have qf := fun i => frzAt HR2b.out i
              have rf := fun i => frzAt HR4b.out i
              have HRn : Hid ((w2.setCell ⟨w.heap.size + 1, 2, none⟩ (.string (mkS f1))).heap[w.heap.size]? = some (.cells #[.int .i64 0, .string ⟨#[]⟩, .string ⟨#[]⟩] 32)) := (Chg.put w2 (w.heap.size + 1) 2 _).heap HR2b.out (fun h => by have h : w.heap.size = w.heap.size + 1 := h; omega)
              have e0 := World.cell?_setCell_same (w2.setCell ⟨w.heap.size + 1, 2, none⟩ (.string (mkS f1))) ⟨w.heap.size, 0, none⟩ (.int .i64 3) (cellAt HRn.out 0 _ rfl)
              have e1 := World.cell?_setCell_same ((w2.setCell ⟨w.heap.size + 1, 2, none⟩ (.string (mkS f1))).setCell ⟨w.heap.size, 0, none⟩ (.int .i64 3)) ⟨w.heap.size, 1, none⟩ (.string (mkS f0)) (cellAt (heap_set HRn.out 0 (.int .i64 3)) 1 _ rfl)
              have e2 := World.cell?_setCell_same (((w2.setCell ⟨w.heap.size + 1, 2, none⟩ (.string (mkS f1))).setCell ⟨w.heap.size, 0, none⟩ (.int .i64 3)).setCell ⟨w.heap.size, 1, none⟩ (.string (mkS f0))) ⟨w.heap.size, 2, none⟩ (.string (mkS f1)) (cellAt (heap_set (heap_set HRn.out 0 (.int .i64 3)) 1 (.string (mkS f0))) 2 _ rfl)
              go_wp2
              exact bodyPost_ret (v := .tuple #[rulV (3, f0, f1), .bool false]) (by first | (simp [results, Tryd.results23, go_sem, rulV, mkS_nil, *]; done) | (simp [results, Tryd.results23, go_sem, rulV, mkS_nil]; done)) rfl ⟨⟨(3, f0, f1), false, rfl, HN.out⟩, Chg.setCell (Chg.setCell (Chg.setCell (Chg.setCell HC2.out (.inl (show w.heap.size ≤ w.heap.size + 1 by omega)) _) (.inl (show w.heap.size ≤ w.heap.size by omega)) _) (.inl (show w.heap.size ≤ w.heap.size by omega)) _) (.inl (show w.heap.size ≤ w.heap.size by omega)) _⟩
          | true =>
            cases o1 with
            | false =>
              have HN : Hid (readR ws = none) := HN.out
              go_enter Tryd.func23, Tryd.ntmps23
              go_wp2_with fail
              refine (HB0.out _).mono ?_
              rintro e w1 ⟨rfl, hc1⟩
              have HR2a := Lib.hid (hc1.heap (two_new w _ _).1 (fun x => x))
              have HR4a := Lib.hid (hc1.heap (two_new w _ _).2 (fun x => x))
              have HC1 : Hid (Chg No w w1) := (((Chg.refl No w).alloc _).alloc _).no hc1
              have hz1 : w.heap.size + 2 ≤ w1.heap.size := by have := hc1.size; simpa using this
              clear hc1
              obtain ⟨q0, q1, q2⟩ := heap3 HR2a.out
              obtain ⟨r0, r1, r2⟩ := heap3 HR4a.out
              have qf := fun i => frzAt HR2a.out i
              have rf := fun i => frzAt HR4a.out i
              have hcw2 := HCELLW.out _ (Chg.setCell HC1.out (.inl (show w.heap.size ≤ w.heap.size + 1 by omega)) _ : Chg No w (w1.setCell ⟨w.heap.size + 1, 1, none⟩ (.string (mkS f0))))
              go_wp2_with fail
              refine (HB1.out _).mono ?_
              rintro e w2 ⟨rfl, hc2⟩
              clear q0 q1 q2 r0 r1 r2 qf rf hcw2
              have HR2b := Lib.hid (hc2.heap ((Chg.put w1 (w.heap.size + 1) 1 (.string (mkS f0))).heap HR2a.out (fun h => by have h : w.heap.size = w.heap.size + 1 := h; omega)) (fun x => x))
              have HR4b := Lib.hid (hc2.heap (heap_set HR4a.out 1 (.string (mkS f0))) (fun x => x))
              have HC2 : Hid (Chg No w w2) := (Chg.setCell HC1.out (.inl (show w.heap.size ≤ w.heap.size + 1 by omega)) _ : Chg No w (w1.setCell ⟨w.heap.size + 1, 1, none⟩ (.string (mkS f0)))).no hc2
              clear hc2
              obtain ⟨q0, q1, q2⟩ := heap3 HR2b.out
              obtain ⟨r0, r1, r2⟩ := heap3 HR4b.out
              have qf := fun i => frzAt HR2b.out i
              have rf := fun i => frzAt HR4b.out i
              have HRn : Hid ((w2.setCell ⟨w.heap.size + 1, 2, none⟩ (.string (mkS f1))).heap[w.heap.size]? = some (.cells #[.int .i64 0, .string ⟨#[]⟩, .string ⟨#[]⟩] 32)) := (Chg.put w2 (w.heap.size + 1) 2 _).heap HR2b.out (fun h => by have h : w.heap.size = w.heap.size + 1 := h; omega)
              have e0 := World.cell?_setCell_same (w2.setCell ⟨w.heap.size + 1, 2, none⟩ (.string (mkS f1))) ⟨w.heap.size, 0, none⟩ (.int .i64 3) (cellAt HRn.out 0 _ rfl)
              have e1 := World.cell?_setCell_same ((w2.setCell ⟨w.heap.size + 1, 2, none⟩ (.string (mkS f1))).setCell ⟨w.heap.size, 0, none⟩ (.int .i64 3)) ⟨w.heap.size, 1, none⟩ (.string (mkS f0)) (cellAt (heap_set HRn.out 0 (.int .i64 3)) 1 _ rfl)
              have e2 := World.cell?_setCell_same (((w2.setCell ⟨w.heap.size + 1, 2, none⟩ (.string (mkS f1))).setCell ⟨w.heap.size, 0, none⟩ (.int .i64 3)).setCell ⟨w.heap.size, 1, none⟩ (.string (mkS f0))) ⟨w.heap.size, 2, none⟩ (.string (mkS f1)) (cellAt (heap_set (heap_set HRn.out 0 (.int .i64 3)) 1 (.string (mkS f0))) 2 _ rfl)
              go_wp2
              exact bodyPost_ret (v := .tuple #[rulV (3, f0, f1), .bool false]) (by first | (simp [results, Tryd.results23, go_sem, rulV, mkS_nil, *]; done) | (simp [results, Tryd.results23, go_sem, rulV, mkS_nil]; done)) rfl ⟨⟨(3, f0, f1), false, rfl, HN.out⟩, Chg.setCell (Chg.setCell (Chg.setCell (Chg.setCell HC2.out (.inl (show w.heap.size ≤ w.heap.size + 1 by omega)) _) (.inl (show w.heap.size ≤ w.heap.size by omega)) _) (.inl (show w.heap.size ≤ w.heap.size by omega)) _) (.inl (show w.heap.size ≤ w.heap.size by omega)) _⟩
            | true =>
              have HN : Hid (readR ws = some (3, f0, f1)) := HN.out
              go_enter Tryd.func23, Tryd.ntmps23
              go_wp2_with fail
              refine (HB0.out _).mono ?_
              rintro e w1 ⟨rfl, hc1⟩
              have HR2a := Lib.hid (hc1.heap (two_new w _ _).1 (fun x => x))
              have HR4a := Lib.hid (hc1.heap (two_new w _ _).2 (fun x => x))
              have HC1 : Hid (Chg No w w1) := (((Chg.refl No w).alloc _).alloc _).no hc1
              have hz1 : w.heap.size + 2 ≤ w1.heap.size := by have := hc1.size; simpa using this
              clear hc1
              obtain ⟨q0, q1, q2⟩ := heap3 HR2a.out
              obtain ⟨r0, r1, r2⟩ := heap3 HR4a.out
              have qf := fun i => frzAt HR2a.out i
              have rf := fun i => frzAt HR4a.out i
              have hcw2 := HCELLW.out _ (Chg.setCell HC1.out (.inl (show w.heap.size ≤ w.heap.size + 1 by omega)) _ : Chg No w (w1.setCell ⟨w.heap.size + 1, 1, none⟩ (.string (mkS f0))))
              go_wp2_with fail
              refine (HB1.out _).mono ?_
              rintro e w2 ⟨rfl, hc2⟩
              clear q0 q1 q2 r0 r1 r2 qf rf hcw2
              have HR2b := Lib.hid (hc2.heap ((Chg.put w1 (w.heap.size + 1) 1 (.string (mkS f0))).heap HR2a.out (fun h => by have h : w.heap.size = w.heap.size + 1 := h; omega)) (fun x => x))
              have HR4b := Lib.hid (hc2.heap (heap_set HR4a.out 1 (.string (mkS f0))) (fun x => x))
              have HC2 : Hid (Chg No w w2) := (Chg.setCell HC1.out (.inl (show w.heap.size ≤ w.heap.size + 1 by omega)) _ : Chg No w (w1.setCell ⟨w.heap.size + 1, 1, none⟩ (.string (mkS f0)))).no hc2
              clear hc2
              obtain ⟨q0, q1, q2⟩ := heap3 HR2b.out
              obtain ⟨r0, r1, r2⟩ := heap3 HR4b.out
              have qf := fun i => frzAt HR2b.out i
              have rf := fun i => frzAt HR4b.out i
              have HRn : Hid ((w2.setCell ⟨w.heap.size + 1, 2, none⟩ (.string (mkS f1))).heap[w.heap.size]? = some (.cells #[.int .i64 0, .string ⟨#[]⟩, .string ⟨#[]⟩] 32)) := (Chg.put w2 (w.heap.size + 1) 2 _).heap HR2b.out (fun h => by have h : w.heap.size = w.heap.size + 1 := h; omega)
              have e0 := World.cell?_setCell_same (w2.setCell ⟨w.heap.size + 1, 2, none⟩ (.string (mkS f1))) ⟨w.heap.size, 0, none⟩ (.int .i64 3) (cellAt HRn.out 0 _ rfl)
              have e1 := World.cell?_setCell_same ((w2.setCell ⟨w.heap.size + 1, 2, none⟩ (.string (mkS f1))).setCell ⟨w.heap.size, 0, none⟩ (.int .i64 3)) ⟨w.heap.size, 1, none⟩ (.string (mkS f0)) (cellAt (heap_set HRn.out 0 (.int .i64 3)) 1 _ rfl)
              have e2 := World.cell?_setCell_same (((w2.setCell ⟨w.heap.size + 1, 2, none⟩ (.string (mkS f1))).setCell ⟨w.heap.size, 0, none⟩ (.int .i64 3)).setCell ⟨w.heap.size, 1, none⟩ (.string (mkS f0))) ⟨w.heap.size, 2, none⟩ (.string (mkS f1)) (cellAt (heap_set (heap_set HRn.out 0 (.int .i64 3)) 1 (.string (mkS f0))) 2 _ rfl)
              go_wp2
              exact bodyPost_ret (v := .tuple #[rulV (3, f0, f1), .bool true]) (by first | (simp [results, Tryd.results23, go_sem, rulV, mkS_nil, *]; done) | (simp [results, Tryd.results23, go_sem, rulV, mkS_nil]; done)) rfl ⟨⟨(3, f0, f1), true, rfl, HN.out⟩, Chg.setCell (Chg.setCell (Chg.setCell (Chg.setCell HC2.out (.inl (show w.heap.size ≤ w.heap.size + 1 by omega)) _) (.inl (show w.heap.size ≤ w.heap.size by omega)) _) (.inl (show w.heap.size ≤ w.heap.size by omega)) _) (.inl (show w.heap.size ≤ w.heap.size by omega)) _⟩
        · have hni : ((n : Int) != 3) = true := by rw [bne_iff_ne]; omega
          have hni2 : ((n : Int) == 3) = false := by rw [beq_eq_false_iff_ne]; omega
          have HN : Hid (readR ws = none) := by
            rw [Hid, hwa, h3]
            match r, hwa with
            | [], _ => rfl
            | [y], _ => simp [readR, kw]
            | [y, z], hwa => exact absurd (by rw [← hl, hwa]; rfl) hnw
            | y :: z :: u :: v, _ => rfl

          clear HX HCELL HCELLW hwa h1 h2 h3
          generalize mkS a = sa at *
          go_enter Tryd.func23, Tryd.ntmps23
          go_wp2
          exact bodyPost_ret (v := .tuple #[rulV (3, [], []), .bool false]) (by first | (simp [results, Tryd.results23, go_sem, rulV, mkS_nil, *]; done) | (simp [results, Tryd.results23, go_sem, rulV, mkS_nil]; done)) rfl ⟨⟨(3, [], []), false, rfl, HN.out⟩, ((Chg.refl No w).alloc _).alloc _⟩
      · have n1 : ((mkS a).toList == [107, 101, 101, 112]) = false := by rw [Lib.toList_data, mkS_list]; exact beq_eq_false_iff_ne.2 h1
        have n2 : ((mkS a).toList == [100, 114, 111, 112]) = false := by rw [Lib.toList_data, mkS_list]; exact beq_eq_false_iff_ne.2 h2
        have n3 : ((mkS a).toList == [109, 111, 118, 101]) = false := by rw [Lib.toList_data, mkS_list]; exact beq_eq_false_iff_ne.2 h3
        have HN : Hid (readR ws = none) := by
          rw [Hid, hwa]
          match r, hwa with
          | [], _ => rfl
          | [y], _ => simp [readR, kw, h1, h2]
          | [y, z], _ => simp [readR, kw, h3]
          | y :: z :: u :: v, _ => rfl

        clear HX HCELL HCELLW hwa h1 h2 h3
        generalize mkS a = sa at *
        go_enter Tryd.func23, Tryd.ntmps23
        go_wp2
        exact bodyPost_ret (v := .tuple #[rulV (0, [], []), .bool false]) (by first | (simp [results, Tryd.results23, go_sem, rulV, mkS_nil, *]; done) | (simp [results, Tryd.results23, go_sem, rulV, mkS_nil]; done)) rfl ⟨⟨(0, [], []), false, rfl, HN.out⟩, ((Chg.refl No w).alloc _).alloc _⟩
set_option maxHeartbeats 6400000 in
theorem refrule_calls (w : World) (A : Option Addr) (n c : Nat) (ws : List (List UInt8)) (h : Sl strv w (.slice A n c) ws) (hn : 1 ≤ n) (hn2 : n ≤ 9223372036854775807) (hx : ∀ x ∈ ws, x.length ≤ 9223372036854775807) :
    Calls Tryd.prog 26 #[.slice A n c] w fun e w' => ReadR e ws ∧ Chg No w w' := by
  have hl := h.len
  obtain ⟨b, o, rfl, hcell⟩ := h.addr (by omega)
  have HX := Lib.hid hx
  have HCELL : Hid (∀ k (hk : k < ws.length) (o1 o2 : Obj), ((w.alloc o1).alloc o2).cell? ⟨b, o + k, none⟩ = some (.string (mkS ws[k]))) := fun k hk o1 o2 => (((Chg.refl No w).alloc o1).alloc o2).cell (hcell k hk) (fun x => x)
  have HCELLW : Hid (∀ k (hk : k < ws.length) W, Chg No w W → W.cell? ⟨b, o + k, none⟩ = some (.string (mkS ws[k]))) := fun k hk W hW => hW.cell (hcell k hk) (fun x => x)
  have HBLT : Hid (b < w.heap.size) := World.block_lt_of_cell? _ _ (hcell 0 (by omega))
  obtain ⟨a, r, hwa⟩ : ∃ a r, ws = a :: r := by
    cases ws with
    | nil => simp at hl; omega
    | cons a r => exact ⟨a, r, rfl⟩
  have hw0 : ∀ o1 o2 : Obj, ((w.alloc o1).alloc o2).cell? ⟨b, o, none⟩ = some (.string (mkS a)) := fun o1 o2 => by
    have := HCELL.out 0 (by omega) o1 o2
    simpa [hwa] using this
  clear hcell h hx
  by_cases h1 : a = [107, 101, 101, 112]
  · have n1 : ((mkS a).toList == [107, 101, 101, 112]) = true := by rw [Lib.toList_data, mkS_list, h1]; rfl
    have n2 : ((mkS a).toList == [100, 114, 111, 112]) = false := by rw [Lib.toList_data, mkS_list, h1]; rfl
    have n3 : ((mkS a).toList == [109, 111, 118, 101]) = false := by rw [Lib.toList_data, mkS_list, h1]; rfl
    by_cases hnw : n = 2
    · subst hnw
      obtain ⟨a1, hws⟩ : ∃ a1, ws = [a, a1] := by
        match ws, hwa, hl with
        | x :: [y], hwa, hl => exact ⟨y, by cases hwa; rfl⟩
        | [x], _, hl => simp at hl
        | x :: y :: z :: r, _, hl => simp at hl
      have HB0 := Lib.hid fun W => refbare_calls W a1 (HX.out a1 (by rw [hws]; simp))
      obtain ⟨⟨f0, o0⟩, hb0⟩ : ∃ z, bareF a1 = z := ⟨_, rfl⟩
      rw [hb0] at HB0
      have hw1 : ∀ o1 o2 : Obj, ((w.alloc o1).alloc o2).cell? ⟨b, o + 1, none⟩ = some (.string (mkS a1)) := fun o1 o2 => by
        have := HCELL.out 1 (by omega) o1 o2
        simpa [hws] using this
      have HN : Hid (readR ws = if o0 then some (1, f0, []) else none) := by rw [Hid, hws, h1]; simp only [readR, hb0]; cases o0 <;> simp [kw]
      clear HX HCELL hwa hws hb0 h1 hl
      clear HCELLW
      generalize mkS a = sa at *
      generalize mkS a1 = sa1 at *
      cases o0 with
      | false =>
        have HN : Hid (readR ws = none) := HN.out
        go_enter Tryd.func26, Tryd.ntmps26
        go_wp2_with fail
        refine (HB0.out _).mono ?_
        rintro e w1 ⟨rfl, hc1⟩
        have HR2a := Lib.hid (hc1.heap (two_new w _ _).1 (fun x => x))
        have HR4a := Lib.hid (hc1.heap (two_new w _ _).2 (fun x => x))
        have HC1 : Hid (Chg No w w1) := (((Chg.refl No w).alloc _).alloc _).no hc1
        have hz1 : w.heap.size + 2 ≤ w1.heap.size := by have := hc1.size; simpa using this
        clear hc1
        obtain ⟨q0, q1, q2⟩ := heap3 HR2a.out
        obtain ⟨r0, r1, r2⟩ := heap3 HR4a.out
        have qf := fun i => frzAt HR2a.out i
        have rf := fun i => frzAt HR4a.out i
        have HRn : Hid ((w1.setCell ⟨w.heap.size + 1, 1, none⟩ (.string (mkS f0))).heap[w.heap.size]? = some (.cells #[.int .i64 0, .string ⟨#[]⟩, .string ⟨#[]⟩] 32)) := (Chg.put w1 (w.heap.size + 1) 1 _).heap HR2a.out (fun h => by have h : w.heap.size = w.heap.size + 1 := h; omega)
        have e0 := World.cell?_setCell_same (w1.setCell ⟨w.heap.size + 1, 1, none⟩ (.string (mkS f0))) ⟨w.heap.size, 0, none⟩ (.int .i64 1) (cellAt HRn.out 0 _ rfl)
        have e1 := World.cell?_setCell_same ((w1.setCell ⟨w.heap.size + 1, 1, none⟩ (.string (mkS f0))).setCell ⟨w.heap.size, 0, none⟩ (.int .i64 1)) ⟨w.heap.size, 1, none⟩ (.string (mkS f0)) (cellAt (heap_set HRn.out 0 (.int .i64 1)) 1 _ rfl)
        have e2 := World.cell?_setCell_same (((w1.setCell ⟨w.heap.size + 1, 1, none⟩ (.string (mkS f0))).setCell ⟨w.heap.size, 0, none⟩ (.int .i64 1)).setCell ⟨w.heap.size, 1, none⟩ (.string (mkS f0))) ⟨w.heap.size, 2, none⟩ (.string ⟨#[]⟩) (cellAt (heap_set (heap_set HRn.out 0 (.int .i64 1)) 1 (.string (mkS f0))) 2 _ rfl)
        go_wp2
        exact bodyPost_ret (v := .tuple #[rulV (1, f0, []), .bool false]) (by first | (simp [results, Tryd.results26, go_sem, rulV, mkS_nil, *]; done) | (simp [results, Tryd.results26, go_sem, rulV, mkS_nil]; done)) rfl ⟨⟨(1, f0, []), false, rfl, HN.out⟩, Chg.setCell (Chg.setCell (Chg.setCell (Chg.setCell HC1.out (.inl (show w.heap.size ≤ w.heap.size + 1 by omega)) _) (.inl (show w.heap.size ≤ w.heap.size by omega)) _) (.inl (show w.heap.size ≤ w.heap.size by omega)) _) (.inl (show w.heap.size ≤ w.heap.size by omega)) _⟩
      | true =>
        have HN : Hid (readR ws = some (1, f0, [])) := HN.out
        go_enter Tryd.func26, Tryd.ntmps26
        go_wp2_with fail
        refine (HB0.out _).mono ?_
        rintro e w1 ⟨rfl, hc1⟩
        have HR2a := Lib.hid (hc1.heap (two_new w _ _).1 (fun x => x))
        have HR4a := Lib.hid (hc1.heap (two_new w _ _).2 (fun x => x))
        have HC1 : Hid (Chg No w w1) := (((Chg.refl No w).alloc _).alloc _).no hc1
        have hz1 : w.heap.size + 2 ≤ w1.heap.size := by have := hc1.size; simpa using this
        clear hc1
        obtain ⟨q0, q1, q2⟩ := heap3 HR2a.out
        obtain ⟨r0, r1, r2⟩ := heap3 HR4a.out
        have qf := fun i => frzAt HR2a.out i
        have rf := fun i => frzAt HR4a.out i
        have HRn : Hid ((w1.setCell ⟨w.heap.size + 1, 1, none⟩ (.string (mkS f0))).heap[w.heap.size]? = some (.cells #[.int .i64 0, .string ⟨#[]⟩, .string ⟨#[]⟩] 32)) := (Chg.put w1 (w.heap.size + 1) 1 _).heap HR2a.out (fun h => by have h : w.heap.size = w.heap.size + 1 := h; omega)
        have e0 := World.cell?_setCell_same (w1.setCell ⟨w.heap.size + 1, 1, none⟩ (.string (mkS f0))) ⟨w.heap.size, 0, none⟩ (.int .i64 1) (cellAt HRn.out 0 _ rfl)
        have e1 := World.cell?_setCell_same ((w1.setCell ⟨w.heap.size + 1, 1, none⟩ (.string (mkS f0))).setCell ⟨w.heap.size, 0, none⟩ (.int .i64 1)) ⟨w.heap.size, 1, none⟩ (.string (mkS f0)) (cellAt (heap_set HRn.out 0 (.int .i64 1)) 1 _ rfl)
        have e2 := World.cell?_setCell_same (((w1.setCell ⟨w.heap.size + 1, 1, none⟩ (.string (mkS f0))).setCell ⟨w.heap.size, 0, none⟩ (.int .i64 1)).setCell ⟨w.heap.size, 1, none⟩ (.string (mkS f0))) ⟨w.heap.size, 2, none⟩ (.string ⟨#[]⟩) (cellAt (heap_set (heap_set HRn.out 0 (.int .i64 1)) 1 (.string (mkS f0))) 2 _ rfl)
        go_wp2
        exact bodyPost_ret (v := .tuple #[rulV (1, f0, []), .bool true]) (by first | (simp [results, Tryd.results26, go_sem, rulV, mkS_nil, *]; done) | (simp [results, Tryd.results26, go_sem, rulV, mkS_nil]; done)) rfl ⟨⟨(1, f0, []), true, rfl, HN.out⟩, Chg.setCell (Chg.setCell (Chg.setCell (Chg.setCell HC1.out (.inl (show w.heap.size ≤ w.heap.size + 1 by omega)) _) (.inl (show w.heap.size ≤ w.heap.size by omega)) _) (.inl (show w.heap.size ≤ w.heap.size by omega)) _) (.inl (show w.heap.size ≤ w.heap.size by omega)) _⟩
    · by_cases hlo : n < 2
      · have hlo1 : (n : Int) < 2 := by omega
        have hni : ((n : Int) != 2) = true := by rw [bne_iff_ne]; omega
        have hni2 : ((n : Int) == 2) = false := by rw [beq_eq_false_iff_ne]; omega
        have HN : Hid (readR ws = none) := by
          rw [Hid, hwa, h1]
          match r, hwa with
          | [], _ => rfl
          | [y], hwa => exact absurd (by rw [← hl, hwa]; rfl) hnw
          | [y, z], _ => simp [readR, kw]
          | y :: z :: u :: v, _ => rfl

        clear HX HCELL HCELLW hwa h1
        generalize mkS a = sa at *
        go_enter Tryd.func26, Tryd.ntmps26
        go_wp2
        exact bodyPost_ret (v := .tuple #[rulV (0, [], []), .bool false]) (by first | (simp [results, Tryd.results26, go_sem, rulV, mkS_nil, *]; done) | (simp [results, Tryd.results26, go_sem, rulV, mkS_nil]; done)) rfl ⟨⟨(0, [], []), false, rfl, HN.out⟩, ((Chg.refl No w).alloc _).alloc _⟩
      by_cases hhi : 3 < n
      · have hlo1 : ¬ (n : Int) < 2 := by omega
        have hlo2 : decide ((n : Int) < 2) = false := decide_eq_false hlo1
        have hhi1 : (3 : Int) < (n : Int) := by omega
        have hni : ((n : Int) != 2) = true := by rw [bne_iff_ne]; omega
        have hni2 : ((n : Int) == 2) = false := by rw [beq_eq_false_iff_ne]; omega
        have HN : Hid (readR ws = none) := by
          rw [Hid, hwa, h1]
          match r, hwa with
          | [], _ => rfl
          | [y], hwa => exact absurd (by rw [← hl, hwa]; rfl) hnw
          | [y, z], _ => simp [readR, kw]
          | y :: z :: u :: v, _ => rfl

        clear HX HCELL HCELLW hwa h1
        generalize mkS a = sa at *
        go_enter Tryd.func26, Tryd.ntmps26
        go_wp2
        exact bodyPost_ret (v := .tuple #[rulV (0, [], []), .bool false]) (by first | (simp [results, Tryd.results26, go_sem, rulV, mkS_nil, *]; done) | (simp [results, Tryd.results26, go_sem, rulV, mkS_nil]; done)) rfl ⟨⟨(0, [], []), false, rfl, HN.out⟩, ((Chg.refl No w).alloc _).alloc _⟩
      have hlo1 : ¬ (n : Int) < 2 := by omega
      have hlo2 : decide ((n : Int) < 2) = false := decide_eq_false hlo1
      have hhi1 : ¬ (3 : Int) < (n : Int) := by omega
      have hhi2 : decide ((3 : Int) < (n : Int)) = false := decide_eq_false hhi1
      have hni : ((n : Int) != 2) = true := by rw [bne_iff_ne]; omega
      have hni2 : ((n : Int) == 2) = false := by rw [beq_eq_false_iff_ne]; omega
      have HN : Hid (readR ws = none) := by
        rw [Hid, hwa, h1]
        match r, hwa with
        | [], _ => rfl
        | [y], hwa => exact absurd (by rw [← hl, hwa]; rfl) hnw
        | [y, z], _ => simp [readR, kw]
        | y :: z :: u :: v, _ => rfl

      clear HX HCELL HCELLW hwa h1
      generalize mkS a = sa at *
      go_enter Tryd.func26, Tryd.ntmps26
      go_wp2
      exact bodyPost_ret (v := .tuple #[rulV (0, [], []), .bool false]) (by first | (simp [results, Tryd.results26, go_sem, rulV, mkS_nil, *]; done) | (simp [results, Tryd.results26, go_sem, rulV, mkS_nil]; done)) rfl ⟨⟨(0, [], []), false, rfl, HN.out⟩, ((Chg.refl No w).alloc _).alloc _⟩
 
  · by_cases h2 : a = [100, 114, 111, 112]
    · have n1 : ((mkS a).toList == [107, 101, 101, 112]) = false := by rw [Lib.toList_data, mkS_list, h2]; rfl
      have n2 : ((mkS a).toList == [100, 114, 111, 112]) = true := by rw [Lib.toList_data, mkS_list, h2]; rfl
      have n3 : ((mkS a).toList == [109, 111, 118, 101]) = false := by rw [Lib.toList_data, mkS_list, h2]; rfl
      by_cases hnw : n = 2
      · subst hnw
        obtain ⟨a1, hws⟩ : ∃ a1, ws = [a, a1] := by
          match ws, hwa, hl with
          | x :: [y], hwa, hl => exact ⟨y, by cases hwa; rfl⟩
          | [x], _, hl => simp at hl
          | x :: y :: z :: r, _, hl => simp at hl
        have HB0 := Lib.hid fun W => refbare_calls W a1 (HX.out a1 (by rw [hws]; simp))
        obtain ⟨⟨f0, o0⟩, hb0⟩ : ∃ z, bareF a1 = z := ⟨_, rfl⟩
        rw [hb0] at HB0
        have hw1 : ∀ o1 o2 : Obj, ((w.alloc o1).alloc o2).cell? ⟨b, o + 1, none⟩ = some (.string (mkS a1)) := fun o1 o2 => by
          have := HCELL.out 1 (by omega) o1 o2
          simpa [hws] using this
        have HN : Hid (readR ws = if o0 then some (2, f0, []) else none) := by rw [Hid, hws, h2]; simp only [readR, hb0]; cases o0 <;> simp [kw]
        clear HX HCELL hwa hws hb0 h1 h2 hl
        clear HCELLW
        generalize mkS a = sa at *
        generalize mkS a1 = sa1 at *
        cases o0 with
        | false =>
          have HN : Hid (readR ws = none) := HN.out
          go_enter Tryd.func26, Tryd.ntmps26
          go_wp2_with fail
          refine (HB0.out _).mono ?_
          rintro e w1 ⟨rfl, hc1⟩
          have HR2a := Lib.hid (hc1.heap (two_new w _ _).1 (fun x => x))
          have HR4a := Lib.hid (hc1.heap (two_new w _ _).2 (fun x => x))
          have HC1 : Hid (Chg No w w1) := (((Chg.refl No w).alloc _).alloc _).no hc1
          have hz1 : w.heap.size + 2 ≤ w1.heap.size := by have := hc1.size; simpa using this
          clear hc1
          obtain ⟨q0, q1, q2⟩ := heap3 HR2a.out
          obtain ⟨r0, r1, r2⟩ := heap3 HR4a.out
          have qf := fun i => frzAt HR2a.out i
          have rf := fun i => frzAt HR4a.out i
          have HRn : Hid ((w1.setCell ⟨w.heap.size + 1, 1, none⟩ (.string (mkS f0))).heap[w.heap.size]? = some (.cells #[.int .i64 0, .string ⟨#[]⟩, .string ⟨#[]⟩] 32)) := (Chg.put w1 (w.heap.size + 1) 1 _).heap HR2a.out (fun h => by have h : w.heap.size = w.heap.size + 1 := h; omega)
          have e0 := World.cell?_setCell_same (w1.setCell ⟨w.heap.size + 1, 1, none⟩ (.string (mkS f0))) ⟨w.heap.size, 0, none⟩ (.int .i64 2) (cellAt HRn.out 0 _ rfl)
          have e1 := World.cell?_setCell_same ((w1.setCell ⟨w.heap.size + 1, 1, none⟩ (.string (mkS f0))).setCell ⟨w.heap.size, 0, none⟩ (.int .i64 2)) ⟨w.heap.size, 1, none⟩ (.string (mkS f0)) (cellAt (heap_set HRn.out 0 (.int .i64 2)) 1 _ rfl)
          have e2 := World.cell?_setCell_same (((w1.setCell ⟨w.heap.size + 1, 1, none⟩ (.string (mkS f0))).setCell ⟨w.heap.size, 0, none⟩ (.int .i64 2)).setCell ⟨w.heap.size, 1, none⟩ (.string (mkS f0))) ⟨w.heap.size, 2, none⟩ (.string ⟨#[]⟩) (cellAt (heap_set (heap_set HRn.out 0 (.int .i64 2)) 1 (.string (mkS f0))) 2 _ rfl)
          go_wp2
          exact bodyPost_ret (v := .tuple #[rulV (2, f0, []), .bool false]) (by first | (simp [results, Tryd.results26, go_sem, rulV, mkS_nil, *]; done) | (simp [results, Tryd.results26, go_sem, rulV, mkS_nil]; done)) rfl ⟨⟨(2, f0, []), false, rfl, HN.out⟩, Chg.setCell (Chg.setCell (Chg.setCell (Chg.setCell HC1.out (.inl (show w.heap.size ≤ w.heap.size + 1 by omega)) _) (.inl (show w.heap.size ≤ w.heap.size by omega)) _) (.inl (show w.heap.size ≤ w.heap.size by omega)) _) (.inl (show w.heap.size ≤ w.heap.size by omega)) _⟩
        | true =>
          have HN : Hid (readR ws = some (2, f0, [])) := HN.out
          go_enter Tryd.func26, Tryd.ntmps26
          go_wp2_with fail
          refine (HB0.out _).mono ?_
          rintro e w1 ⟨rfl, hc1⟩
          have HR2a := Lib.hid (hc1.heap (two_new w _ _).1 (fun x => x))
          have HR4a := Lib.hid (hc1.heap (two_new w _ _).2 (fun x => x))
          have HC1 : Hid (Chg No w w1) := (((Chg.refl No w).alloc _).alloc _).no hc1
          have hz1 : w.heap.size + 2 ≤ w1.heap.size := by have := hc1.size; simpa using this
          clear hc1
          obtain ⟨q0, q1, q2⟩ := heap3 HR2a.out
          obtain ⟨r0, r1, r2⟩ := heap3 HR4a.out
          have qf := fun i => frzAt HR2a.out i
          have rf := fun i => frzAt HR4a.out i
          have HRn : Hid ((w1.setCell ⟨w.heap.size + 1, 1, none⟩ (.string (mkS f0))).heap[w.heap.size]? = some (.cells #[.int .i64 0, .string ⟨#[]⟩, .string ⟨#[]⟩] 32)) := (Chg.put w1 (w.heap.size + 1) 1 _).heap HR2a.out (fun h => by have h : w.heap.size = w.heap.size + 1 := h; omega)
          have e0 := World.cell?_setCell_same (w1.setCell ⟨w.heap.size + 1, 1, none⟩ (.string (mkS f0))) ⟨w.heap.size, 0, none⟩ (.int .i64 2) (cellAt HRn.out 0 _ rfl)
          have e1 := World.cell?_setCell_same ((w1.setCell ⟨w.heap.size + 1, 1, none⟩ (.string (mkS f0))).setCell ⟨w.heap.size, 0, none⟩ (.int .i64 2)) ⟨w.heap.size, 1, none⟩ (.string (mkS f0)) (cellAt (heap_set HRn.out 0 (.int .i64 2)) 1 _ rfl)
          have e2 := World.cell?_setCell_same (((w1.setCell ⟨w.heap.size + 1, 1, none⟩ (.string (mkS f0))).setCell ⟨w.heap.size, 0, none⟩ (.int .i64 2)).setCell ⟨w.heap.size, 1, none⟩ (.string (mkS f0))) ⟨w.heap.size, 2, none⟩ (.string ⟨#[]⟩) (cellAt (heap_set (heap_set HRn.out 0 (.int .i64 2)) 1 (.string (mkS f0))) 2 _ rfl)
          go_wp2
          exact bodyPost_ret (v := .tuple #[rulV (2, f0, []), .bool true]) (by first | (simp [results, Tryd.results26, go_sem, rulV, mkS_nil, *]; done) | (simp [results, Tryd.results26, go_sem, rulV, mkS_nil]; done)) rfl ⟨⟨(2, f0, []), true, rfl, HN.out⟩, Chg.setCell (Chg.setCell (Chg.setCell (Chg.setCell HC1.out (.inl (show w.heap.size ≤ w.heap.size + 1 by omega)) _) (.inl (show w.heap.size ≤ w.heap.size by omega)) _) (.inl (show w.heap.size ≤ w.heap.size by omega)) _) (.inl (show w.heap.size ≤ w.heap.size by omega)) _⟩
      · by_cases hlo : n < 2
        · have hlo1 : (n : Int) < 2 := by omega
          have hni : ((n : Int) != 2) = true := by rw [bne_iff_ne]; omega
          have hni2 : ((n : Int) == 2) = false := by rw [beq_eq_false_iff_ne]; omega
          have HN : Hid (readR ws = none) := by
            rw [Hid, hwa, h2]
            match r, hwa with
            | [], _ => rfl
            | [y], hwa => exact absurd (by rw [← hl, hwa]; rfl) hnw
            | [y, z], _ => simp [readR, kw]
            | y :: z :: u :: v, _ => rfl

          clear HX HCELL HCELLW hwa h1 h2
          generalize mkS a = sa at *
          go_enter Tryd.func26, Tryd.ntmps26
          go_wp2
          exact bodyPost_ret (v := .tuple #[rulV (0, [], []), .bool false]) (by first | (simp [results, Tryd.results26, go_sem, rulV, mkS_nil, *]; done) | (simp [results, Tryd.results26, go_sem, rulV, mkS_nil]; done)) rfl ⟨⟨(0, [], []), false, rfl, HN.out⟩, ((Chg.refl No w).alloc _).alloc _⟩
        by_cases hhi : 3 < n
        · have hlo1 : ¬ (n : Int) < 2 := by omega
          have hlo2 : decide ((n : Int) < 2) = false := decide_eq_false hlo1
          have hhi1 : (3 : Int) < (n : Int) := by omega
          have hni : ((n : Int) != 2) = true := by rw [bne_iff_ne]; omega
          have hni2 : ((n : Int) == 2) = false := by rw [beq_eq_false_iff_ne]; omega
          have HN : Hid (readR ws = none) := by
            rw [Hid, hwa, h2]
            match r, hwa with
            | [], _ => rfl
            | [y], hwa => exact absurd (by rw [← hl, hwa]; rfl) hnw
            | [y, z], _ => simp [readR, kw]
            | y :: z :: u :: v, _ => rfl

          clear HX HCELL HCELLW hwa h1 h2
          generalize mkS a = sa at *
          go_enter Tryd.func26, Tryd.ntmps26
          go_wp2
          exact bodyPost_ret (v := .tuple #[rulV (0, [], []), .bool false]) (by first | (simp [results, Tryd.results26, go_sem, rulV, mkS_nil, *]; done) | (simp [results, Tryd.results26, go_sem, rulV, mkS_nil]; done)) rfl ⟨⟨(0, [], []), false, rfl, HN.out⟩, ((Chg.refl No w).alloc _).alloc _⟩
        have hlo1 : ¬ (n : Int) < 2 := by omega
        have hlo2 : decide ((n : Int) < 2) = false := decide_eq_false hlo1
        have hhi1 : ¬ (3 : Int) < (n : Int) := by omega
        have hhi2 : decide ((3 : Int) < (n : Int)) = false := decide_eq_false hhi1
        have hni : ((n : Int) != 2) = true := by rw [bne_iff_ne]; omega
        have hni2 : ((n : Int) == 2) = false := by rw [beq_eq_false_iff_ne]; omega
        have HN : Hid (readR ws = none) := by
          rw [Hid, hwa, h2]
          match r, hwa with
          | [], _ => rfl
          | [y], hwa => exact absurd (by rw [← hl, hwa]; rfl) hnw
          | [y, z], _ => simp [readR, kw]
          | y :: z :: u :: v, _ => rfl

        clear HX HCELL HCELLW hwa h1 h2
        generalize mkS a = sa at *
        go_enter Tryd.func26, Tryd.ntmps26
        go_wp2
        exact bodyPost_ret (v := .tuple #[rulV (0, [], []), .bool false]) (by first | (simp [results, Tryd.results26, go_sem, rulV, mkS_nil, *]; done) | (simp [results, Tryd.results26, go_sem, rulV, mkS_nil]; done)) rfl ⟨⟨(0, [], []), false, rfl, HN.out⟩, ((Chg.refl No w).alloc _).alloc _⟩
   
    · by_cases h3 : a = [109, 111, 118, 101]
      · have n1 : ((mkS a).toList == [107, 101, 101, 112]) = false := by rw [Lib.toList_data, mkS_list, h3]; rfl
        have n2 : ((mkS a).toList == [100, 114, 111, 112]) = false := by rw [Lib.toList_data, mkS_list, h3]; rfl
        have n3 : ((mkS a).toList == [109, 111, 118, 101]) = true := by rw [Lib.toList_data, mkS_list, h3]; rfl
        by_cases hnw : n = 3
        · subst hnw
          obtain ⟨a1, a2, hws⟩ : ∃ a1 a2, ws = [a, a1, a2] := by
            match ws, hwa, hl with
            | x :: y :: [z], hwa, hl => exact ⟨y, z, by cases hwa; rfl⟩
            | [x], _, hl => simp at hl
            | [x, y], _, hl => simp at hl
            | x :: y :: z :: u :: r, _, hl => simp at hl
          have HB0 := Lib.hid fun W => refbare_calls W a1 (HX.out a1 (by rw [hws]; simp))
          obtain ⟨⟨f0, o0⟩, hb0⟩ : ∃ z, bareF a1 = z := ⟨_, rfl⟩
          rw [hb0] at HB0
          have HB1 := Lib.hid fun W => refbare_calls W a2 (HX.out a2 (by rw [hws]; simp))
          obtain ⟨⟨f1, o1⟩, hb1⟩ : ∃ z, bareF a2 = z := ⟨_, rfl⟩
          rw [hb1] at HB1
          have hw1 : ∀ o1 o2 : Obj, ((w.alloc o1).alloc o2).cell? ⟨b, o + 1, none⟩ = some (.string (mkS a1)) := fun o1 o2 => by
            have := HCELL.out 1 (by omega) o1 o2
            simpa [hws] using this
          have HCELLW : Hid (∀ W, Chg No w W → W.cell? ⟨b, o + 2, none⟩ = some (.string (mkS a2))) := fun W hW => by
            have := HCELLW.out 2 (by omega) W hW
            simpa [hws] using this
          have HN : Hid (readR ws = if o0 && o1 then some (3, f0, f1) else none) := by rw [Hid, hws, h3]; simp only [readR, hb0, hb1]; cases o0 <;> cases o1 <;> simp [kw]
          clear HX HCELL hwa hws hb0 hb1 h1 h2 h3 hl
          generalize mkS a = sa at *
          generalize mkS a1 = sa1 at *
          generalize mkS a2 = sa2 at *
          cases o0 with
          | false =>
            have HN : Hid (readR ws = none) := HN.out
            clear HCELLW
            go_enter Tryd.func26, Tryd.ntmps26
            go_wp2_with fail
            refine (HB0.out _).mono ?_
            rintro e w1 ⟨rfl, hc1⟩
            have HR2a := Lib.hid (hc1.heap (two_new w _ _).1 (fun x => x))
            have HR4a := Lib.hid (hc1.heap (two_new w _ _).2 (fun x => x))
            have HC1 : Hid (Chg No w w1) := (((Chg.refl No w).alloc _).alloc _).no hc1
            have hz1 : w.heap.size + 2 ≤ w1.heap.size := by have := hc1.size; simpa using this
            clear hc1
            obtain ⟨q0, q1, q2⟩ := heap3 HR2a.out
            obtain ⟨r0, r1, r2⟩ := heap3 HR4a.out
            have qf := fun i => frzAt HR2a.out i
            have rf := fun i => frzAt HR4a.out i
            have HRn : Hid ((w1.setCell ⟨w.heap.size + 1, 1, none⟩ (.string (mkS f0))).heap[w.heap.size]? = some (.cells #[.int .i64 0, .string ⟨#[]⟩, .string ⟨#[]⟩] 32)) := (Chg.put w1 (w.heap.size + 1) 1 _).heap HR2a.out (fun h => by have h : w.heap.size = w.heap.size + 1 := h; omega)
            have e0 := World.cell?_setCell_same (w1.setCell ⟨w.heap.size + 1, 1, none⟩ (.string (mkS f0))) ⟨w.heap.size, 0, none⟩ (.int .i64 3) (cellAt HRn.out 0 _ rfl)
            have e1 := World.cell?_setCell_same ((w1.setCell ⟨w.heap.size + 1, 1, none⟩ (.string (mkS f0))).setCell ⟨w.heap.size, 0, none⟩ (.int .i64 3)) ⟨w.heap.size, 1, none⟩ (.string (mkS f0)) (cellAt (heap_set HRn.out 0 (.int .i64 3)) 1 _ rfl)
            have e2 := World.cell?_setCell_same (((w1.setCell ⟨w.heap.size + 1, 1, none⟩ (.string (mkS f0))).setCell ⟨w.heap.size, 0, none⟩ (.int .i64 3)).setCell ⟨w.heap.size, 1, none⟩ (.string (mkS f0))) ⟨w.heap.size, 2, none⟩ (.string ⟨#[]⟩) (cellAt (heap_set (heap_set HRn.out 0 (.int .i64 3)) 1 (.string (mkS f0))) 2 _ rfl)
            go_wp2
            exact bodyPost_ret (v := .tuple #[rulV (3, f0, []), .bool false]) (by first | (simp [results, Tryd.results26, go_sem, rulV, mkS_nil, *]; done) | (simp [results, Tryd.results26, go_sem, rulV, mkS_nil]; done)) rfl ⟨⟨(3, f0, []), false, rfl, HN.out⟩, Chg.setCell (Chg.setCell (Chg.setCell (Chg.setCell HC1.out (.inl (show w.heap.size ≤ w.heap.size + 1 by omega)) _) (.inl (show w.heap.size ≤ w.heap.size by omega)) _) (.inl (show w.heap.size ≤ w.heap.size by omega)) _) (.inl (show w.heap.size ≤ w.heap.size by omega)) _⟩
          | true =>
            cases o1 with
            | false =>
              have HN : Hid (readR ws = none) := HN.out
              go_enter Tryd.func26, Tryd.ntmps26
              go_wp2_with fail
              refine (HB0.out _).mono ?_
              rintro e w1 ⟨rfl, hc1⟩
              have HR2a := Lib.hid (hc1.heap (two_new w _ _).1 (fun x => x))
              have HR4a := Lib.hid (hc1.heap (two_new w _ _).2 (fun x => x))
              have HC1 : Hid (Chg No w w1) := (((Chg.refl No w).alloc _).alloc _).no hc1
              have hz1 : w.heap.size + 2 ≤ w1.heap.size := by have := hc1.size; simpa using this
              clear hc1
              obtain ⟨q0, q1, q2⟩ := heap3 HR2a.out
              obtain ⟨r0, r1, r2⟩ := heap3 HR4a.out
              have qf := fun i => frzAt HR2a.out i
              have rf := fun i => frzAt HR4a.out i
              have hcw2 := HCELLW.out _ (Chg.setCell HC1.out (.inl (show w.heap.size ≤ w.heap.size + 1 by omega)) _ : Chg No w (w1.setCell ⟨w.heap.size + 1, 1, none⟩ (.string (mkS f0))))
              go_wp2_with fail
              refine (HB1.out _).mono ?_
              rintro e w2 ⟨rfl, hc2⟩
              clear q0 q1 q2 r0 r1 r2 qf rf hcw2
              have HR2b := Lib.hid (hc2.heap ((Chg.put w1 (w.heap.size + 1) 1 (.string (mkS f0))).heap HR2a.out (fun h => by have h : w.heap.size = w.heap.size + 1 := h; omega)) (fun x => x))
              have HR4b := Lib.hid (hc2.heap (heap_set HR4a.out 1 (.string (mkS f0))) (fun x => x))
              have HC2 : Hid (Chg No w w2) := (Chg.setCell HC1.out (.inl (show w.heap.size ≤ w.heap.size + 1 by omega)) _ : Chg No w (w1.setCell ⟨w.heap.size + 1, 1, none⟩ (.string (mkS f0)))).no hc2
              clear hc2
              obtain ⟨q0, q1, q2⟩ := heap3 HR2b.out
              obtain ⟨r0, r1, r2⟩ := heap3 HR4b.out
              have qf := fun i => frzAt HR2b.out i
              have rf := fun i => frzAt HR4b.out i
              have HRn : Hid ((w2.setCell ⟨w.heap.size + 1, 2, none⟩ (.string (mkS f1))).heap[w.heap.size]? = some (.cells #[.int .i64 0, .string ⟨#[]⟩, .string ⟨#[]⟩] 32)) := (Chg.put w2 (w.heap.size + 1) 2 _).heap HR2b.out (fun h => by have h : w.heap.size = w.heap.size + 1 := h; omega)
              have e0 := World.cell?_setCell_same (w2.setCell ⟨w.heap.size + 1, 2, none⟩ (.string (mkS f1))) ⟨w.heap.size, 0, none⟩ (.int .i64 3) (cellAt HRn.out 0 _ rfl)
              have e1 := World.cell?_setCell_same ((w2.setCell ⟨w.heap.size + 1, 2, none⟩ (.string (mkS f1))).setCell ⟨w.heap.size, 0, none⟩ (.int .i64 3)) ⟨w.heap.size, 1, none⟩ (.string (mkS f0)) (cellAt (heap_set HRn.out 0 (.int .i64 3)) 1 _ rfl)
              have e2 := World.cell?_setCell_same (((w2.setCell ⟨w.heap.size + 1, 2, none⟩ (.string (mkS f1))).setCell ⟨w.heap.size, 0, none⟩ (.int .i64 3)).setCell ⟨w.heap.size, 1, none⟩ (.string (mkS f0))) ⟨w.heap.size, 2, none⟩ (.string (mkS f1)) (cellAt (heap_set (heap_set HRn.out 0 (.int .i64 3)) 1 (.string (mkS f0))) 2 _ rfl)
              go_wp2
              exact bodyPost_ret (v := .tuple #[rulV (3, f0, f1), .bool false]) (by first | (simp [results, Tryd.results26, go_sem, rulV, mkS_nil, *]; done) | (simp [results, Tryd.results26, go_sem, rulV, mkS_nil]; done)) rfl ⟨⟨(3, f0, f1), false, rfl, HN.out⟩, Chg.setCell (Chg.setCell (Chg.setCell (Chg.setCell HC2.out (.inl (show w.heap.size ≤ w.heap.size + 1 by omega)) _) (.inl (show w.heap.size ≤ w.heap.size by omega)) _) (.inl (show w.heap.size ≤ w.heap.size by omega)) _) (.inl (show w.heap.size ≤ w.heap.size by omega)) _⟩
            | true =>
              have HN : Hid (readR ws = some (3, f0, f1)) := HN.out
              go_enter Tryd.func26, Tryd.ntmps26
              go_wp2_with fail
              refine (HB0.out _).mono ?_
              rintro e w1 ⟨rfl, hc1⟩
              have HR2a := Lib.hid (hc1.heap (two_new w _ _).1 (fun x => x))
              have HR4a := Lib.hid (hc1.heap (two_new w _ _).2 (fun x => x))
              have HC1 : Hid (Chg No w w1) := (((Chg.refl No w).alloc _).alloc _).no hc1
              have hz1 : w.heap.size + 2 ≤ w1.heap.size := by have := hc1.size; simpa using this
              clear hc1
              obtain ⟨q0, q1, q2⟩ := heap3 HR2a.out
              obtain ⟨r0, r1, r2⟩ := heap3 HR4a.out
              have qf := fun i => frzAt HR2a.out i
              have rf := fun i => frzAt HR4a.out i
              have hcw2 := HCELLW.out _ (Chg.setCell HC1.out (.inl (show w.heap.size ≤ w.heap.size + 1 by omega)) _ : Chg No w (w1.setCell ⟨w.heap.size + 1, 1, none⟩ (.string (mkS f0))))
              go_wp2_with fail
              refine (HB1.out _).mono ?_
              rintro e w2 ⟨rfl, hc2⟩
              clear q0 q1 q2 r0 r1 r2 qf rf hcw2
              have HR2b := Lib.hid (hc2.heap ((Chg.put w1 (w.heap.size + 1) 1 (.string (mkS f0))).heap HR2a.out (fun h => by have h : w.heap.size = w.heap.size + 1 := h; omega)) (fun x => x))
              have HR4b := Lib.hid (hc2.heap (heap_set HR4a.out 1 (.string (mkS f0))) (fun x => x))
              have HC2 : Hid (Chg No w w2) := (Chg.setCell HC1.out (.inl (show w.heap.size ≤ w.heap.size + 1 by omega)) _ : Chg No w (w1.setCell ⟨w.heap.size + 1, 1, none⟩ (.string (mkS f0)))).no hc2
              clear hc2
              obtain ⟨q0, q1, q2⟩ := heap3 HR2b.out
              obtain ⟨r0, r1, r2⟩ := heap3 HR4b.out
              have qf := fun i => frzAt HR2b.out i
              have rf := fun i => frzAt HR4b.out i
              have HRn : Hid ((w2.setCell ⟨w.heap.size + 1, 2, none⟩ (.string (mkS f1))).heap[w.heap.size]? = some (.cells #[.int .i64 0, .string ⟨#[]⟩, .string ⟨#[]⟩] 32)) := (Chg.put w2 (w.heap.size + 1) 2 _).heap HR2b.out (fun h => by have h : w.heap.size = w.heap.size + 1 := h; omega)
              have e0 := World.cell?_setCell_same (w2.setCell ⟨w.heap.size + 1, 2, none⟩ (.string (mkS f1))) ⟨w.heap.size, 0, none⟩ (.int .i64 3) (cellAt HRn.out 0 _ rfl)
              have e1 := World.cell?_setCell_same ((w2.setCell ⟨w.heap.size + 1, 2, none⟩ (.string (mkS f1))).setCell ⟨w.heap.size, 0, none⟩ (.int .i64 3)) ⟨w.heap.size, 1, none⟩ (.string (mkS f0)) (cellAt (heap_set HRn.out 0 (.int .i64 3)) 1 _ rfl)
              have e2 := World.cell?_setCell_same (((w2.setCell ⟨w.heap.size + 1, 2, none⟩ (.string (mkS f1))).setCell ⟨w.heap.size, 0, none⟩ (.int .i64 3)).setCell ⟨w.heap.size, 1, none⟩ (.string (mkS f0))) ⟨w.heap.size, 2, none⟩ (.string (mkS f1)) (cellAt (heap_set (heap_set HRn.out 0 (.int .i64 3)) 1 (.string (mkS f0))) 2 _ rfl)
              go_wp2
              exact bodyPost_ret (v := .tuple #[rulV (3, f0, f1), .bool true]) (by first | (simp [results, Tryd.results26, go_sem, rulV, mkS_nil, *]; done) | (simp [results, Tryd.results26, go_sem, rulV, mkS_nil]; done)) rfl ⟨⟨(3, f0, f1), true, rfl, HN.out⟩, Chg.setCell (Chg.setCell (Chg.setCell (Chg.setCell HC2.out (.inl (show w.heap.size ≤ w.heap.size + 1 by omega)) _) (.inl (show w.heap.size ≤ w.heap.size by omega)) _) (.inl (show w.heap.size ≤ w.heap.size by omega)) _) (.inl (show w.heap.size ≤ w.heap.size by omega)) _⟩
        · by_cases hlo : n < 2
          · have hlo1 : (n : Int) < 2 := by omega
            have hni : ((n : Int) != 3) = true := by rw [bne_iff_ne]; omega
            have hni2 : ((n : Int) == 3) = false := by rw [beq_eq_false_iff_ne]; omega
            have HN : Hid (readR ws = none) := by
              rw [Hid, hwa, h3]
              match r, hwa with
              | [], _ => rfl
              | [y], _ => simp [readR, kw]
              | [y, z], hwa => exact absurd (by rw [← hl, hwa]; rfl) hnw
              | y :: z :: u :: v, _ => rfl

            clear HX HCELL HCELLW hwa h1 h2 h3
            generalize mkS a = sa at *
            go_enter Tryd.func26, Tryd.ntmps26
            go_wp2
            exact bodyPost_ret (v := .tuple #[rulV (0, [], []), .bool false]) (by first | (simp [results, Tryd.results26, go_sem, rulV, mkS_nil, *]; done) | (simp [results, Tryd.results26, go_sem, rulV, mkS_nil]; done)) rfl ⟨⟨(0, [], []), false, rfl, HN.out⟩, ((Chg.refl No w).alloc _).alloc _⟩
          by_cases hhi : 3 < n
          · have hlo1 : ¬ (n : Int) < 2 := by omega
            have hlo2 : decide ((n : Int) < 2) = false := decide_eq_false hlo1
            have hhi1 : (3 : Int) < (n : Int) := by omega
            have hni : ((n : Int) != 3) = true := by rw [bne_iff_ne]; omega
            have hni2 : ((n : Int) == 3) = false := by rw [beq_eq_false_iff_ne]; omega
            have HN : Hid (readR ws = none) := by
              rw [Hid, hwa, h3]
              match r, hwa with
              | [], _ => rfl
              | [y], _ => simp [readR, kw]
              | [y, z], hwa => exact absurd (by rw [← hl, hwa]; rfl) hnw
              | y :: z :: u :: v, _ => rfl

            clear HX HCELL HCELLW hwa h1 h2 h3
            generalize mkS a = sa at *
            go_enter Tryd.func26, Tryd.ntmps26
            go_wp2
            exact bodyPost_ret (v := .tuple #[rulV (0, [], []), .bool false]) (by first | (simp [results, Tryd.results26, go_sem, rulV, mkS_nil, *]; done) | (simp [results, Tryd.results26, go_sem, rulV, mkS_nil]; done)) rfl ⟨⟨(0, [], []), false, rfl, HN.out⟩, ((Chg.refl No w).alloc _).alloc _⟩
          have hlo1 : ¬ (n : Int) < 2 := by omega
          have hlo2 : decide ((n : Int) < 2) = false := decide_eq_false hlo1
          have hhi1 : ¬ (3 : Int) < (n : Int) := by omega
          have hhi2 : decide ((3 : Int) < (n : Int)) = false := decide_eq_false hhi1
          have hni : ((n : Int) != 3) = true := by rw [bne_iff_ne]; omega
          have hni2 : ((n : Int) == 3) = false := by rw [beq_eq_false_iff_ne]; omega
          have HN : Hid (readR ws = none) := by
            rw [Hid, hwa, h3]
            match r, hwa with
            | [], _ => rfl
            | [y], _ => simp [readR, kw]
            | [y, z], hwa => exact absurd (by rw [← hl, hwa]; rfl) hnw
            | y :: z :: u :: v, _ => rfl

          clear HX HCELL HCELLW hwa h1 h2 h3
          generalize mkS a = sa at *
          go_enter Tryd.func26, Tryd.ntmps26
          go_wp2
          exact bodyPost_ret (v := .tuple #[rulV (0, [], []), .bool false]) (by first | (simp [results, Tryd.results26, go_sem, rulV, mkS_nil, *]; done) | (simp [results, Tryd.results26, go_sem, rulV, mkS_nil]; done)) rfl ⟨⟨(0, [], []), false, rfl, HN.out⟩, ((Chg.refl No w).alloc _).alloc _⟩
      · have n1 : ((mkS a).toList == [107, 101, 101, 112]) = false := by rw [Lib.toList_data, mkS_list]; exact beq_eq_false_iff_ne.2 h1
        have n2 : ((mkS a).toList == [100, 114, 111, 112]) = false := by rw [Lib.toList_data, mkS_list]; exact beq_eq_false_iff_ne.2 h2
        have n3 : ((mkS a).toList == [109, 111, 118, 101]) = false := by rw [Lib.toList_data, mkS_list]; exact beq_eq_false_iff_ne.2 h3
        by_cases hlo : n < 2
        · have hlo1 : (n : Int) < 2 := by omega
          have HN : Hid (readR ws = none) := by
            rw [Hid, hwa]
            match r, hwa with
            | [], _ => rfl
            | [y], _ => simp [readR, kw, h1, h2]
            | [y, z], _ => simp [readR, kw, h3]
            | y :: z :: u :: v, _ => rfl

          clear HX HCELL HCELLW hwa h1 h2 h3
          generalize mkS a = sa at *
          go_enter Tryd.func26, Tryd.ntmps26
          go_wp2
          exact bodyPost_ret (v := .tuple #[rulV (0, [], []), .bool false]) (by first | (simp [results, Tryd.results26, go_sem, rulV, mkS_nil, *]; done) | (simp [results, Tryd.results26, go_sem, rulV, mkS_nil]; done)) rfl ⟨⟨(0, [], []), false, rfl, HN.out⟩, ((Chg.refl No w).alloc _).alloc _⟩
        by_cases hhi : 3 < n
        · have hlo1 : ¬ (n : Int) < 2 := by omega
          have hlo2 : decide ((n : Int) < 2) = false := decide_eq_false hlo1
          have hhi1 : (3 : Int) < (n : Int) := by omega
          have HN : Hid (readR ws = none) := by
            rw [Hid, hwa]
            match r, hwa with
            | [], _ => rfl
            | [y], _ => simp [readR, kw, h1, h2]
            | [y, z], _ => simp [readR, kw, h3]
            | y :: z :: u :: v, _ => rfl

          clear HX HCELL HCELLW hwa h1 h2 h3
          generalize mkS a = sa at *
          go_enter Tryd.func26, Tryd.ntmps26
          go_wp2
          exact bodyPost_ret (v := .tuple #[rulV (0, [], []), .bool false]) (by first | (simp [results, Tryd.results26, go_sem, rulV, mkS_nil, *]; done) | (simp [results, Tryd.results26, go_sem, rulV, mkS_nil]; done)) rfl ⟨⟨(0, [], []), false, rfl, HN.out⟩, ((Chg.refl No w).alloc _).alloc _⟩
        have hlo1 : ¬ (n : Int) < 2 := by omega
        have hlo2 : decide ((n : Int) < 2) = false := decide_eq_false hlo1
        have hhi1 : ¬ (3 : Int) < (n : Int) := by omega
        have hhi2 : decide ((3 : Int) < (n : Int)) = false := decide_eq_false hhi1
        have HN : Hid (readR ws = none) := by
          rw [Hid, hwa]
          match r, hwa with
          | [], _ => rfl
          | [y], _ => simp [readR, kw, h1, h2]
          | [y, z], _ => simp [readR, kw, h3]
          | y :: z :: u :: v, _ => rfl

        clear HX HCELL HCELLW hwa h1 h2 h3
        generalize mkS a = sa at *
        go_enter Tryd.func26, Tryd.ntmps26
        go_wp2
        exact bodyPost_ret (v := .tuple #[rulV (0, [], []), .bool false]) (by first | (simp [results, Tryd.results26, go_sem, rulV, mkS_nil, *]; done) | (simp [results, Tryd.results26, go_sem, rulV, mkS_nil]; done)) rfl ⟨⟨(0, [], []), false, rfl, HN.out⟩, ((Chg.refl No w).alloc _).alloc _⟩
end Go.Proofs.YtcomcoolmabmgaaDoor
