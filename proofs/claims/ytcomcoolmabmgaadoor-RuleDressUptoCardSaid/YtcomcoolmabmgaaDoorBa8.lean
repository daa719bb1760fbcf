/-
  Rl2, L2, Rl3: in one text.
-/
import Derived.Test.YtcomcoolmabmgaaDoorBa7
import Derived.Laws.StructEq
import Derived.RangeFuncFrom
import Derived.RangeFuncNested
import Derived.RangeFuncBound
import Derived.RangeFuncCalls
import Derived.RangeFuncLeaves
import Derived.Shelf.Abstract
import Derived.Shelf.RegionOpen
import Derived.WalkKit
import Derived.OwnWalkIn
import Derived.TacticsInMore
import Derived.LoopNIn
import Derived.LoopIn
import Derived.Test.YtcomcoolmabmgaaDoorBa3
import Derived.RangeFuncBox
namespace Go.Proofs.YtcomcoolmabmgaaDoor
set_option linter.unnecessarySimpa false
open Go.RowKit
set_option linter.unusedVariables false
set_option linter.unusedSimpArgs false
set_option maxRecDepth 100000

theorem spot_guard (w : World) (x y : Operand) (xs ys : Array Value) : (eqGuard .eql 26 x y (.agg xs) (.agg ys)).run Tryd.prog w = .ok () w := run_eqGuard_agg w _ _ _ _ _ _ (by kernel_rfl)
theorem spot_eq (w : World) (a b c d : Int) : (binOp .eql 26 (.agg #[.int .i64 a, .int .i64 b]) (.agg #[.int .i64 c, .int .i64 d])).run Tryd.prog w = .ok (.bool (a == c && b == d)) w := by
  rw [run_eql_struct, run_equalIn_agg w _ _ _ _ Tryd.underlying26 (by kernel_rfl)]
  go_simp
  by_cases h1 : a = c
  · by_cases h2 : b = d
    · simp [h1, h2]
    · simp [h1, h2]
  · simp [h1]
theorem rpath_calls (w : World) (p : List UInt8) (hp : p.length ≤ 9223372036854775807) : Calls Tryd.prog 30 #[.string (mkS p)] w fun e w' => e = .returned (.bool (isP p)) ∧ Chg No w w' := by
  have eg := fun w x y xs ys => spot_guard w x y xs ys
  have en := fun w a b c d => spot_eq w a b c d
  have HP := Lib.hid (path_calls w (mkS p) (by rw [mkS_size]; exact hp))
  rw [mkS_list] at HP
  have HQ : Hid (((pathF p).1 == 0 && (pathF p).2 == 0) = isP p) := pathq p
  obtain ⟨⟨a, b⟩, h⟩ : ∃ z, pathF p = z := ⟨_, rfl⟩
  rw [h] at HP HQ
  unfold spotV at HP
  clear h
  go_enter Tryd.func30, Tryd.ntmps30
  go_wp2_with fail
  refine HP.out.mono ?_
  rintro e w1 ⟨rfl, hc1⟩
  go_wp2
  go_ret
  exact ⟨by rw [← HQ.out]; rfl, hc1⟩
theorem wrong_calls (w : World) (p : List UInt8) (hp : p.length ≤ 9223372036854775807) : Calls Tryd.prog 29 #[.string (mkS p)] w fun e w' => e = .returned (.bool (!isP p)) ∧ Chg No w w' := by
  have HP := Lib.hid (refis_calls w (mkS p) (by rw [mkS_size]; exact hp))
  rw [mkS_list] at HP
  go_enter Tryd.func29, Tryd.ntmps29
  go_wp2_with fail
  refine HP.out.mono ?_
  rintro e w1 ⟨rfl, hc1⟩
  go_wp2
  go_ret
  exact ⟨rfl, hc1⟩
theorem bare_calls (w : World) (p : List UInt8) (hp : p.length ≤ 9223372036854775807) : Calls Tryd.prog 46 #[.string (mkS p)] w fun e w' => e = .returned (.tuple #[.string (mkS (bareF p).1), .bool (bareF p).2]) ∧ Chg No w w' := by
  by_cases h1 : p = [47]
  · have HB : Hid (bareF p = ([], true)) := if_pos h1
    have n1 : ((mkS p).toList == [47]) = true := by rw [Lib.toList_data, mkS_list, h1]; rfl
    clear h1
    go_enter Tryd.func46, Tryd.ntmps46
    go_wp2
    go_ret2
    exact ⟨by rw [HB.out]; rfl, Chg.refl _ _⟩
  · have HB : Hid (bareF p = (p, decide (p ≠ []) && isP p)) := if_neg h1
    have n1 : ((mkS p).toList == [47]) = false := by rw [Lib.toList_data, mkS_list]; exact beq_eq_false_iff_ne.2 h1
    clear h1
    by_cases h2 : p = []
    · have HB2 : Hid (bareF p = (p, false)) := by rw [Hid, HB.out, h2]; rfl
      have n2 : ((mkS p).toList == []) = true := by rw [Lib.toList_data, mkS_list, h2]; rfl
      have n3 : (mkS p).toList = [] := by rw [Lib.toList_data, mkS_list, h2]
      have n4 : (mkS p).toList.isEmpty = true := by rw [n3]; rfl
      clear h2
      go_enter Tryd.func46, Tryd.ntmps46
      go_wp2
      go_ret2
      exact ⟨by rw [HB2.out]; rfl, Chg.refl _ _⟩
    · have HB2 : Hid (bareF p = (p, isP p)) := by rw [Hid, HB.out, decide_eq_true h2]; rfl
      have n2 : ((mkS p).toList == []) = false := bytes_ne (by rw [mkS_list]; exact h2)
      have n4 : (mkS p).toList.isEmpty = false := by rw [Lib.toList_data, mkS_list]; cases p with | nil => exact absurd rfl h2 | cons => rfl
      have n3 : ¬ (mkS p).toList = [] := by rw [Lib.toList_data, mkS_list]; exact h2
      clear h2
      have HP := Lib.hid (rpath_calls w p hp)
      go_enter Tryd.func46, Tryd.ntmps46
      go_wp2_with fail
      refine HP.out.mono ?_
      rintro e w1 ⟨rfl, hc1⟩
      go_wp2
      go_ret2
      exact ⟨by rw [HB2.out]; first | rfl | simp | (rw [Bool.not_not]; rfl), hc1⟩
theorem refbare_calls (w : World) (p : List UInt8) (hp : p.length ≤ 9223372036854775807) : Calls Tryd.prog 49 #[.string (mkS p)] w fun e w' => e = .returned (.tuple #[.string (mkS (bareF p).1), .bool (bareF p).2]) ∧ Chg No w w' := by
  by_cases h1 : p = [47]
  · have HB : Hid (bareF p = ([], true)) := if_pos h1
    have n1 : ((mkS p).toList == [47]) = true := by rw [Lib.toList_data, mkS_list, h1]; rfl
    clear h1
    go_enter Tryd.func49, Tryd.ntmps49
    go_wp2
    go_ret2
    exact ⟨by rw [HB.out]; rfl, Chg.refl _ _⟩
  · have HB : Hid (bareF p = (p, decide (p ≠ []) && isP p)) := if_neg h1
    have n1 : ((mkS p).toList == [47]) = false := by rw [Lib.toList_data, mkS_list]; exact beq_eq_false_iff_ne.2 h1
    clear h1
    by_cases h2 : p = []
    · have HB2 : Hid (bareF p = (p, false)) := by rw [Hid, HB.out, h2]; rfl
      have n2 : ((mkS p).toList == []) = true := by rw [Lib.toList_data, mkS_list, h2]; rfl
      have n3 : (mkS p).toList = [] := by rw [Lib.toList_data, mkS_list, h2]
      have n4 : (mkS p).toList.isEmpty = true := by rw [n3]; rfl
      clear h2
      go_enter Tryd.func49, Tryd.ntmps49
      go_wp2
      go_ret2
      exact ⟨by rw [HB2.out]; rfl, Chg.refl _ _⟩
    · have HB2 : Hid (bareF p = (p, isP p)) := by rw [Hid, HB.out, decide_eq_true h2]; rfl
      have n2 : ((mkS p).toList == []) = false := bytes_ne (by rw [mkS_list]; exact h2)
      have n4 : (mkS p).toList.isEmpty = false := by rw [Lib.toList_data, mkS_list]; cases p with | nil => exact absurd rfl h2 | cons => rfl
      have n3 : ¬ (mkS p).toList = [] := by rw [Lib.toList_data, mkS_list]; exact h2
      clear h2
      have HP := Lib.hid (wrong_calls w p hp)
      go_enter Tryd.func49, Tryd.ntmps49
      go_wp2_with fail
      refine HP.out.mono ?_
      rintro e w1 ⟨rfl, hc1⟩
      go_wp2
      go_ret2
      exact ⟨by rw [HB2.out]; first | rfl | simp | (rw [Bool.not_not]; rfl), hc1⟩
/-- What read answers. -/
def ReadR (e : Ending) (ws : List (List UInt8)) : Prop := ∃ (x : Rul) (ok : Bool), e = .returned (.tuple #[rulV x, .bool ok]) ∧ readR ws = if ok then some x else none
theorem heap3 {W : World} {g : Nat} {a b c : Value} {t : TypeId} {fz : Nat × Nat} (h : W.heap[g]? = some (.cells #[a, b, c] t fz)) : W.cell? ⟨g, 0, none⟩ = some a ∧ W.cell? ⟨g, 1, none⟩ = some b ∧ W.cell? ⟨g, 2, none⟩ = some c := ⟨cellAt h 0 _ rfl, cellAt h 1 _ rfl, cellAt h 2 _ rfl⟩
theorem heap_set {w : World} {g : Nat} {cs : Array Value} {t : TypeId} {fz : Nat × Nat} (h : w.heap[g]? = some (.cells cs t fz)) (i : Nat) (u : Value) : (w.setCell ⟨g, i, none⟩ u).heap[g]? = some (.cells (cs.setIfInBounds i u) t fz) := by
  unfold World.setCell
  simp [Array.getElem?_modify, h]
theorem readR_other {ws : List (List UInt8)} (h2 : ws.length ≠ 2) (h3 : ws.length ≠ 3) : readR ws = none := by
  match ws with
  | [] => rfl
  | [_] => rfl
  | [_, _] => exact absurd rfl h2
  | [_, _, _] => exact absurd rfl h3
  | _ :: _ :: _ :: _ :: _ => rfl
theorem two_new (w : World) (o1 o2 : Obj) : ((w.alloc o1).alloc o2).heap[w.heap.size]? = some o1 ∧ ((w.alloc o1).alloc o2).heap[w.heap.size + 1]? = some o2 := by
  refine ⟨((Chg.refl No (w.alloc o1)).alloc o2).heap (heap_alloc_new w o1) (fun x => x), ?_⟩
  have := heap_alloc_new (w.alloc o1) o2
  rwa [World.size_alloc] at this
theorem kw_ne : kw 1 ≠ kw 2 ∧ kw 1 ≠ kw 3 ∧ kw 2 ≠ kw 3 := by decide
set_option maxHeartbeats 6400000 in
theorem read_calls (w : World) (A : Option Addr) (n c : Nat) (ws : List (List UInt8)) (h : Sl strv w (.slice A n c) ws) (hn : 1 ≤ n) (hn2 : n ≤ 9223372036854775807) (hx : ∀ x ∈ ws, x.length ≤ 9223372036854775807) :
    Calls Tryd.prog 23 #[.slice A n c] w fun e w' => ReadR e ws ∧ Chg No w w' := by
  have hl := h.len
  obtain ⟨b, o, rfl, hcell⟩ := h.addr (by omega)
  have HX := Lib.hid hx
  have HCELL : Hid (∀ k (hk : k < ws.length) (o1 o2 : Obj), ((w.alloc o1).alloc o2).cell? ⟨b, o + k, none⟩ = some (.string (mkS ws[k]))) := fun k hk o1 o2 => (((Chg.refl No w).alloc o1).alloc o2).cell (hcell k hk) (fun x => x)
  have HCELLW : Hid (∀ k (hk : k < ws.length) W, Chg No w W → W.cell? ⟨b, o + k, none⟩ = some (.string (mkS ws[k]))) := fun k hk W hW => hW.cell (hcell k hk) (fun x => x)
  have HBLT : Hid (b < w.heap.size) := World.block_lt_of_cell? _ _ (hcell 0 (by omega))
  obtain ⟨a, r, hwa⟩ : ∃ a r, ws = a :: r := by
    cases ws with
    | nil => simp at hl; omega
    | cons a r => exact ⟨a, r, rfl⟩
  have hw0 : ∀ o1 o2 : Obj, ((w.alloc o1).alloc o2).cell? ⟨b, o, none⟩ = some (.string (mkS a)) := fun o1 o2 => by
    have := HCELL.out 0 (by omega) o1 o2
    simpa [hwa] using this
  clear hcell h hx
  by_cases h1 : a = [107, 101, 101, 112]
  · have n1 : ((mkS a).toList == [107, 101, 101, 112]) = true := by rw [Lib.toList_data, mkS_list, h1]; rfl
    have n2 : ((mkS a).toList == [100, 114, 111, 112]) = false := by rw [Lib.toList_data, mkS_list, h1]; rfl
    have n3 : ((mkS a).toList == [109, 111, 118, 101]) = false := by rw [Lib.toList_data, mkS_list, h1]; rfl
    by_cases hnw : n = 2
    · subst hnw
      obtain ⟨a1, hws⟩ : ∃ a1, ws = [a, a1] := by
        match ws, hwa, hl with
        | x :: [y], hwa, hl => exact ⟨y, by cases hwa; rfl⟩
        | [x], _, hl => simp at hl
        | x :: y :: z :: r, _, hl => simp at hl
      have HB0 := Lib.hid fun W => bare_calls W a1 (HX.out a1 (by rw [hws]; simp))
      obtain ⟨⟨f0, o0⟩, hb0⟩ : ∃ z, bareF a1 = z := ⟨_, rfl⟩
      rw [hb0] at HB0
      have hw1 : ∀ o1 o2 : Obj, ((w.alloc o1).alloc o2).cell? ⟨b, o + 1, none⟩ = some (.string (mkS a1)) := fun o1 o2 => by
        have := HCELL.out 1 (by omega) o1 o2
        simpa [hws] using this
      have HN : Hid (readR ws = if o0 then some (1, f0, []) else none) := by rw [Hid, hws, h1]; simp only [readR, hb0]; cases o0 <;> simp [kw]
      clear HX HCELL hwa hws hb0 h1 hl
      clear HCELLW
      generalize mkS a = sa at *
      generalize mkS a1 = sa1 at *
      cases o0 with
      | false =>
        have HN : Hid (readR ws = none) := HN.out
        go_enter Tryd.func23, Tryd.ntmps23
        go_wp2_with fail
        refine (HB0.out _).mono ?_
        rintro e w1 ⟨rfl, hc1⟩
        have HR2a := Lib.hid (hc1.heap (two_new w _ _).1 (fun x => x))
        have HR4a := Lib.hid (hc1.heap (two_new w _ _).2 (fun x => x))
        have HC1 : Hid (Chg No w w1) := (((Chg.refl No w).alloc _).alloc _).no hc1
        have hz1 : w.heap.size + 2 ≤ w1.heap.size := by have := hc1.size; simpa using this
        clear hc1
        obtain ⟨q0, q1, q2⟩ := heap3 HR2a.out
        obtain ⟨r0, r1, r2⟩ := heap3 HR4a.out
        have qf := fun i => frzAt HR2a.out i
        have rf := fun i => frzAt HR4a.out i
        have HRn : Hid ((w1.setCell ⟨w.heap.size + 1, 1, none⟩ (.string (mkS f0))).heap[w.heap.size]? = some (.cells #[.int .i64 0, .string ⟨#[]⟩, .string ⟨#[]⟩] 32)) := (Chg.put w1 (w.heap.size + 1) 1 _).heap HR2a.out (fun h => by have h : w.heap.size = w.heap.size + 1 := h; omega)
        have e0 := World.cell?_setCell_same (w1.setCell ⟨w.heap.size + 1, 1, none⟩ (.string (mkS f0))) ⟨w.heap.size, 0, none⟩ (.int .i64 1) (cellAt HRn.out 0 _ rfl)
        have e1 := World.cell?_setCell_same ((w1.setCell ⟨w.heap.size + 1, 1, none⟩ (.string (mkS f0))).setCell ⟨w.heap.size, 0, none⟩ (.int .i64 1)) ⟨w.heap.size, 1, none⟩ (.string (mkS f0)) (cellAt (heap_set HRn.out 0 (.int .i64 1)) 1 _ rfl)
        have e2 := World.cell?_setCell_same (((w1.setCell ⟨w.heap.size + 1, 1, none⟩ (.string (mkS f0))).setCell ⟨w.heap.size, 0, none⟩ (.int .i64 1)).setCell ⟨w.heap.size, 1, none⟩ (.string (mkS f0))) ⟨w.heap.size, 2, none⟩ (.string ⟨#[]⟩) (cellAt (heap_set (heap_set HRn.out 0 (.int .i64 1)) 1 (.string (mkS f0))) 2 _ rfl)
        go_wp2
        exact bodyPost_ret (v := .tuple #[rulV (1, f0, []), .bool false]) (by first | (simp [results, Tryd.results23, go_sem, rulV, mkS_nil, *]; done) | (simp [results, Tryd.results23, go_sem, rulV, mkS_nil]; done)) rfl ⟨⟨(1, f0, []), false, rfl, HN.out⟩, Chg.setCell (Chg.setCell (Chg.setCell (Chg.setCell HC1.out (.inl (show w.heap.size ≤ w.heap.size + 1 by omega)) _) (.inl (show w.heap.size ≤ w.heap.size by omega)) _) (.inl (show w.heap.size ≤ w.heap.size by omega)) _) (.inl (show w.heap.size ≤ w.heap.size by omega)) _⟩
      | true =>
        have HN : Hid (readR ws = some (1, f0, [])) := HN.out
        go_enter Tryd.func23, Tryd.ntmps23
        go_wp2_with fail
        refine (HB0.out _).mono ?_
        rintro e w1 ⟨rfl, hc1⟩
        have HR2a := Lib.hid (hc1.heap (two_new w _ _).1 (fun x => x))
        have HR4a := Lib.hid (hc1.heap (two_new w _ _).2 (fun x => x))
        have HC1 : Hid (Chg No w w1) := (((Chg.refl No w).alloc _).alloc _).no hc1
        have hz1 : w.heap.size + 2 ≤ w1.heap.size := by have := hc1.size; simpa using this
        clear hc1
        obtain ⟨q0, q1, q2⟩ := heap3 HR2a.out
        obtain ⟨r0, r1, r2⟩ := heap3 HR4a.out
        have qf := fun i => frzAt HR2a.out i
        have rf := fun i => frzAt HR4a.out i
        have HRn : Hid ((w1.setCell ⟨w.heap.size + 1, 1, none⟩ (.string (mkS f0))).heap[w.heap.size]? = some (.cells #[.int .i64 0, .string ⟨#[]⟩, .string ⟨#[]⟩] 32)) := (Chg.put w1 (w.heap.size + 1) 1 _).heap HR2a.out (fun h => by have h : w.heap.size = w.heap.size + 1 := h; omega)
        have e0 := World.cell?_setCell_same (w1.setCell ⟨w.heap.size + 1, 1, none⟩ (.string (mkS f0))) ⟨w.heap.size, 0, none⟩ (.int .i64 1) (cellAt HRn.out 0 _ rfl)
        have e1 := World.cell?_setCell_same ((w1.setCell ⟨w.heap.size + 1, 1, none⟩ (.string (mkS f0))).setCell ⟨w.heap.size, 0, none⟩ (.int .i64 1)) ⟨w.heap.size, 1, none⟩ (.string (mkS f0)) (cellAt (heap_set HRn.out 0 (.int .i64 1)) 1 _ rfl)
        have e2 := World.cell?_setCell_same (((w1.setCell ⟨w.heap.size + 1, 1, none⟩ (.string (mkS f0))).setCell ⟨w.heap.size, 0, none⟩ (.int .i64 1)).setCell ⟨w.heap.size, 1, none⟩ (.string (mkS f0))) ⟨w.heap.size, 2, none⟩ (.string ⟨#[]⟩) (cellAt (heap_set (heap_set HRn.out 0 (.int .i64 1)) 1 (.string (mkS f0))) 2 _ rfl)
        go_wp2
        exact bodyPost_ret (v := .tuple #[rulV (1, f0, []), .bool true]) (by first | (simp [results, Tryd.results23, go_sem, rulV, mkS_nil, *]; done) | (simp [results, Tryd.results23, go_sem, rulV, mkS_nil]; done)) rfl ⟨⟨(1, f0, []), true, rfl, HN.out⟩, Chg.setCell (Chg.setCell (Chg.setCell (Chg.setCell HC1.out (.inl (show w.heap.size ≤ w.heap.size + 1 by omega)) _) (.inl (show w.heap.size ≤ w.heap.size by omega)) _) (.inl (show w.heap.size ≤ w.heap.size by omega)) _) (.inl (show w.heap.size ≤ w.heap.size by omega)) _⟩
    · have hni : ((n : Int) != 2) = true := by rw [bne_iff_ne]; omega
      have hni2 : ((n : Int) == 2) = false := by rw [beq_eq_false_iff_ne]; omega
      have HN : Hid (readR ws = none) := by
        rw [Hid, hwa, h1]
        match r, hwa with
        | [], _ => rfl
        | [y], hwa => exact absurd (by rw [← hl, hwa]; rfl) hnw
        | [y, z], _ => simp [readR, kw]
        | y :: z :: u :: v, _ => rfl

      clear HX HCELL HCELLW hwa h1
      generalize mkS a = sa at *
      go_enter Tryd.func23, Tryd.ntmps23
      go_wp2
      exact bodyPost_ret (v := .tuple #[rulV (1, [], []), .bool false]) (by first | (simp [results, Tryd.results23, go_sem, rulV, mkS_nil, *]; done) | (simp [results, Tryd.results23, go_sem, rulV, mkS_nil]; done)) rfl ⟨⟨(1, [], []), false, rfl, HN.out⟩, ((Chg.refl No w).alloc _).alloc _⟩
 
  · by_cases h2 : a = [100, 114, 111, 112]
    · have n1 : ((mkS a).toList == [107, 101, 101, 112]) = false := by rw [Lib.toList_data, mkS_list, h2]; rfl
      have n2 : ((mkS a).toList == [100, 114, 111, 112]) = true := by rw [Lib.toList_data, mkS_list, h2]; rfl
      have n3 : ((mkS a).toList == [109, 111, 118, 101]) = false := by rw [Lib.toList_data, mkS_list, h2]; rfl
      by_cases hnw : n = 2
      · subst hnw
        obtain ⟨a1, hws⟩ : ∃ a1, ws = [a, a1] := by
          match ws, hwa, hl with
          | x :: [y], hwa, hl => exact ⟨y, by cases hwa; rfl⟩
          | [x], _, hl => simp at hl
          | x :: y :: z :: r, _, hl => simp at hl
        have HB0 := Lib.hid fun W => bare_calls W a1 (HX.out a1 (by rw [hws]; simp))
        obtain ⟨⟨f0, o0⟩, hb0⟩ : ∃ z, bareF a1 = z := ⟨_, rfl⟩
        rw [hb0] at HB0
        have hw1 : ∀ o1 o2 : Obj, ((w.alloc o1).alloc o2).cell? ⟨b, o + 1, none⟩ = some (.string (mkS a1)) := fun o1 o2 => by
          have := HCELL.out 1 (by omega) o1 o2
          simpa [hws] using this
        have HN : Hid (readR ws = if o0 then some (2, f0, []) else none) := by rw [Hid, hws, h2]; simp only [readR, hb0]; cases o0 <;> simp [kw]
        clear HX HCELL hwa hws hb0 h1 h2 hl
        clear HCELLW
        generalize mkS a = sa at *
        generalize mkS a1 = sa1 at *
        cases o0 with
        | false =>
          have HN : Hid (readR ws = none) := HN.out
          go_enter Tryd.func23, Tryd.ntmps23
          go_wp2_with fail
          refine (HB0.out _).mono ?_
          rintro e w1 ⟨rfl, hc1⟩
          have HR2a := Lib.hid (hc1.heap (two_new w _ _).1 (fun x => x))
          have HR4a := Lib.hid (hc1.heap (two_new w _ _).2 (fun x => x))
          have HC1 : Hid (Chg No w w1) := (((Chg.refl No w).alloc _).alloc _).no hc1
          have hz1 : w.heap.size + 2 ≤ w1.heap.size := by have := hc1.size; simpa using this
          clear hc1
          obtain ⟨q0, q1, q2⟩ := heap3 HR2a.out
          obtain ⟨r0, r1, r2⟩ := heap3 HR4a.out
          have qf := fun i => frzAt HR2a.out i
          have rf := fun i => frzAt HR4a.out i
          have HRn : Hid ((w1.setCell ⟨w.heap.size + 1, 1, none⟩ (.string (mkS f0))).heap[w.heap.size]? = some (.cells #[.int .i64 0, .string ⟨#[]⟩, .string ⟨#[]⟩] 32)) := (Chg.put w1 (w.heap.size + 1) 1 _).heap HR2a.out (fun h => by have h : w.heap.size = w.heap.size + 1 := h; omega)
          have e0 := World.cell?_setCell_same (w1.setCell ⟨w.heap.size + 1, 1, none⟩ (.string (mkS f0))) ⟨w.heap.size, 0, none⟩ (.int .i64 2) (cellAt HRn.out 0 _ rfl)
          have e1 := World.cell?_setCell_same ((w1.setCell ⟨w.heap.size + 1, 1, none⟩ (.string (mkS f0))).setCell ⟨w.heap.size, 0, none⟩ (.int .i64 2)) ⟨w.heap.size, 1, none⟩ (.string (mkS f0)) (cellAt (heap_set HRn.out 0 (.int .i64 2)) 1 _ rfl)
          have e2 := World.cell?_setCell_same (((w1.setCell ⟨w.heap.size + 1, 1, none⟩ (.string (mkS f0))).setCell ⟨w.heap.size, 0, none⟩ (.int .i64 2)).setCell ⟨w.heap.size, 1, none⟩ (.string (mkS f0))) ⟨w.heap.size, 2, none⟩ (.string ⟨#[]⟩) (cellAt (heap_set (heap_set HRn.out 0 (.int .i64 2)) 1 (.string (mkS f0))) 2 _ rfl)
          go_wp2
          exact bodyPost_ret (v := .tuple #[rulV (2, f0, []), .bool false]) (by first | (simp [results, Tryd.results23, go_sem, rulV, mkS_nil, *]; done) | (simp [results, Tryd.results23, go_sem, rulV, mkS_nil]; done)) rfl ⟨⟨(2, f0, []), false, rfl, HN.out⟩, Chg.setCell (Chg.setCell (Chg.setCell (Chg.setCell HC1.out (.inl (show w.heap.size ≤ w.heap.size + 1 by omega)) _) (.inl (show w.heap.size ≤ w.heap.size by omega)) _) (.inl (show w.heap.size ≤ w.heap.size by omega)) _) (.inl (show w.heap.size ≤ w.heap.size by omega)) _⟩
        | true =>
          have HN : Hid (readR ws = some (2, f0, [])) := HN.out
          go_enter Tryd.func23, Tryd.ntmps23
          go_wp2_with fail
          refine (HB0.out _).mono ?_
          rintro e w1 ⟨rfl, hc1⟩
          have HR2a := Lib.hid (hc1.heap (two_new w _ _).1 (fun x => x))
          have HR4a := Lib.hid (hc1.heap (two_new w _ _).2 (fun x => x))
          have HC1 : Hid (Chg No w w1) := (((Chg.refl No w).alloc _).alloc _).no hc1
          have hz1 : w.heap.size + 2 ≤ w1.heap.size := by have := hc1.size; simpa using this
          clear hc1
          obtain ⟨q0, q1, q2⟩ := heap3 HR2a.out
          obtain ⟨r0, r1, r2⟩ := heap3 HR4a.out
          have qf := fun i => frzAt HR2a.out i
          have rf := fun i => frzAt HR4a.out i
          have HRn : Hid ((w1.setCell ⟨w.heap.size + 1, 1, none⟩ (.string (mkS f0))).heap[w.heap.size]? = some (.cells #[.int .i64 0, .string ⟨#[]⟩, .string ⟨#[]⟩] 32)) := (Chg.put w1 (w.heap.size + 1) 1 _).heap HR2a.out (fun h => by have h : w.heap.size = w.heap.size + 1 := h; omega)
          have e0 := World.cell?_setCell_same (w1.setCell ⟨w.heap.size + 1, 1, none⟩ (.string (mkS f0))) ⟨w.heap.size, 0, none⟩ (.int .i64 2) (cellAt HRn.out 0 _ rfl)
          have e1 := World.cell?_setCell_same ((w1.setCell ⟨w.heap.size + 1, 1, none⟩ (.string (mkS f0))).setCell ⟨w.heap.size, 0, none⟩ (.int .i64 2)) ⟨w.heap.size, 1, none⟩ (.string (mkS f0)) (cellAt (heap_set HRn.out 0 (.int .i64 2)) 1 _ rfl)
          have e2 := World.cell?_setCell_same (((w1.setCell ⟨w.heap.size + 1, 1, none⟩ (.string (mkS f0))).setCell ⟨w.heap.size, 0, none⟩ (.int .i64 2)).setCell ⟨w.heap.size, 1, none⟩ (.string (mkS f0))) ⟨w.heap.size, 2, none⟩ (.string ⟨#[]⟩) (cellAt (heap_set (heap_set HRn.out 0 (.int .i64 2)) 1 (.string (mkS f0))) 2 _ rfl)
          go_wp2
          exact bodyPost_ret (v := .tuple #[rulV (2, f0, []), .bool true]) (by first | (simp [results, Tryd.results23, go_sem, rulV, mkS_nil, *]; done) | (simp [results, Tryd.results23, go_sem, rulV, mkS_nil]; done)) rfl ⟨⟨(2, f0, []), true, rfl, HN.out⟩, Chg.setCell (Chg.setCell (Chg.setCell (Chg.setCell HC1.out (.inl (show w.heap.size ≤ w.heap.size + 1 by omega)) _) (.inl (show w.heap.size ≤ w.heap.size by omega)) _) (.inl (show w.heap.size ≤ w.heap.size by omega)) _) (.inl (show w.heap.size ≤ w.heap.size by omega)) _⟩
      · have hni : ((n : Int) != 2) = true := by rw [bne_iff_ne]; omega
        have hni2 : ((n : Int) == 2) = false := by rw [beq_eq_false_iff_ne]; omega
        have HN : Hid (readR ws = none) := by
          rw [Hid, hwa, h2]
          match r, hwa with
          | [], _ => rfl
          | [y], hwa => exact absurd (by rw [← hl, hwa]; rfl) hnw
          | [y, z], _ => simp [readR, kw]
          | y :: z :: u :: v, _ => rfl

        clear HX HCELL HCELLW hwa h1 h2
        generalize mkS a = sa at *
        go_enter Tryd.func23, Tryd.ntmps23
        go_wp2
        exact bodyPost_ret (v := .tuple #[rulV (2, [], []), .bool false]) (by first | (simp [results, Tryd.results23, go_sem, rulV, mkS_nil, *]; done) | (simp [results, Tryd.results23, go_sem, rulV, mkS_nil]; done)) rfl ⟨⟨(2, [], []), false, rfl, HN.out⟩, ((Chg.refl No w).alloc _).alloc _⟩
   
    · by_cases h3 : a = [109, 111, 118, 101]
      · have n1 : ((mkS a).toList == [107, 101, 101, 112]) = false := by rw [Lib.toList_data, mkS_list, h3]; rfl
        have n2 : ((mkS a).toList == [100, 114, 111, 112]) = false := by rw [Lib.toList_data, mkS_list, h3]; rfl
        have n3 : ((mkS a).toList == [109, 111, 118, 101]) = true := by rw [Lib.toList_data, mkS_list, h3]; rfl
        by_cases hnw : n = 3
        · subst hnw
          obtain ⟨a1, a2, hws⟩ : ∃ a1 a2, ws = [a, a1, a2] := by
            match ws, hwa, hl with
            | x :: y :: [z], hwa, hl => exact ⟨y, z, by cases hwa; rfl⟩
            | [x], _, hl => simp at hl
            | [x, y], _, hl => simp at hl
            | x :: y :: z :: u :: r, _, hl => simp at hl
          have HB0 := Lib.hid fun W => bare_calls W a1 (HX.out a1 (by rw [hws]; simp))
          obtain ⟨⟨f0, o0⟩, hb0⟩ : ∃ z, bareF a1 = z := ⟨_, rfl⟩
          rw [hb0] at HB0
          have HB1 := Lib.hid fun W => bare_calls W a2 (HX.out a2 (by rw [hws]; simp))
          obtain ⟨⟨f1, o1⟩, hb1⟩ : ∃ z, bareF a2 = z := ⟨_, rfl⟩
          rw [hb1] at HB1
          have hw1 : ∀ o1 o2 : Obj, ((w.alloc o1).alloc o2).cell? ⟨b, o + 1, none⟩ = some (.string (mkS a1)) := fun o1 o2 => by
            have := HCELL.out 1 (by omega) o1 o2
            simpa [hws] using this
          have HCELLW : Hid (∀ W, Chg No w W → W.cell? ⟨b, o + 2, none⟩ = some (.string (mkS a2))) := fun W hW => by
            have := HCELLW.out 2 (by omega) W hW
            simpa [hws] using this
          have HN : Hid (readR ws = if o0 && o1 then some (3, f0, f1) else none) := by rw [Hid, hws, h3]; simp only [readR, hb0, hb1]; cases o0 <;> cases o1 <;> simp [kw]
          clear HX HCELL hwa hws hb0 hb1 h1 h2 h3 hl
          generalize mkS a = sa at *
          generalize mkS a1 = sa1 at *
          generalize mkS a2 = sa2 at *
          cases o0 with
          | false =>
            cases o1 with
            | false =>
              have HN : Hid (readR ws = none) := HN.out
              go_enter Tryd.func23, Tryd.ntmps23
              go_wp2_with fail
              refine (HB0.out _).mono ?_
              rintro e w1 ⟨rfl, hc1⟩
              have HR2a := Lib.hid (hc1.heap (two_new w _ _).1 (fun x => x))
              have HR4a := Lib.hid (hc1.heap (two_new w _ _).2 (fun x => x))
              have HC1 : Hid (Chg No w w1) := (((Chg.refl No w).alloc _).alloc _).no hc1
              have hz1 : w.heap.size + 2 ≤ w1.heap.size := by have := hc1.size; simpa using this
              clear hc1
              obtain ⟨q0, q1, q2⟩ := heap3 HR2a.out
              obtain ⟨r0, r1, r2⟩ := heap3 HR4a.out
              have qf := fun i => frzAt HR2a.out i
              have rf := fun i => frzAt HR4a.out i
              have hcw2 := HCELLW.out _ (Chg.setCell HC1.out (.inl (show w.heap.size ≤ w.heap.size + 1 by omega)) _ : Chg No w (w1.setCell ⟨w.heap.size + 1, 1, none⟩ (.string (mkS f0))))
              go_wp2_with fail
              refine (HB1.out _).mono ?_
              rintro e w2 ⟨rfl, hc2⟩
              clear q0 q1 q2 r0 r1 r2 qf rf hcw2
              have HR2b := Lib.hid (hc2.heap ((Chg.put w1 (w.heap.size + 1) 1 (.string (mkS f0))).heap HR2a.out (fun h => by have h : w.heap.size = w.heap.size + 1 := h; omega)) (fun x => x))
              have HR4b := Lib.hid (hc2.heap (heap_set HR4a.out 1 (.string (mkS f0))) (fun x => x))
              have HC2 : Hid (Chg No w w2) := (Chg.setCell HC1.out (.inl (show w.heap.size ≤ w.heap.size + 1 by omega)) _ : Chg No w (w1.setCell ⟨w.heap.size + 1, 1, none⟩ (.string (mkS f0)))).no hc2
              clear hc2
              obtain ⟨q0, q1, q2⟩ := heap3 HR2b.out
              obtain ⟨r0, r1, r2⟩ := heap3 HR4b.out
              have qf := fun i => frzAt HR2b.out i
              have rf := fun i => frzAt HR4b.out i
              have HRn : Hid ((w2.setCell ⟨w.heap.size + 1, 2, none⟩ (.string (mkS f1))).heap[w.heap.size]? = some (.cells #[.int .i64 0, .string ⟨#[]⟩, .string ⟨#[]⟩] 32)) := (Chg.put w2 (w.heap.size + 1) 2 _).heap HR2b.out (fun h => by have h : w.heap.size = w.heap.size + 1 := h; omega)
              have e0 := World.cell?_setCell_same (w2.setCell ⟨w.heap.size + 1, 2, none⟩ (.string (mkS f1))) ⟨w.heap.size, 0, none⟩ (.int .i64 3) (cellAt HRn.out 0 _ rfl)
              have e1 := World.cell?_setCell_same ((w2.setCell ⟨w.heap.size + 1, 2, none⟩ (.string (mkS f1))).setCell ⟨w.heap.size, 0, none⟩ (.int .i64 3)) ⟨w.heap.size, 1, none⟩ (.string (mkS f0)) (cellAt (heap_set HRn.out 0 (.int .i64 3)) 1 _ rfl)
              have e2 := World.cell?_setCell_same (((w2.setCell ⟨w.heap.size + 1, 2, none⟩ (.string (mkS f1))).setCell ⟨w.heap.size, 0, none⟩ (.int .i64 3)).setCell ⟨w.heap.size, 1, none⟩ (.string (mkS f0))) ⟨w.heap.size, 2, none⟩ (.string (mkS f1)) (cellAt (heap_set (heap_set HRn.out 0 (.int .i64 3)) 1 (.string (mkS f0))) 2 _ rfl)
              go_wp2
              exact bodyPost_ret (v := .tuple #[rulV (3, f0, f1), .bool false]) (by first | (simp [results, Tryd.results23, go_sem, rulV, mkS_nil, *]; done) | (simp [results, Tryd.results23, go_sem, rulV, mkS_nil]; done)) rfl ⟨⟨(3, f0, f1), false, rfl, HN.out⟩, Chg.setCell (Chg.setCell (Chg.setCell (Chg.setCell HC2.out (.inl (show w.heap.size ≤ w.heap.size + 1 by omega)) _) (.inl (show w.heap.size ≤ w.heap.size by omega)) _) (.inl (show w.heap.size ≤ w.heap.size by omega)) _) (.inl (show w.heap.size ≤ w.heap.size by omega)) _⟩
            | true =>
              have HN : Hid (readR ws = none) := HN.out
              go_enter Tryd.func23, Tryd.ntmps23
              go_wp2_with fail
              refine (HB0.out _).mono ?_
              rintro e w1 ⟨rfl, hc1⟩
              have HR2a := Lib.hid (hc1.heap (two_new w _ _).1 (fun x => x))
              have HR4a := Lib.hid (hc1.heap (two_new w _ _).2 (fun x => x))
              have HC1 : Hid (Chg No w w1) := (((Chg.refl No w).alloc _).alloc _).no hc1
              have hz1 : w.heap.size + 2 ≤ w1.heap.size := by have := hc1.size; simpa using this
              clear hc1
              obtain ⟨q0, q1, q2⟩ := heap3 HR2a.out
              obtain ⟨r0, r1, r2⟩ := heap3 HR4a.out
              have qf := fun i => frzAt HR2a.out i
              have rf := fun i => frzAt HR4a.out i
              have hcw2 := HCELLW.out _ (Chg.setCell HC1.out (.inl (show w.heap.size ≤ w.heap.size + 1 by omega)) _ : Chg No w (w1.setCell ⟨w.heap.size + 1, 1, none⟩ (.string (mkS f0))))
              go_wp2_with fail
              refine (HB1.out _).mono ?_
              rintro e w2 ⟨rfl, hc2⟩
              clear q0 q1 q2 r0 r1 r2 qf rf hcw2
              have HR2b := Lib.hid (hc2.heap ((Chg.put w1 (w.heap.size + 1) 1 (.string (mkS f0))).heap HR2a.out (fun h => by have h : w.heap.size = w.heap.size + 1 := h; omega)) (fun x => x))
              have HR4b := Lib.hid (hc2.heap (heap_set HR4a.out 1 (.string (mkS f0))) (fun x => x))
              have HC2 : Hid (Chg No w w2) := (Chg.setCell HC1.out (.inl (show w.heap.size ≤ w.heap.size + 1 by omega)) _ : Chg No w (w1.setCell ⟨w.heap.size + 1, 1, none⟩ (.string (mkS f0)))).no hc2
              clear hc2
              obtain ⟨q0, q1, q2⟩ := heap3 HR2b.out
              obtain ⟨r0, r1, r2⟩ := heap3 HR4b.out
              have qf := fun i => frzAt HR2b.out i
              have rf := fun i => frzAt HR4b.out i
              have HRn : Hid ((w2.setCell ⟨w.heap.size + 1, 2, none⟩ (.string (mkS f1))).heap[w.heap.size]? = some (.cells #[.int .i64 0, .string ⟨#[]⟩, .string ⟨#[]⟩] 32)) := (Chg.put w2 (w.heap.size + 1) 2 _).heap HR2b.out (fun h => by have h : w.heap.size = w.heap.size + 1 := h; omega)
              have e0 := World.cell?_setCell_same (w2.setCell ⟨w.heap.size + 1, 2, none⟩ (.string (mkS f1))) ⟨w.heap.size, 0, none⟩ (.int .i64 3) (cellAt HRn.out 0 _ rfl)
              have e1 := World.cell?_setCell_same ((w2.setCell ⟨w.heap.size + 1, 2, none⟩ (.string (mkS f1))).setCell ⟨w.heap.size, 0, none⟩ (.int .i64 3)) ⟨w.heap.size, 1, none⟩ (.string (mkS f0)) (cellAt (heap_set HRn.out 0 (.int .i64 3)) 1 _ rfl)
              have e2 := World.cell?_setCell_same (((w2.setCell ⟨w.heap.size + 1, 2, none⟩ (.string (mkS f1))).setCell ⟨w.heap.size, 0, none⟩ (.int .i64 3)).setCell ⟨w.heap.size, 1, none⟩ (.string (mkS f0))) ⟨w.heap.size, 2, none⟩ (.string (mkS f1)) (cellAt (heap_set (heap_set HRn.out 0 (.int .i64 3)) 1 (.string (mkS f0))) 2 _ rfl)
              go_wp2
              exact bodyPost_ret (v := .tuple #[rulV (3, f0, f1), .bool false]) (by first | (simp [results, Tryd.results23, go_sem, rulV, mkS_nil, *]; done) | (simp [results, Tryd.results23, go_sem, rulV, mkS_nil]; done)) rfl ⟨⟨(3, f0, f1), false, rfl, HN.out⟩, Chg.setCell (Chg.setCell (Chg.setCell (Chg.setCell HC2.out (.inl (show w.heap.size ≤ w.heap.size + 1 by omega)) _) (.inl (show w.heap.size ≤ w.heap.size by omega)) _) (.inl (show w.heap.size ≤ w.heap.size by omega)) _) (.inl (show w.heap.size ≤ w.heap.size by omega)) _⟩
          | true =>
            cases o1 with
            | false =>
              have HN : Hid (readR ws = none) := HN.out
              go_enter Tryd.func23, Tryd.ntmps23
              go_wp2_with fail
              refine (HB0.out _).mono ?_
              rintro e w1 ⟨rfl, hc1⟩
              have HR2a := Lib.hid (hc1.heap (two_new w _ _).1 (fun x => x))
              have HR4a := Lib.hid (hc1.heap (two_new w _ _).2 (fun x => x))
              have HC1 : Hid (Chg No w w1) := (((Chg.refl No w).alloc _).alloc _).no hc1
              have hz1 : w.heap.size + 2 ≤ w1.heap.size := by have := hc1.size; simpa using this
              clear hc1
              obtain ⟨q0, q1, q2⟩ := heap3 HR2a.out
              obtain ⟨r0, r1, r2⟩ := heap3 HR4a.out
              have qf := fun i => frzAt HR2a.out i
              have rf := fun i => frzAt HR4a.out i
              have hcw2 := HCELLW.out _ (Chg.setCell HC1.out (.inl (show w.heap.size ≤ w.heap.size + 1 by omega)) _ : Chg No w (w1.setCell ⟨w.heap.size + 1, 1, none⟩ (.string (mkS f0))))
              go_wp2_with fail
              refine (HB1.out _).mono ?_
              rintro e w2 ⟨rfl, hc2⟩
              clear q0 q1 q2 r0 r1 r2 qf rf hcw2
              have HR2b := Lib.hid (hc2.heap ((Chg.put w1 (w.heap.size + 1) 1 (.string (mkS f0))).heap HR2a.out (fun h => by have h : w.heap.size = w.heap.size + 1 := h; omega)) (fun x => x))
              have HR4b := Lib.hid (hc2.heap (heap_set HR4a.out 1 (.string (mkS f0))) (fun x => x))
              have HC2 : Hid (Chg No w w2) := (Chg.setCell HC1.out (.inl (show w.heap.size ≤ w.heap.size + 1 by omega)) _ : Chg No w (w1.setCell ⟨w.heap.size + 1, 1, none⟩ (.string (mkS f0)))).no hc2
              clear hc2
              obtain ⟨q0, q1, q2⟩ := heap3 HR2b.out
              obtain ⟨r0, r1, r2⟩ := heap3 HR4b.out
              have qf := fun i => frzAt HR2b.out i
              have rf := fun i => frzAt HR4b.out i
              have HRn : Hid ((w2.setCell ⟨w.heap.size + 1, 2, none⟩ (.string (mkS f1))).heap[w.heap.size]? = some (.cells #[.int .i64 0, .string ⟨#[]⟩, .string ⟨#[]⟩] 32)) := (Chg.put w2 (w.heap.size + 1) 2 _).heap HR2b.out (fun h => by have h : w.heap.size = w.heap.size + 1 := h; omega)
              have e0 := World.cell?_setCell_same (w2.setCell ⟨w.heap.size + 1, 2, none⟩ (.string (mkS f1))) ⟨w.heap.size, 0, none⟩ (.int .i64 3) (cellAt HRn.out 0 _ rfl)
              have e1 := World.cell?_setCell_same ((w2.setCell ⟨w.heap.size + 1, 2, none⟩ (.string (mkS f1))).setCell ⟨w.heap.size, 0, none⟩ (.int .i64 3)) ⟨w.heap.size, 1, none⟩ (.string (mkS f0)) (cellAt (heap_set HRn.out 0 (.int .i64 3)) 1 _ rfl)
              have e2 := World.cell?_setCell_same (((w2.setCell ⟨w.heap.size + 1, 2, none⟩ (.string (mkS f1))).setCell ⟨w.heap.size, 0, none⟩ (.int .i64 3)).setCell ⟨w.heap.size, 1, none⟩ (.string (mkS f0))) ⟨w.heap.size, 2, none⟩ (.string (mkS f1)) (cellAt (heap_set (heap_set HRn.out 0 (.int .i64 3)) 1 (.string (mkS f0))) 2 _ rfl)
              go_wp2
              exact bodyPost_ret (v := .tuple #[rulV (3, f0, f1), .bool false]) (by first | (simp [results, Tryd.results23, go_sem, rulV, mkS_nil, *]; done) | (simp [results, Tryd.results23, go_sem, rulV, mkS_nil]; done)) rfl ⟨⟨(3, f0, f1), false, rfl, HN.out⟩, Chg.setCell (Chg.setCell (Chg.setCell (Chg.setCell HC2.out (.inl (show w.heap.size ≤ w.heap.size + 1 by omega)) _) (.inl (show w.heap.size ≤ w.heap.size by omega)) _) (.inl (show w.heap.size ≤ w.heap.size by omega)) _) (.inl (show w.heap.size ≤ w.heap.size by omega)) _⟩
            | true =>
              have HN : Hid (readR ws = some (3, f0, f1)) := HN.out
              go_enter Tryd.func23, Tryd.ntmps23
              go_wp2_with fail
              refine (HB0.out _).mono ?_
              rintro e w1 ⟨rfl, hc1⟩
              have HR2a := Lib.hid (hc1.heap (two_new w _ _).1 (fun x => x))
              have HR4a := Lib.hid (hc1.heap (two_new w _ _).2 (fun x => x))
              have HC1 : Hid (Chg No w w1) := (((Chg.refl No w).alloc _).alloc _).no hc1
              have hz1 : w.heap.size + 2 ≤ w1.heap.size := by have := hc1.size; simpa using this
              clear hc1
              obtain ⟨q0, q1, q2⟩ := heap3 HR2a.out
              obtain ⟨r0, r1, r2⟩ := heap3 HR4a.out
              have qf := fun i => frzAt HR2a.out i
              have rf := fun i => frzAt HR4a.out i
              have hcw2 := HCELLW.out _ (Chg.setCell HC1.out (.inl (show w.heap.size ≤ w.heap.size + 1 by omega)) _ : Chg No w (w1.setCell ⟨w.heap.size + 1, 1, none⟩ (.string (mkS f0))))
              go_wp2_with fail
              refine (HB1.out _).mono ?_
              rintro e w2 ⟨rfl, hc2⟩
              clear q0 q1 q2 r0 r1 r2 qf rf hcw2
              have HR2b := Lib.hid (hc2.heap ((Chg.put w1 (w.heap.size + 1) 1 (.string (mkS f0))).heap HR2a.out (fun h => by have h : w.heap.size = w.heap.size + 1 := h; omega)) (fun x => x))
              have HR4b := Lib.hid (hc2.heap (heap_set HR4a.out 1 (.string (mkS f0))) (fun x => x))
              have HC2 : Hid (Chg No w w2) := (Chg.setCell HC1.out (.inl (show w.heap.size ≤ w.heap.size + 1 by omega)) _ : Chg No w (w1.setCell ⟨w.heap.size + 1, 1, none⟩ (.string (mkS f0)))).no hc2
              clear hc2
              obtain ⟨q0, q1, q2⟩ := heap3 HR2b.out
              obtain ⟨r0, r1, r2⟩ := heap3 HR4b.out
              have qf := fun i => frzAt HR2b.out i
              have rf := fun i => frzAt HR4b.out i
              have HRn : Hid ((w2.setCell ⟨w.heap.size + 1, 2, none⟩ (.string (mkS f1))).heap[w.heap.size]? = some (.cells #[.int .i64 0, .string ⟨#[]⟩, .string ⟨#[]⟩] 32)) := (Chg.put w2 (w.heap.size + 1) 2 _).heap HR2b.out (fun h => by have h : w.heap.size = w.heap.size + 1 := h; omega)
              have e0 := World.cell?_setCell_same (w2.setCell ⟨w.heap.size + 1, 2, none⟩ (.string (mkS f1))) ⟨w.heap.size, 0, none⟩ (.int .i64 3) (cellAt HRn.out 0 _ rfl)
              have e1 := World.cell?_setCell_same ((w2.setCell ⟨w.heap.size + 1, 2, none⟩ (.string (mkS f1))).setCell ⟨w.heap.size, 0, none⟩ (.int .i64 3)) ⟨w.heap.size, 1, none⟩ (.string (mkS f0)) (cellAt (heap_set HRn.out 0 (.int .i64 3)) 1 _ rfl)
              have e2 := World.cell?_setCell_same (((w2.setCell ⟨w.heap.size + 1, 2, none⟩ (.string (mkS f1))).setCell ⟨w.heap.size, 0, none⟩ (.int .i64 3)).setCell ⟨w.heap.size, 1, none⟩ (.string (mkS f0))) ⟨w.heap.size, 2, none⟩ (.string (mkS f1)) (cellAt (heap_set (heap_set HRn.out 0 (.int .i64 3)) 1 (.string (mkS f0))) 2 _ rfl)
              go_wp2
              exact bodyPost_ret (v := .tuple #[rulV (3, f0, f1), .bool true]) (by first | (simp [results, Tryd.results23, go_sem, rulV, mkS_nil, *]; done) | (simp [results, Tryd.results23, go_sem, rulV, mkS_nil]; done)) rfl ⟨⟨(3, f0, f1), true, rfl, HN.out⟩, Chg.setCell (Chg.setCell (Chg.setCell (Chg.setCell HC2.out (.inl (show w.heap.size ≤ w.heap.size + 1 by omega)) _) (.inl (show w.heap.size ≤ w.heap.size by omega)) _) (.inl (show w.heap.size ≤ w.heap.size by omega)) _) (.inl (show w.heap.size ≤ w.heap.size by omega)) _⟩
        · have hni : ((n : Int) != 3) = true := by rw [bne_iff_ne]; omega
          have hni2 : ((n : Int) == 3) = false := by rw [beq_eq_false_iff_ne]; omega
          have HN : Hid (readR ws = none) := by
            rw [Hid, hwa, h3]
            match r, hwa with
            | [], _ => rfl
            | [y], _ => simp [readR, kw]
            | [y, z], hwa => exact absurd (by rw [← hl, hwa]; rfl) hnw
            | y :: z :: u :: v, _ => rfl

          clear HX HCELL HCELLW hwa h1 h2 h3
          generalize mkS a = sa at *
          go_enter Tryd.func23, Tryd.ntmps23
          go_wp2
          exact bodyPost_ret (v := .tuple #[rulV (3, [], []), .bool false]) (by first | (simp [results, Tryd.results23, go_sem, rulV, mkS_nil, *]; done) | (simp [results, Tryd.results23, go_sem, rulV, mkS_nil]; done)) rfl ⟨⟨(3, [], []), false, rfl, HN.out⟩, ((Chg.refl No w).alloc _).alloc _⟩
      · have n1 : ((mkS a).toList == [107, 101, 101, 112]) = false := by rw [Lib.toList_data, mkS_list]; exact beq_eq_false_iff_ne.2 h1
        have n2 : ((mkS a).toList == [100, 114, 111, 112]) = false := by rw [Lib.toList_data, mkS_list]; exact beq_eq_false_iff_ne.2 h2
        have n3 : ((mkS a).toList == [109, 111, 118, 101]) = false := by rw [Lib.toList_data, mkS_list]; exact beq_eq_false_iff_ne.2 h3
        have HN : Hid (readR ws = none) := by
          rw [Hid, hwa]
          match r, hwa with
          | [], _ => rfl
          | [y], _ => simp [readR, kw, h1, h2]
          | [y, z], _ => simp [readR, kw, h3]
          | y :: z :: u :: v, _ => rfl

        clear HX HCELL HCELLW hwa h1 h2 h3
        generalize mkS a = sa at *
        go_enter Tryd.func23, Tryd.ntmps23
        go_wp2
        exact bodyPost_ret (v := .tuple #[rulV (0, [], []), .bool false]) (by first | (simp [results, Tryd.results23, go_sem, rulV, mkS_nil, *]; done) | (simp [results, Tryd.results23, go_sem, rulV, mkS_nil]; done)) rfl ⟨⟨(0, [], []), false, rfl, HN.out⟩, ((Chg.refl No w).alloc _).alloc _⟩
set_option maxHeartbeats 6400000 in
theorem refrule_calls (w : World) (A : Option Addr) (n c : Nat) (ws : List (List UInt8)) (h : Sl strv w (.slice A n c) ws) (hn : 1 ≤ n) (hn2 : n ≤ 9223372036854775807) (hx : ∀ x ∈ ws, x.length ≤ 9223372036854775807) :
    Calls Tryd.prog 26 #[.slice A n c] w fun e w' => ReadR e ws ∧ Chg No w w' := by
  have hl := h.len
  obtain ⟨b, o, rfl, hcell⟩ := h.addr (by omega)
  have HX := Lib.hid hx
  have HCELL : Hid (∀ k (hk : k < ws.length) (o1 o2 : Obj), ((w.alloc o1).alloc o2).cell? ⟨b, o + k, none⟩ = some (.string (mkS ws[k]))) := fun k hk o1 o2 => (((Chg.refl No w).alloc o1).alloc o2).cell (hcell k hk) (fun x => x)
  have HCELLW : Hid (∀ k (hk : k < ws.length) W, Chg No w W → W.cell? ⟨b, o + k, none⟩ = some (.string (mkS ws[k]))) := fun k hk W hW => hW.cell (hcell k hk) (fun x => x)
  have HBLT : Hid (b < w.heap.size) := World.block_lt_of_cell? _ _ (hcell 0 (by omega))
  obtain ⟨a, r, hwa⟩ : ∃ a r, ws = a :: r := by
    cases ws with
    | nil => simp at hl; omega
    | cons a r => exact ⟨a, r, rfl⟩
  have hw0 : ∀ o1 o2 : Obj, ((w.alloc o1).alloc o2).cell? ⟨b, o, none⟩ = some (.string (mkS a)) := fun o1 o2 => by
    have := HCELL.out 0 (by omega) o1 o2
    simpa [hwa] using this
  clear hcell h hx
  by_cases h1 : a = [107, 101, 101, 112]
  · have n1 : ((mkS a).toList == [107, 101, 101, 112]) = true := by rw [Lib.toList_data, mkS_list, h1]; rfl
    have n2 : ((mkS a).toList == [100, 114, 111, 112]) = false := by rw [Lib.toList_data, mkS_list, h1]; rfl
    have n3 : ((mkS a).toList == [109, 111, 118, 101]) = false := by rw [Lib.toList_data, mkS_list, h1]; rfl
    by_cases hnw : n = 2
    · subst hnw
      obtain ⟨a1, hws⟩ : ∃ a1, ws = [a, a1] := by
        match ws, hwa, hl with
        | x :: [y], hwa, hl => exact ⟨y, by cases hwa; rfl⟩
        | [x], _, hl => simp at hl
        | x :: y :: z :: r, _, hl => simp at hl
      have HB0 := Lib.hid fun W => refbare_calls W a1 (HX.out a1 (by rw [hws]; simp))
      obtain ⟨⟨f0, o0⟩, hb0⟩ : ∃ z, bareF a1 = z := ⟨_, rfl⟩
      rw [hb0] at HB0
      have hw1 : ∀ o1 o2 : Obj, ((w.alloc o1).alloc o2).cell? ⟨b, o + 1, none⟩ = some (.string (mkS a1)) := fun o1 o2 => by
        have := HCELL.out 1 (by omega) o1 o2
        simpa [hws] using this
      have HN : Hid (readR ws = if o0 then some (1, f0, []) else none) := by rw [Hid, hws, h1]; simp only [readR, hb0]; cases o0 <;> simp [kw]
      clear HX HCELL hwa hws hb0 h1 hl
      clear HCELLW
      generalize mkS a = sa at *
      generalize mkS a1 = sa1 at *
      cases o0 with
      | false =>
        have HN : Hid (readR ws = none) := HN.out
        go_enter Tryd.func26, Tryd.ntmps26
        go_wp2_with fail
        refine (HB0.out _).mono ?_
        rintro e w1 ⟨rfl, hc1⟩
        have HR2a := Lib.hid (hc1.heap (two_new w _ _).1 (fun x => x))
        have HR4a := Lib.hid (hc1.heap (two_new w _ _).2 (fun x => x))
        have HC1 : Hid (Chg No w w1) := (((Chg.refl No w).alloc _).alloc _).no hc1
        have hz1 : w.heap.size + 2 ≤ w1.heap.size := by have := hc1.size; simpa using this
        clear hc1
        obtain ⟨q0, q1, q2⟩ := heap3 HR2a.out
        obtain ⟨r0, r1, r2⟩ := heap3 HR4a.out
        have qf := fun i => frzAt HR2a.out i
        have rf := fun i => frzAt HR4a.out i
        have HRn : Hid ((w1.setCell ⟨w.heap.size + 1, 1, none⟩ (.string (mkS f0))).heap[w.heap.size]? = some (.cells #[.int .i64 0, .string ⟨#[]⟩, .string ⟨#[]⟩] 32)) := (Chg.put w1 (w.heap.size + 1) 1 _).heap HR2a.out (fun h => by have h : w.heap.size = w.heap.size + 1 := h; omega)
        have e0 := World.cell?_setCell_same (w1.setCell ⟨w.heap.size + 1, 1, none⟩ (.string (mkS f0))) ⟨w.heap.size, 0, none⟩ (.int .i64 1) (cellAt HRn.out 0 _ rfl)
        have e1 := World.cell?_setCell_same ((w1.setCell ⟨w.heap.size + 1, 1, none⟩ (.string (mkS f0))).setCell ⟨w.heap.size, 0, none⟩ (.int .i64 1)) ⟨w.heap.size, 1, none⟩ (.string (mkS f0)) (cellAt (heap_set HRn.out 0 (.int .i64 1)) 1 _ rfl)
        have e2 := World.cell?_setCell_same (((w1.setCell ⟨w.heap.size + 1, 1, none⟩ (.string (mkS f0))).setCell ⟨w.heap.size, 0, none⟩ (.int .i64 1)).setCell ⟨w.heap.size, 1, none⟩ (.string (mkS f0))) ⟨w.heap.size, 2, none⟩ (.string ⟨#[]⟩) (cellAt (heap_set (heap_set HRn.out 0 (.int .i64 1)) 1 (.string (mkS f0))) 2 _ rfl)
        go_wp2
        exact bodyPost_ret (v := .tuple #[rulV (1, f0, []), .bool false]) (by first | (simp [results, Tryd.results26, go_sem, rulV, mkS_nil, *]; done) | (simp [results, Tryd.results26, go_sem, rulV, mkS_nil]; done)) rfl ⟨⟨(1, f0, []), false, rfl, HN.out⟩, Chg.setCell (Chg.setCell (Chg.setCell (Chg.setCell HC1.out (.inl (show w.heap.size ≤ w.heap.size + 1 by omega)) _) (.inl (show w.heap.size ≤ w.heap.size by omega)) _) (.inl (show w.heap.size ≤ w.heap.size by omega)) _) (.inl (show w.heap.size ≤ w.heap.size by omega)) _⟩
      | true =>
        have HN : Hid (readR ws = some (1, f0, [])) := HN.out
        go_enter Tryd.func26, Tryd.ntmps26
        go_wp2_with fail
        refine (HB0.out _).mono ?_
        rintro e w1 ⟨rfl, hc1⟩
        have HR2a := Lib.hid (hc1.heap (two_new w _ _).1 (fun x => x))
        have HR4a := Lib.hid (hc1.heap (two_new w _ _).2 (fun x => x))
        have HC1 : Hid (Chg No w w1) := (((Chg.refl No w).alloc _).alloc _).no hc1
        have hz1 : w.heap.size + 2 ≤ w1.heap.size := by have := hc1.size; simpa using this
        clear hc1
        obtain ⟨q0, q1, q2⟩ := heap3 HR2a.out
        obtain ⟨r0, r1, r2⟩ := heap3 HR4a.out
        have qf := fun i => frzAt HR2a.out i
        have rf := fun i => frzAt HR4a.out i
        have HRn : Hid ((w1.setCell ⟨w.heap.size + 1, 1, none⟩ (.string (mkS f0))).heap[w.heap.size]? = some (.cells #[.int .i64 0, .string ⟨#[]⟩, .string ⟨#[]⟩] 32)) := (Chg.put w1 (w.heap.size + 1) 1 _).heap HR2a.out (fun h => by have h : w.heap.size = w.heap.size + 1 := h; omega)
        have e0 := World.cell?_setCell_same (w1.setCell ⟨w.heap.size + 1, 1, none⟩ (.string (mkS f0))) ⟨w.heap.size, 0, none⟩ (.int .i64 1) (cellAt HRn.out 0 _ rfl)
        have e1 := World.cell?_setCell_same ((w1.setCell ⟨w.heap.size + 1, 1, none⟩ (.string (mkS f0))).setCell ⟨w.heap.size, 0, none⟩ (.int .i64 1)) ⟨w.heap.size, 1, none⟩ (.string (mkS f0)) (cellAt (heap_set HRn.out 0 (.int .i64 1)) 1 _ rfl)
        have e2 := World.cell?_setCell_same (((w1.setCell ⟨w.heap.size + 1, 1, none⟩ (.string (mkS f0))).setCell ⟨w.heap.size, 0, none⟩ (.int .i64 1)).setCell ⟨w.heap.size, 1, none⟩ (.string (mkS f0))) ⟨w.heap.size, 2, none⟩ (.string ⟨#[]⟩) (cellAt (heap_set (heap_set HRn.out 0 (.int .i64 1)) 1 (.string (mkS f0))) 2 _ rfl)
        go_wp2
        exact bodyPost_ret (v := .tuple #[rulV (1, f0, []), .bool true]) (by first | (simp [results, Tryd.results26, go_sem, rulV, mkS_nil, *]; done) | (simp [results, Tryd.results26, go_sem, rulV, mkS_nil]; done)) rfl ⟨⟨(1, f0, []), true, rfl, HN.out⟩, Chg.setCell (Chg.setCell (Chg.setCell (Chg.setCell HC1.out (.inl (show w.heap.size ≤ w.heap.size + 1 by omega)) _) (.inl (show w.heap.size ≤ w.heap.size by omega)) _) (.inl (show w.heap.size ≤ w.heap.size by omega)) _) (.inl (show w.heap.size ≤ w.heap.size by omega)) _⟩
    · by_cases hlo : n < 2
      · have hlo1 : (n : Int) < 2 := by omega
        have hni : ((n : Int) != 2) = true := by rw [bne_iff_ne]; omega
        have hni2 : ((n : Int) == 2) = false := by rw [beq_eq_false_iff_ne]; omega
        have HN : Hid (readR ws = none) := by
          rw [Hid, hwa, h1]
          match r, hwa with
          | [], _ => rfl
          | [y], hwa => exact absurd (by rw [← hl, hwa]; rfl) hnw
          | [y, z], _ => simp [readR, kw]
          | y :: z :: u :: v, _ => rfl

        clear HX HCELL HCELLW hwa h1
        generalize mkS a = sa at *
        go_enter Tryd.func26, Tryd.ntmps26
        go_wp2
        exact bodyPost_ret (v := .tuple #[rulV (0, [], []), .bool false]) (by first | (simp [results, Tryd.results26, go_sem, rulV, mkS_nil, *]; done) | (simp [results, Tryd.results26, go_sem, rulV, mkS_nil]; done)) rfl ⟨⟨(0, [], []), false, rfl, HN.out⟩, ((Chg.refl No w).alloc _).alloc _⟩
      by_cases hhi : 3 < n
      · have hlo1 : ¬ (n : Int) < 2 := by omega
        have hlo2 : decide ((n : Int) < 2) = false := decide_eq_false hlo1
        have hhi1 : (3 : Int) < (n : Int) := by omega
        have hni : ((n : Int) != 2) = true := by rw [bne_iff_ne]; omega
        have hni2 : ((n : Int) == 2) = false := by rw [beq_eq_false_iff_ne]; omega
        have HN : Hid (readR ws = none) := by
          rw [Hid, hwa, h1]
          match r, hwa with
          | [], _ => rfl
          | [y], hwa => exact absurd (by rw [← hl, hwa]; rfl) hnw
          | [y, z], _ => simp [readR, kw]
          | y :: z :: u :: v, _ => rfl

        clear HX HCELL HCELLW hwa h1
        generalize mkS a = sa at *
        go_enter Tryd.func26, Tryd.ntmps26
        go_wp2
        exact bodyPost_ret (v := .tuple #[rulV (0, [], []), .bool false]) (by first | (simp [results, Tryd.results26, go_sem, rulV, mkS_nil, *]; done) | (simp [results, Tryd.results26, go_sem, rulV, mkS_nil]; done)) rfl ⟨⟨(0, [], []), false, rfl, HN.out⟩, ((Chg.refl No w).alloc _).alloc _⟩
      have hlo1 : ¬ (n : Int) < 2 := by omega
      have hlo2 : decide ((n : Int) < 2) = false := decide_eq_false hlo1
      have hhi1 : ¬ (3 : Int) < (n : Int) := by omega
      have hhi2 : decide ((3 : Int) < (n : Int)) = false := decide_eq_false hhi1
      have hni : ((n : Int) != 2) = true := by rw [bne_iff_ne]; omega
      have hni2 : ((n : Int) == 2) = false := by rw [beq_eq_false_iff_ne]; omega
      have HN : Hid (readR ws = none) := by
        rw [Hid, hwa, h1]
        match r, hwa with
        | [], _ => rfl
        | [y], hwa => exact absurd (by rw [← hl, hwa]; rfl) hnw
        | [y, z], _ => simp [readR, kw]
        | y :: z :: u :: v, _ => rfl

      clear HX HCELL HCELLW hwa h1
      generalize mkS a = sa at *
      go_enter Tryd.func26, Tryd.ntmps26
      go_wp2
      exact bodyPost_ret (v := .tuple #[rulV (0, [], []), .bool false]) (by first | (simp [results, Tryd.results26, go_sem, rulV, mkS_nil, *]; done) | (simp [results, Tryd.results26, go_sem, rulV, mkS_nil]; done)) rfl ⟨⟨(0, [], []), false, rfl, HN.out⟩, ((Chg.refl No w).alloc _).alloc _⟩
 
  · by_cases h2 : a = [100, 114, 111, 112]
    · have n1 : ((mkS a).toList == [107, 101, 101, 112]) = false := by rw [Lib.toList_data, mkS_list, h2]; rfl
      have n2 : ((mkS a).toList == [100, 114, 111, 112]) = true := by rw [Lib.toList_data, mkS_list, h2]; rfl
      have n3 : ((mkS a).toList == [109, 111, 118, 101]) = false := by rw [Lib.toList_data, mkS_list, h2]; rfl
      by_cases hnw : n = 2
      · subst hnw
        obtain ⟨a1, hws⟩ : ∃ a1, ws = [a, a1] := by
          match ws, hwa, hl with
          | x :: [y], hwa, hl => exact ⟨y, by cases hwa; rfl⟩
          | [x], _, hl => simp at hl
          | x :: y :: z :: r, _, hl => simp at hl
        have HB0 := Lib.hid fun W => refbare_calls W a1 (HX.out a1 (by rw [hws]; simp))
        obtain ⟨⟨f0, o0⟩, hb0⟩ : ∃ z, bareF a1 = z := ⟨_, rfl⟩
        rw [hb0] at HB0
        have hw1 : ∀ o1 o2 : Obj, ((w.alloc o1).alloc o2).cell? ⟨b, o + 1, none⟩ = some (.string (mkS a1)) := fun o1 o2 => by
          have := HCELL.out 1 (by omega) o1 o2
          simpa [hws] using this
        have HN : Hid (readR ws = if o0 then some (2, f0, []) else none) := by rw [Hid, hws, h2]; simp only [readR, hb0]; cases o0 <;> simp [kw]
        clear HX HCELL hwa hws hb0 h1 h2 hl
        clear HCELLW
        generalize mkS a = sa at *
        generalize mkS a1 = sa1 at *
        cases o0 with
        | false =>
          have HN : Hid (readR ws = none) := HN.out
          go_enter Tryd.func26, Tryd.ntmps26
          go_wp2_with fail
          refine (HB0.out _).mono ?_
          rintro e w1 ⟨rfl, hc1⟩
          have HR2a := Lib.hid (hc1.heap (two_new w _ _).1 (fun x => x))
          have HR4a := Lib.hid (hc1.heap (two_new w _ _).2 (fun x => x))
          have HC1 : Hid (Chg No w w1) := (((Chg.refl No w).alloc _).alloc _).no hc1
          have hz1 : w.heap.size + 2 ≤ w1.heap.size := by have := hc1.size; simpa using this
          clear hc1
          obtain ⟨q0, q1, q2⟩ := heap3 HR2a.out
          obtain ⟨r0, r1, r2⟩ := heap3 HR4a.out
          have qf := fun i => frzAt HR2a.out i
          have rf := fun i => frzAt HR4a.out i
          have HRn : Hid ((w1.setCell ⟨w.heap.size + 1, 1, none⟩ (.string (mkS f0))).heap[w.heap.size]? = some (.cells #[.int .i64 0, .string ⟨#[]⟩, .string ⟨#[]⟩] 32)) := (Chg.put w1 (w.heap.size + 1) 1 _).heap HR2a.out (fun h => by have h : w.heap.size = w.heap.size + 1 := h; omega)
          have e0 := World.cell?_setCell_same (w1.setCell ⟨w.heap.size + 1, 1, none⟩ (.string (mkS f0))) ⟨w.heap.size, 0, none⟩ (.int .i64 2) (cellAt HRn.out 0 _ rfl)
          have e1 := World.cell?_setCell_same ((w1.setCell ⟨w.heap.size + 1, 1, none⟩ (.string (mkS f0))).setCell ⟨w.heap.size, 0, none⟩ (.int .i64 2)) ⟨w.heap.size, 1, none⟩ (.string (mkS f0)) (cellAt (heap_set HRn.out 0 (.int .i64 2)) 1 _ rfl)
          have e2 := World.cell?_setCell_same (((w1.setCell ⟨w.heap.size + 1, 1, none⟩ (.string (mkS f0))).setCell ⟨w.heap.size, 0, none⟩ (.int .i64 2)).setCell ⟨w.heap.size, 1, none⟩ (.string (mkS f0))) ⟨w.heap.size, 2, none⟩ (.string ⟨#[]⟩) (cellAt (heap_set (heap_set HRn.out 0 (.int .i64 2)) 1 (.string (mkS f0))) 2 _ rfl)
          go_wp2
          exact bodyPost_ret (v := .tuple #[rulV (2, f0, []), .bool false]) (by first | (simp [results, Tryd.results26, go_sem, rulV, mkS_nil, *]; done) | (simp [results, Tryd.results26, go_sem, rulV, mkS_nil]; done)) rfl ⟨⟨(2, f0, []), false, rfl, HN.out⟩, Chg.setCell (Chg.setCell (Chg.setCell (Chg.setCell HC1.out (.inl (show w.heap.size ≤ w.heap.size + 1 by omega)) _) (.inl (show w.heap.size ≤ w.heap.size by omega)) _) (.inl (show w.heap.size ≤ w.heap.size by omega)) _) (.inl (show w.heap.size ≤ w.heap.size by omega)) _⟩
        | true =>
          have HN : Hid (readR ws = some (2, f0, [])) := HN.out
          go_enter Tryd.func26, Tryd.ntmps26
          go_wp2_with fail
          refine (HB0.out _).mono ?_
          rintro e w1 ⟨rfl, hc1⟩
          have HR2a := Lib.hid (hc1.heap (two_new w _ _).1 (fun x => x))
          have HR4a := Lib.hid (hc1.heap (two_new w _ _).2 (fun x => x))
          have HC1 : Hid (Chg No w w1) := (((Chg.refl No w).alloc _).alloc _).no hc1
          have hz1 : w.heap.size + 2 ≤ w1.heap.size := by have := hc1.size; simpa using this
          clear hc1
          obtain ⟨q0, q1, q2⟩ := heap3 HR2a.out
          obtain ⟨r0, r1, r2⟩ := heap3 HR4a.out
          have qf := fun i => frzAt HR2a.out i
          have rf := fun i => frzAt HR4a.out i
          have HRn : Hid ((w1.setCell ⟨w.heap.size + 1, 1, none⟩ (.string (mkS f0))).heap[w.heap.size]? = some (.cells #[.int .i64 0, .string ⟨#[]⟩, .string ⟨#[]⟩] 32)) := (Chg.put w1 (w.heap.size + 1) 1 _).heap HR2a.out (fun h => by have h : w.heap.size = w.heap.size + 1 := h; omega)
          have e0 := World.cell?_setCell_same (w1.setCell ⟨w.heap.size + 1, 1, none⟩ (.string (mkS f0))) ⟨w.heap.size, 0, none⟩ (.int .i64 2) (cellAt HRn.out 0 _ rfl)
          have e1 := World.cell?_setCell_same ((w1.setCell ⟨w.heap.size + 1, 1, none⟩ (.string (mkS f0))).setCell ⟨w.heap.size, 0, none⟩ (.int .i64 2)) ⟨w.heap.size, 1, none⟩ (.string (mkS f0)) (cellAt (heap_set HRn.out 0 (.int .i64 2)) 1 _ rfl)
          have e2 := World.cell?_setCell_same (((w1.setCell ⟨w.heap.size + 1, 1, none⟩ (.string (mkS f0))).setCell ⟨w.heap.size, 0, none⟩ (.int .i64 2)).setCell ⟨w.heap.size, 1, none⟩ (.string (mkS f0))) ⟨w.heap.size, 2, none⟩ (.string ⟨#[]⟩) (cellAt (heap_set (heap_set HRn.out 0 (.int .i64 2)) 1 (.string (mkS f0))) 2 _ rfl)
          go_wp2
          exact bodyPost_ret (v := .tuple #[rulV (2, f0, []), .bool true]) (by first | (simp [results, Tryd.results26, go_sem, rulV, mkS_nil, *]; done) | (simp [results, Tryd.results26, go_sem, rulV, mkS_nil]; done)) rfl ⟨⟨(2, f0, []), true, rfl, HN.out⟩, Chg.setCell (Chg.setCell (Chg.setCell (Chg.setCell HC1.out (.inl (show w.heap.size ≤ w.heap.size + 1 by omega)) _) (.inl (show w.heap.size ≤ w.heap.size by omega)) _) (.inl (show w.heap.size ≤ w.heap.size by omega)) _) (.inl (show w.heap.size ≤ w.heap.size by omega)) _⟩
      · by_cases hlo : n < 2
        · have hlo1 : (n : Int) < 2 := by omega
          have hni : ((n : Int) != 2) = true := by rw [bne_iff_ne]; omega
          have hni2 : ((n : Int) == 2) = false := by rw [beq_eq_false_iff_ne]; omega
          have HN : Hid (readR ws = none) := by
            rw [Hid, hwa, h2]
            match r, hwa with
            | [], _ => rfl
            | [y], hwa => exact absurd (by rw [← hl, hwa]; rfl) hnw
            | [y, z], _ => simp [readR, kw]
            | y :: z :: u :: v, _ => rfl

          clear HX HCELL HCELLW hwa h1 h2
          generalize mkS a = sa at *
          go_enter Tryd.func26, Tryd.ntmps26
          go_wp2
          exact bodyPost_ret (v := .tuple #[rulV (0, [], []), .bool false]) (by first | (simp [results, Tryd.results26, go_sem, rulV, mkS_nil, *]; done) | (simp [results, Tryd.results26, go_sem, rulV, mkS_nil]; done)) rfl ⟨⟨(0, [], []), false, rfl, HN.out⟩, ((Chg.refl No w).alloc _).alloc _⟩
        by_cases hhi : 3 < n
        · have hlo1 : ¬ (n : Int) < 2 := by omega
          have hlo2 : decide ((n : Int) < 2) = false := decide_eq_false hlo1
          have hhi1 : (3 : Int) < (n : Int) := by omega
          have hni : ((n : Int) != 2) = true := by rw [bne_iff_ne]; omega
          have hni2 : ((n : Int) == 2) = false := by rw [beq_eq_false_iff_ne]; omega
          have HN : Hid (readR ws = none) := by
            rw [Hid, hwa, h2]
            match r, hwa with
            | [], _ => rfl
            | [y], hwa => exact absurd (by rw [← hl, hwa]; rfl) hnw
            | [y, z], _ => simp [readR, kw]
            | y :: z :: u :: v, _ => rfl

          clear HX HCELL HCELLW hwa h1 h2
          generalize mkS a = sa at *
          go_enter Tryd.func26, Tryd.ntmps26
          go_wp2
          exact bodyPost_ret (v := .tuple #[rulV (0, [], []), .bool false]) (by first | (simp [results, Tryd.results26, go_sem, rulV, mkS_nil, *]; done) | (simp [results, Tryd.results26, go_sem, rulV, mkS_nil]; done)) rfl ⟨⟨(0, [], []), false, rfl, HN.out⟩, ((Chg.refl No w).alloc _).alloc _⟩
        have hlo1 : ¬ (n : Int) < 2 := by omega
        have hlo2 : decide ((n : Int) < 2) = false := decide_eq_false hlo1
        have hhi1 : ¬ (3 : Int) < (n : Int) := by omega
        have hhi2 : decide ((3 : Int) < (n : Int)) = false := decide_eq_false hhi1
        have hni : ((n : Int) != 2) = true := by rw [bne_iff_ne]; omega
        have hni2 : ((n : Int) == 2) = false := by rw [beq_eq_false_iff_ne]; omega
        have HN : Hid (readR ws = none) := by
          rw [Hid, hwa, h2]
          match r, hwa with
          | [], _ => rfl
          | [y], hwa => exact absurd (by rw [← hl, hwa]; rfl) hnw
          | [y, z], _ => simp [readR, kw]
          | y :: z :: u :: v, _ => rfl

        clear HX HCELL HCELLW hwa h1 h2
        generalize mkS a = sa at *
        go_enter Tryd.func26, Tryd.ntmps26
        go_wp2
        exact bodyPost_ret (v := .tuple #[rulV (0, [], []), .bool false]) (by first | (simp [results, Tryd.results26, go_sem, rulV, mkS_nil, *]; done) | (simp [results, Tryd.results26, go_sem, rulV, mkS_nil]; done)) rfl ⟨⟨(0, [], []), false, rfl, HN.out⟩, ((Chg.refl No w).alloc _).alloc _⟩
   
    · by_cases h3 : a = [109, 111, 118, 101]
      · have n1 : ((mkS a).toList == [107, 101, 101, 112]) = false := by rw [Lib.toList_data, mkS_list, h3]; rfl
        have n2 : ((mkS a).toList == [100, 114, 111, 112]) = false := by rw [Lib.toList_data, mkS_list, h3]; rfl
        have n3 : ((mkS a).toList == [109, 111, 118, 101]) = true := by rw [Lib.toList_data, mkS_list, h3]; rfl
        by_cases hnw : n = 3
        · subst hnw
          obtain ⟨a1, a2, hws⟩ : ∃ a1 a2, ws = [a, a1, a2] := by
            match ws, hwa, hl with
            | x :: y :: [z], hwa, hl => exact ⟨y, z, by cases hwa; rfl⟩
            | [x], _, hl => simp at hl
            | [x, y], _, hl => simp at hl
            | x :: y :: z :: u :: r, _, hl => simp at hl
          have HB0 := Lib.hid fun W => refbare_calls W a1 (HX.out a1 (by rw [hws]; simp))
          obtain ⟨⟨f0, o0⟩, hb0⟩ : ∃ z, bareF a1 = z := ⟨_, rfl⟩
          rw [hb0] at HB0
          have HB1 := Lib.hid fun W => refbare_calls W a2 (HX.out a2 (by rw [hws]; simp))
          obtain ⟨⟨f1, o1⟩, hb1⟩ : ∃ z, bareF a2 = z := ⟨_, rfl⟩
          rw [hb1] at HB1
          have hw1 : ∀ o1 o2 : Obj, ((w.alloc o1).alloc o2).cell? ⟨b, o + 1, none⟩ = some (.string (mkS a1)) := fun o1 o2 => by
            have := HCELL.out 1 (by omega) o1 o2
            simpa [hws] using this
          have HCELLW : Hid (∀ W, Chg No w W → W.cell? ⟨b, o + 2, none⟩ = some (.string (mkS a2))) := fun W hW => by
            have := HCELLW.out 2 (by omega) W hW
            simpa [hws] using this
          have HN : Hid (readR ws = if o0 && o1 then some (3, f0, f1) else none) := by rw [Hid, hws, h3]; simp only [readR, hb0, hb1]; cases o0 <;> cases o1 <;> simp [kw]
          clear HX HCELL hwa hws hb0 hb1 h1 h2 h3 hl
          generalize mkS a = sa at *
          generalize mkS a1 = sa1 at *
          generalize mkS a2 = sa2 at *
          cases o0 with
          | false =>
            have HN : Hid (readR ws = none) := HN.out
            clear HCELLW
            go_enter Tryd.func26, Tryd.ntmps26
            go_wp2_with fail
            refine (HB0.out _).mono ?_
            rintro e w1 ⟨rfl, hc1⟩
            have HR2a := Lib.hid (hc1.heap (two_new w _ _).1 (fun x => x))
            have HR4a := Lib.hid (hc1.heap (two_new w _ _).2 (fun x => x))
            have HC1 : Hid (Chg No w w1) := (((Chg.refl No w).alloc _).alloc _).no hc1
            have hz1 : w.heap.size + 2 ≤ w1.heap.size := by have := hc1.size; simpa using this
            clear hc1
            obtain ⟨q0, q1, q2⟩ := heap3 HR2a.out
            obtain ⟨r0, r1, r2⟩ := heap3 HR4a.out
            have qf := fun i => frzAt HR2a.out i
            have rf := fun i => frzAt HR4a.out i
            have HRn : Hid ((w1.setCell ⟨w.heap.size + 1, 1, none⟩ (.string (mkS f0))).heap[w.heap.size]? = some (.cells #[.int .i64 0, .string ⟨#[]⟩, .string ⟨#[]⟩] 32)) := (Chg.put w1 (w.heap.size + 1) 1 _).heap HR2a.out (fun h => by have h : w.heap.size = w.heap.size + 1 := h; omega)
            have e0 := World.cell?_setCell_same (w1.setCell ⟨w.heap.size + 1, 1, none⟩ (.string (mkS f0))) ⟨w.heap.size, 0, none⟩ (.int .i64 3) (cellAt HRn.out 0 _ rfl)
            have e1 := World.cell?_setCell_same ((w1.setCell ⟨w.heap.size + 1, 1, none⟩ (.string (mkS f0))).setCell ⟨w.heap.size, 0, none⟩ (.int .i64 3)) ⟨w.heap.size, 1, none⟩ (.string (mkS f0)) (cellAt (heap_set HRn.out 0 (.int .i64 3)) 1 _ rfl)
            have e2 := World.cell?_setCell_same (((w1.setCell ⟨w.heap.size + 1, 1, none⟩ (.string (mkS f0))).setCell ⟨w.heap.size, 0, none⟩ (.int .i64 3)).setCell ⟨w.heap.size, 1, none⟩ (.string (mkS f0))) ⟨w.heap.size, 2, none⟩ (.string ⟨#[]⟩) (cellAt (heap_set (heap_set HRn.out 0 (.int .i64 3)) 1 (.string (mkS f0))) 2 _ rfl)
            go_wp2
            exact bodyPost_ret (v := .tuple #[rulV (3, f0, []), .bool false]) (by first | (simp [results, Tryd.results26, go_sem, rulV, mkS_nil, *]; done) | (simp [results, Tryd.results26, go_sem, rulV, mkS_nil]; done)) rfl ⟨⟨(3, f0, []), false, rfl, HN.out⟩, Chg.setCell (Chg.setCell (Chg.setCell (Chg.setCell HC1.out (.inl (show w.heap.size ≤ w.heap.size + 1 by omega)) _) (.inl (show w.heap.size ≤ w.heap.size by omega)) _) (.inl (show w.heap.size ≤ w.heap.size by omega)) _) (.inl (show w.heap.size ≤ w.heap.size by omega)) _⟩
          | true =>
            cases o1 with
            | false =>
              have HN : Hid (readR ws = none) := HN.out
              go_enter Tryd.func26, Tryd.ntmps26
              go_wp2_with fail
              refine (HB0.out _).mono ?_
              rintro e w1 ⟨rfl, hc1⟩
              have HR2a := Lib.hid (hc1.heap (two_new w _ _).1 (fun x => x))
              have HR4a := Lib.hid (hc1.heap (two_new w _ _).2 (fun x => x))
              have HC1 : Hid (Chg No w w1) := (((Chg.refl No w).alloc _).alloc _).no hc1
              have hz1 : w.heap.size + 2 ≤ w1.heap.size := by have := hc1.size; simpa using this
              clear hc1
              obtain ⟨q0, q1, q2⟩ := heap3 HR2a.out
              obtain ⟨r0, r1, r2⟩ := heap3 HR4a.out
              have qf := fun i => frzAt HR2a.out i
              have rf := fun i => frzAt HR4a.out i
              have hcw2 := HCELLW.out _ (Chg.setCell HC1.out (.inl (show w.heap.size ≤ w.heap.size + 1 by omega)) _ : Chg No w (w1.setCell ⟨w.heap.size + 1, 1, none⟩ (.string (mkS f0))))
              go_wp2_with fail
              refine (HB1.out _).mono ?_
              rintro e w2 ⟨rfl, hc2⟩
              clear q0 q1 q2 r0 r1 r2 qf rf hcw2
              have HR2b := Lib.hid (hc2.heap ((Chg.put w1 (w.heap.size + 1) 1 (.string (mkS f0))).heap HR2a.out (fun h => by have h : w.heap.size = w.heap.size + 1 := h; omega)) (fun x => x))
              have HR4b := Lib.hid (hc2.heap (heap_set HR4a.out 1 (.string (mkS f0))) (fun x => x))
              have HC2 : Hid (Chg No w w2) := (Chg.setCell HC1.out (.inl (show w.heap.size ≤ w.heap.size + 1 by omega)) _ : Chg No w (w1.setCell ⟨w.heap.size + 1, 1, none⟩ (.string (mkS f0)))).no hc2
              clear hc2
              obtain ⟨q0, q1, q2⟩ := heap3 HR2b.out
              obtain ⟨r0, r1, r2⟩ := heap3 HR4b.out
              have qf := fun i => frzAt HR2b.out i
              have rf := fun i => frzAt HR4b.out i
              have HRn : Hid ((w2.setCell ⟨w.heap.size + 1, 2, none⟩ (.string (mkS f1))).heap[w.heap.size]? = some (.cells #[.int .i64 0, .string ⟨#[]⟩, .string ⟨#[]⟩] 32)) := (Chg.put w2 (w.heap.size + 1) 2 _).heap HR2b.out (fun h => by have h : w.heap.size = w.heap.size + 1 := h; omega)
              have e0 := World.cell?_setCell_same (w2.setCell ⟨w.heap.size + 1, 2, none⟩ (.string (mkS f1))) ⟨w.heap.size, 0, none⟩ (.int .i64 3) (cellAt HRn.out 0 _ rfl)
              have e1 := World.cell?_setCell_same ((w2.setCell ⟨w.heap.size + 1, 2, none⟩ (.string (mkS f1))).setCell ⟨w.heap.size, 0, none⟩ (.int .i64 3)) ⟨w.heap.size, 1, none⟩ (.string (mkS f0)) (cellAt (heap_set HRn.out 0 (.int .i64 3)) 1 _ rfl)
              have e2 := World.cell?_setCell_same (((w2.setCell ⟨w.heap.size + 1, 2, none⟩ (.string (mkS f1))).setCell ⟨w.heap.size, 0, none⟩ (.int .i64 3)).setCell ⟨w.heap.size, 1, none⟩ (.string (mkS f0))) ⟨w.heap.size, 2, none⟩ (.string (mkS f1)) (cellAt (heap_set (heap_set HRn.out 0 (.int .i64 3)) 1 (.string (mkS f0))) 2 _ rfl)
              go_wp2
              exact bodyPost_ret (v := .tuple #[rulV (3, f0, f1), .bool false]) (by first | (simp [results, Tryd.results26, go_sem, rulV, mkS_nil, *]; done) | (simp [results, Tryd.results26, go_sem, rulV, mkS_nil]; done)) rfl ⟨⟨(3, f0, f1), false, rfl, HN.out⟩, Chg.setCell (Chg.setCell (Chg.setCell (Chg.setCell HC2.out (.inl (show w.heap.size ≤ w.heap.size + 1 by omega)) _) (.inl (show w.heap.size ≤ w.heap.size by omega)) _) (.inl (show w.heap.size ≤ w.heap.size by omega)) _) (.inl (show w.heap.size ≤ w.heap.size by omega)) _⟩
            | true =>
              have HN : Hid (readR ws = some (3, f0, f1)) := HN.out
              go_enter Tryd.func26, Tryd.ntmps26
              go_wp2_with fail
              refine (HB0.out _).mono ?_
              rintro e w1 ⟨rfl, hc1⟩
              have HR2a := Lib.hid (hc1.heap (two_new w _ _).1 (fun x => x))
              have HR4a := Lib.hid (hc1.heap (two_new w _ _).2 (fun x => x))
              have HC1 : Hid (Chg No w w1) := (((Chg.refl No w).alloc _).alloc _).no hc1
              have hz1 : w.heap.size + 2 ≤ w1.heap.size := by have := hc1.size; simpa using this
              clear hc1
              obtain ⟨q0, q1, q2⟩ := heap3 HR2a.out
              obtain ⟨r0, r1, r2⟩ := heap3 HR4a.out
              have qf := fun i => frzAt HR2a.out i
              have rf := fun i => frzAt HR4a.out i
              have hcw2 := HCELLW.out _ (Chg.setCell HC1.out (.inl (show w.heap.size ≤ w.heap.size + 1 by omega)) _ : Chg No w (w1.setCell ⟨w.heap.size + 1, 1, none⟩ (.string (mkS f0))))
              go_wp2_with fail
              refine (HB1.out _).mono ?_
              rintro e w2 ⟨rfl, hc2⟩
              clear q0 q1 q2 r0 r1 r2 qf rf hcw2
              have HR2b := Lib.hid (hc2.heap ((Chg.put w1 (w.heap.size + 1) 1 (.string (mkS f0))).heap HR2a.out (fun h => by have h : w.heap.size = w.heap.size + 1 := h; omega)) (fun x => x))
              have HR4b := Lib.hid (hc2.heap (heap_set HR4a.out 1 (.string (mkS f0))) (fun x => x))
              have HC2 : Hid (Chg No w w2) := (Chg.setCell HC1.out (.inl (show w.heap.size ≤ w.heap.size + 1 by omega)) _ : Chg No w (w1.setCell ⟨w.heap.size + 1, 1, none⟩ (.string (mkS f0)))).no hc2
              clear hc2
              obtain ⟨q0, q1, q2⟩ := heap3 HR2b.out
              obtain ⟨r0, r1, r2⟩ := heap3 HR4b.out
              have qf := fun i => frzAt HR2b.out i
              have rf := fun i => frzAt HR4b.out i
              have HRn : Hid ((w2.setCell ⟨w.heap.size + 1, 2, none⟩ (.string (mkS f1))).heap[w.heap.size]? = some (.cells #[.int .i64 0, .string ⟨#[]⟩, .string ⟨#[]⟩] 32)) := (Chg.put w2 (w.heap.size + 1) 2 _).heap HR2b.out (fun h => by have h : w.heap.size = w.heap.size + 1 := h; omega)
              have e0 := World.cell?_setCell_same (w2.setCell ⟨w.heap.size + 1, 2, none⟩ (.string (mkS f1))) ⟨w.heap.size, 0, none⟩ (.int .i64 3) (cellAt HRn.out 0 _ rfl)
              have e1 := World.cell?_setCell_same ((w2.setCell ⟨w.heap.size + 1, 2, none⟩ (.string (mkS f1))).setCell ⟨w.heap.size, 0, none⟩ (.int .i64 3)) ⟨w.heap.size, 1, none⟩ (.string (mkS f0)) (cellAt (heap_set HRn.out 0 (.int .i64 3)) 1 _ rfl)
              have e2 := World.cell?_setCell_same (((w2.setCell ⟨w.heap.size + 1, 2, none⟩ (.string (mkS f1))).setCell ⟨w.heap.size, 0, none⟩ (.int .i64 3)).setCell ⟨w.heap.size, 1, none⟩ (.string (mkS f0))) ⟨w.heap.size, 2, none⟩ (.string (mkS f1)) (cellAt (heap_set (heap_set HRn.out 0 (.int .i64 3)) 1 (.string (mkS f0))) 2 _ rfl)
              go_wp2
              exact bodyPost_ret (v := .tuple #[rulV (3, f0, f1), .bool true]) (by first | (simp [results, Tryd.results26, go_sem, rulV, mkS_nil, *]; done) | (simp [results, Tryd.results26, go_sem, rulV, mkS_nil]; done)) rfl ⟨⟨(3, f0, f1), true, rfl, HN.out⟩, Chg.setCell (Chg.setCell (Chg.setCell (Chg.setCell HC2.out (.inl (show w.heap.size ≤ w.heap.size + 1 by omega)) _) (.inl (show w.heap.size ≤ w.heap.size by omega)) _) (.inl (show w.heap.size ≤ w.heap.size by omega)) _) (.inl (show w.heap.size ≤ w.heap.size by omega)) _⟩
        · by_cases hlo : n < 2
          · have hlo1 : (n : Int) < 2 := by omega
            have hni : ((n : Int) != 3) = true := by rw [bne_iff_ne]; omega
            have hni2 : ((n : Int) == 3) = false := by rw [beq_eq_false_iff_ne]; omega
            have HN : Hid (readR ws = none) := by
              rw [Hid, hwa, h3]
              match r, hwa with
              | [], _ => rfl
              | [y], _ => simp [readR, kw]
              | [y, z], hwa => exact absurd (by rw [← hl, hwa]; rfl) hnw
              | y :: z :: u :: v, _ => rfl

            clear HX HCELL HCELLW hwa h1 h2 h3
            generalize mkS a = sa at *
            go_enter Tryd.func26, Tryd.ntmps26
            go_wp2
            exact bodyPost_ret (v := .tuple #[rulV (0, [], []), .bool false]) (by first | (simp [results, Tryd.results26, go_sem, rulV, mkS_nil, *]; done) | (simp [results, Tryd.results26, go_sem, rulV, mkS_nil]; done)) rfl ⟨⟨(0, [], []), false, rfl, HN.out⟩, ((Chg.refl No w).alloc _).alloc _⟩
          by_cases hhi : 3 < n
          · have hlo1 : ¬ (n : Int) < 2 := by omega
            have hlo2 : decide ((n : Int) < 2) = false := decide_eq_false hlo1
            have hhi1 : (3 : Int) < (n : Int) := by omega
            have hni : ((n : Int) != 3) = true := by rw [bne_iff_ne]; omega
            have hni2 : ((n : Int) == 3) = false := by rw [beq_eq_false_iff_ne]; omega
            have HN : Hid (readR ws = none) := by
              rw [Hid, hwa, h3]
              match r, hwa with
              | [], _ => rfl
              | [y], _ => simp [readR, kw]
              | [y, z], hwa => exact absurd (by rw [← hl, hwa]; rfl) hnw
              | y :: z :: u :: v, _ => rfl

            clear HX HCELL HCELLW hwa h1 h2 h3
            generalize mkS a = sa at *
            go_enter Tryd.func26, Tryd.ntmps26
            go_wp2
            exact bodyPost_ret (v := .tuple #[rulV (0, [], []), .bool false]) (by first | (simp [results, Tryd.results26, go_sem, rulV, mkS_nil, *]; done) | (simp [results, Tryd.results26, go_sem, rulV, mkS_nil]; done)) rfl ⟨⟨(0, [], []), false, rfl, HN.out⟩, ((Chg.refl No w).alloc _).alloc _⟩
          have hlo1 : ¬ (n : Int) < 2 := by omega
          have hlo2 : decide ((n : Int) < 2) = false := decide_eq_false hlo1
          have hhi1 : ¬ (3 : Int) < (n : Int) := by omega
          have hhi2 : decide ((3 : Int) < (n : Int)) = false := decide_eq_false hhi1
          have hni : ((n : Int) != 3) = true := by rw [bne_iff_ne]; omega
          have hni2 : ((n : Int) == 3) = false := by rw [beq_eq_false_iff_ne]; omega
          have HN : Hid (readR ws = none) := by
            rw [Hid, hwa, h3]
            match r, hwa with
            | [], _ => rfl
            | [y], _ => simp [readR, kw]
            | [y, z], hwa => exact absurd (by rw [← hl, hwa]; rfl) hnw
            | y :: z :: u :: v, _ => rfl

          clear HX HCELL HCELLW hwa h1 h2 h3
          generalize mkS a = sa at *
          go_enter Tryd.func26, Tryd.ntmps26
          go_wp2
          exact bodyPost_ret (v := .tuple #[rulV (0, [], []), .bool false]) (by first | (simp [results, Tryd.results26, go_sem, rulV, mkS_nil, *]; done) | (simp [results, Tryd.results26, go_sem, rulV, mkS_nil]; done)) rfl ⟨⟨(0, [], []), false, rfl, HN.out⟩, ((Chg.refl No w).alloc _).alloc _⟩
      · have n1 : ((mkS a).toList == [107, 101, 101, 112]) = false := by rw [Lib.toList_data, mkS_list]; exact beq_eq_false_iff_ne.2 h1
        have n2 : ((mkS a).toList == [100, 114, 111, 112]) = false := by rw [Lib.toList_data, mkS_list]; exact beq_eq_false_iff_ne.2 h2
        have n3 : ((mkS a).toList == [109, 111, 118, 101]) = false := by rw [Lib.toList_data, mkS_list]; exact beq_eq_false_iff_ne.2 h3
        by_cases hlo : n < 2
        · have hlo1 : (n : Int) < 2 := by omega
          have HN : Hid (readR ws = none) := by
            rw [Hid, hwa]
            match r, hwa with
            | [], _ => rfl
            | [y], _ => simp [readR, kw, h1, h2]
            | [y, z], _ => simp [readR, kw, h3]
            | y :: z :: u :: v, _ => rfl

          clear HX HCELL HCELLW hwa h1 h2 h3
          generalize mkS a = sa at *
          go_enter Tryd.func26, Tryd.ntmps26
          go_wp2
          exact bodyPost_ret (v := .tuple #[rulV (0, [], []), .bool false]) (by first | (simp [results, Tryd.results26, go_sem, rulV, mkS_nil, *]; done) | (simp [results, Tryd.results26, go_sem, rulV, mkS_nil]; done)) rfl ⟨⟨(0, [], []), false, rfl, HN.out⟩, ((Chg.refl No w).alloc _).alloc _⟩
        by_cases hhi : 3 < n
        · have hlo1 : ¬ (n : Int) < 2 := by omega
          have hlo2 : decide ((n : Int) < 2) = false := decide_eq_false hlo1
          have hhi1 : (3 : Int) < (n : Int) := by omega
          have HN : Hid (readR ws = none) := by
            rw [Hid, hwa]
            match r, hwa with
            | [], _ => rfl
            | [y], _ => simp [readR, kw, h1, h2]
            | [y, z], _ => simp [readR, kw, h3]
            | y :: z :: u :: v, _ => rfl

          clear HX HCELL HCELLW hwa h1 h2 h3
          generalize mkS a = sa at *
          go_enter Tryd.func26, Tryd.ntmps26
          go_wp2
          exact bodyPost_ret (v := .tuple #[rulV (0, [], []), .bool false]) (by first | (simp [results, Tryd.results26, go_sem, rulV, mkS_nil, *]; done) | (simp [results, Tryd.results26, go_sem, rulV, mkS_nil]; done)) rfl ⟨⟨(0, [], []), false, rfl, HN.out⟩, ((Chg.refl No w).alloc _).alloc _⟩
        have hlo1 : ¬ (n : Int) < 2 := by omega
        have hlo2 : decide ((n : Int) < 2) = false := decide_eq_false hlo1
        have hhi1 : ¬ (3 : Int) < (n : Int) := by omega
        have hhi2 : decide ((3 : Int) < (n : Int)) = false := decide_eq_false hhi1
        have HN : Hid (readR ws = none) := by
          rw [Hid, hwa]
          match r, hwa with
          | [], _ => rfl
          | [y], _ => simp [readR, kw, h1, h2]
          | [y, z], _ => simp [readR, kw, h3]
          | y :: z :: u :: v, _ => rfl

        clear HX HCELL HCELLW hwa h1 h2 h3
        generalize mkS a = sa at *
        go_enter Tryd.func26, Tryd.ntmps26
        go_wp2
        exact bodyPost_ret (v := .tuple #[rulV (0, [], []), .bool false]) (by first | (simp [results, Tryd.results26, go_sem, rulV, mkS_nil, *]; done) | (simp [results, Tryd.results26, go_sem, rulV, mkS_nil]; done)) rfl ⟨⟨(0, [], []), false, rfl, HN.out⟩, ((Chg.refl No w).alloc _).alloc _⟩
end Go.Proofs.YtcomcoolmabmgaaDoor

namespace Go.Proofs.YtcomcoolmabmgaaDoor
set_option linter.unnecessarySimpa false
open Go.RowKit Go.Shelf
set_option linter.unusedVariables false
set_option linter.unusedSimpArgs false
set_option maxRecDepth 100000

attribute [local go_sem] Oper.semAt_some

abbrev lencs (x : Nat × List UInt8) : Array Value := #[.int .i64 (x.1 : Int), .string (mkS x.2)]
/-- Lines with their numbers. -/
def idx (k : Nat) : List (List UInt8) → List (Nat × List UInt8)
  | [] => []
  | x :: r => (k, x) :: idx (k + 1) r
theorem idx_len : ∀ (r : List (List UInt8)) (k : Nat), (idx k r).length = r.length
  | [], _ => rfl
  | x :: r, k => by simp [idx, idx_len r (k + 1)]

set_option maxHeartbeats 2000000 in
theorem lines_stops {α : Type} (g : α → Nat × List UInt8) (X : List α) (n : Nat) (hn : 1 ≤ n) (B : Nat) (s : ByteArray) (hs : s.size ≤ 9223372036854775000) (Kp : World → World → Prop) (w : World) (hb : w.cell? ⟨B, 0, none⟩ = some (.string s)) (hBw : B < w.heap.size) (hX : X.map g = idx 0 (linesF s.data.toList)) :
    SeqStopsK Fence.wide n Tryd.prog 34 #[.pointer (some ⟨B, 0, none⟩)] (fun x => lencs (g x)) Kp (fun xs => xs = X) (fun pre => pre <+: X) X.length w := fun l J Jx W hW hJ hJx hY h0 => by
  have hB : W.cell? ⟨B, 0, none⟩ = some (.string (mkS s.data.toList)) := by rw [mkS_self]; exact (hW.cell (p := ⟨B, 0, none⟩) hBw).trans hb
  have hss : s.data.toList.length ≤ 9223372036854775000 := by rw [size_list]; exact hs
  generalize s.data.toList = L at *
  have HX := Lib.hid hX
  clear hX
  refine callsIn_of_wp Tryd.func34 rfl trivial ?_ rfl
  simp only [Tryd.ntmps34, List.size_toArray, List.length_cons, List.length_nil, Nat.reduceAdd, Nat.reduceSub, Array.replicate_succ, Array.replicate_zero, List.push_toArray, List.append_toArray, List.nil_append, List.cons_append]
  gi_wp2
  gi_loopw [3, 4] (fun r p wr => ∃ (pre post : List α) (k : Nat) (rest : List UInt8), r = .string (mkS rest) ∧ p = .int .i64 (k : Int) ∧ k + rest.length ≤ L.length ∧ Hid (X = pre ++ post) ∧ Hid (post.map g = idx k (linesF rest)) ∧ J pre wr)
    (fun r _ _ => (match r with | .string s => s.size | _ => 0))
  case atStart => exact ⟨[], X, 0, L, rfl, rfl, by omega, rfl, HX.out, h0⟩
  case round =>
    obtain ⟨pre, post, k, rest, rfl, rfl, hkr, HP, HI, hJs⟩ := hrel
    by_cases hne : rest = []
    · subst hne
      have he : (mkS ([] : List UInt8)).toList = [] := by rw [Lib.toList_data, mkS_list]
      have hpost : post = [] := by
        have := HI.out
        rw [linesF_nil] at this
        simpa [idx] using this
      have HPP : Hid (pre = X) := by rw [Hid, HP.out, hpost]; simp
      clear hpost
      gi_wp2
      go_end0
      exact ⟨⟨_, rfl⟩, .inl ⟨pre, HPP.out, hJs⟩⟩
    · have he : ((mkS rest).toList = []) = False := by rw [Lib.toList_data, mkS_list]; exact eq_false hne
      have he2 : (mkS rest).toList.isEmpty = false := by rw [Lib.toList_data, mkS_list]; cases rest with | nil => exact absurd rfl hne | cons c t => rfl
      have hII := HI.out
      rw [linesF_cons rest hne] at hII
      obtain ⟨x, post', rfl⟩ : ∃ x p', post = x :: p' := by
        cases post with
        | nil => simp [idx] at hII
        | cons x p' => exact ⟨x, p', rfl⟩
      simp only [List.map_cons, idx, List.cons.injEq] at hII
      have HN : Hid (X = (pre ++ [x]) ++ post') := by rw [Hid, HP.out]; simp
      have HG := Lib.hid hII.1
      have HI2 := Lib.hid hII.2
      have hrl := restL_len rest hne
      have hpl : pre.length < X.length := by rw [HN.out]; simp only [List.length_append, List.length_cons, List.length_nil]; omega
      have hsz : (mkS rest).size ≤ 9223372036854775000 := by rw [mkS_size]; omega
      have CC := Lib.hid (fun w => cut_calls w (mkS rest) hsz)
      simp only [mkS_list] at CC
      have hY' := Lib.hid hY
      clear hne hII
      gi_wp2_with (refine ⟨trivial, ?_⟩; gi_at_call 35; refine (callsIn_wide.2 (CC.out _)).mono ?_; rintro e w' ⟨rfl, hc⟩)
      have hJ2 : J pre w' := by
        rcases hc with rfl | rfl
        · exact hJs
        · exact hJ _ _ _ none hJs ⟨rfl, rfl, rfl, Nat.le_refl _, fun _ _ _ => rfl⟩ (fun _ h => by cases h)
      obtain ⟨fn, tmps, assign, body, hy, hR⟩ := hY'.out pre x w' hJ2 hpl
      rw [HG.out] at hy
      dsimp only [lencs] at hy
      clear hc hJs CC
      gi_wp2
      rw [hy]
      gi_wp2
      refine hR.mono ?_
      rintro e W3 (⟨rfl, hJ3, hk3⟩ | ⟨rfl, hJx3⟩)
      · clear hy hR
        gi_wp2
        go_roundw
        case rel => exact ⟨pre ++ [x], post', k + 1, restL rest, rfl, by go_num, by omega, HN.out, HI2.out, hJ3⟩
        case measure => simp only [mkS_size]; exact hrl
      · clear hy hR
        gi_wp2
        refine bodyPost_ret (results_none rfl _ _ _) rfl ?_
        exact ⟨⟨_, rfl⟩, .inr ⟨pre ++ [x], ⟨_, HN.out.symm⟩, hJx3⟩⟩

set_option maxHeartbeats 800000 in
theorem lines_calls (w : World) (s : ByteArray) : Calls Tryd.prog 17 #[.string s] w fun e w' => e = .returned (.func (.func 34) #[] #[.pointer (some ⟨w.heap.size, 0, none⟩)]) ∧ w' = w.alloc (.cells #[.string s] 9) := by
  go_enter Tryd.func17, Tryd.ntmps17
  go_wp2
  go_ret
  exact ⟨rfl, rfl⟩

section
variable {F : Fence} {nF : Nat} {P : Program} {w : World}
theorem wpListIn_app {ops : Array Oper} {rest : List Oper} {o : Oper} {a : Act} {Q : Exit → Act → World → Prop} (hgd : o.guard = none) (s x : Operand) (t tx : TypeId)
    (ho : o.op = .call { callee := .builtin .append, args := #[s, x], argTypes := #[t, tx] })
    (base : Nat) (e : TypeId) (z : Value) (size bytes : Nat) (hinfo : (P.info? e).map (fun i => (i.zero, i.size, i.bytes)) = some (some z, size, bytes)) (ht : P.underlying t = some (.slice e))
    (hzs : z.cells.size = size) (hsz : 0 < size)
    (v xv : Value) (n m : Nat) (xs news : List Value) (hs : a.eval s = v) (hx : a.eval x = xv)
    (hown : w.ownsRow base e size v n xs) (hsrc : Src P size tx xv m news w)
    (hbytes : (n + m) * bytes ≤ 140737488355328) (h63 : n + m ≤ maxLen) (hbase : base ≤ w.heap.size)
    (h : ∀ v' w', w'.ownsRow base e size v' (n + m) (xs ++ news) → w.grownBy w' v.ownBlock → wpListIn F nF P ops Q rest (a.put o.dst v') w') : wpListIn F nF P ops Q (o :: rest) a w := by
  obtain ⟨i, hi, hz0, hz1, hz2⟩ := info_parts hinfo
  refine wpListIn_plain hgd fun K hK => ?_
  obtain ⟨v', w', hr, h2, h3⟩ := run_append_own_src (P := P) w base t tx o.type e i z size bytes ht hi hz0 hz1 hz2 hzs hsz v n xs hown xv m news hsrc hbytes h63 hbase
  unfold Oper.wpIn
  refine ⟨by simp [Oper.about, ho, resolve, Target.leads, Sem.run_pure], ?_⟩
  rw [Oper.semAt_plain F _ _ (by rw [ho]; intro c hc'; cases hc')]
  simp [execOp, ho, resolve, invoke, builtin, hs, hx, hr, Result.andThen]
  exact hK _ _ (h v' w' h2 h3)
end
end Go.Proofs.YtcomcoolmabmgaaDoor

namespace Go.Proofs.YtcomcoolmabmgaaDoor
set_option linter.unnecessarySimpa false
open Go.RowKit Go.Shelf
set_option linter.unusedVariables false
set_option linter.unusedSimpArgs false
set_option maxRecDepth 100000

attribute [local go_sem] Oper.semAt_some

theorem lines_mem : ∀ (n : Nat) (l : List UInt8), l.length ≤ n → ∀ x ∈ linesF l, (∀ b ∈ x, b ≠ 10) ∧ x.length ≤ l.length := by
  intro n
  induction n with
  | zero =>
    intro l hl x hx
    have : l = [] := List.eq_nil_of_length_eq_zero (by omega)
    subst this
    rw [linesF_nil] at hx; cases hx
  | succ n ih =>
    intro l hl x hx
    by_cases h : l = []
    · subst h; rw [linesF_nil] at hx; cases hx
    · rw [linesF_cons l h] at hx
      rcases List.mem_cons.1 hx with rfl | hx
      · exact ⟨firstL_mem l, firstL_len l⟩
      · have hr := restL_len l h
        obtain ⟨h1, h2⟩ := ih (restL l) (by omega) x hx
        exact ⟨h1, by omega⟩
theorem lines_count : ∀ (n : Nat) (l : List UInt8), l.length ≤ n → (linesF l).length ≤ l.length := by
  intro n
  induction n with
  | zero =>
    intro l hl
    have : l = [] := List.eq_nil_of_length_eq_zero (by omega)
    subst this
    rw [linesF_nil]; exact Nat.le_refl _
  | succ n ih =>
    intro l hl
    by_cases h : l = []
    · subst h; rw [linesF_nil]; exact Nat.le_refl _
    · have hr := restL_len l h
      have := ih (restL l) (by omega)
      rw [linesF_cons l h, List.length_cons]; omega
theorem idx_mem : ∀ (ls : List (List UInt8)) (k : Nat) (x : Nat × List UInt8), x ∈ idx k ls → x.2 ∈ ls
  | [], _, _, h => by cases h
  | y :: r, k, x, h => by
    rcases List.mem_cons.1 h with rfl | h
    · simp
    · exact List.mem_cons_of_mem _ (idx_mem r (k + 1) x h)
theorem keeps_own {W W' : World} {base size k : Nat} {e : TypeId} {v : Value} {xs : List Value} (hr : W.ownsRow base e size v k xs) (hg : W.grownBy W' v.ownBlock) : KeepsOthers W W' :=
  KeepsOthers.of_grownBy hg fun j o ej hj => by
    rcases hr.2 with ⟨rfl, _⟩ | ⟨g, cap, cur, rfl, _, hgb, _⟩
    · simp [Value.ownBlock] at ej
    · obtain rfl : g = j := by simpa [Value.ownBlock] using ej
      rw [hgb] at hj; cases hj; rfl
theorem below_own {n₀ : Nat} {W W' : World} {size k : Nat} {e : TypeId} {v : Value} {xs : List Value} (hr : W.ownsRow n₀ e size v k xs) (hg : W.grownBy W' v.ownBlock) (hn : n₀ ≤ W.heap.size) : Below n₀ W W' :=
  (Below.refl n₀ W).grown hg hn fun j ej => by
    rcases hr.2 with ⟨rfl, _⟩ | ⟨g, cap, cur, rfl, hb, _, _⟩
    · simp [Value.ownBlock] at ej
    · obtain rfl : g = j := by simpa [Value.ownBlock] using ej
      exact hb

theorem boxed_kept {X Y : World} {row : Option Nat} {B : Nat} {t : TypeId} {v : Value} {B0 : Nat} (h : Boxed X B t v) (hg : X.grownBy Y row) (hr : ∀ r, row = some r → B0 ≤ r ∧ ∃ o : Obj, X.heap[r]? = some o ∧ o.isCells = false) : Boxed Y B t v :=
  h.kept hg (fun e => by obtain ⟨_, o, ho, hc⟩ := hr _ e.symm; rw [show X.heap[B]? = _ from h] at ho; cases ho; cases hc)
theorem idx_snd : ∀ (ls : List (List UInt8)) (k : Nat), (idx k ls).map (·.2) = ls
  | [], _ => rfl
  | x :: r, k => by simp [idx, idx_snd r (k + 1)]
abbrev RN (s : List UInt8) := { x : Nat × List UInt8 // x ∈ idx 0 (linesF s) }
/-- How far lines bring a reading; none: something is wrong. -/
def foldG : Nat → List Rul → List (List UInt8) → Option (Nat × List Rul)
  | a, acc, [] => some (a, acc)
  | a, acc, l :: r => match wordsF 0 [] l with
    | .inl _ => none
    | .inr [] => foldG (a + l.length + 1) acc r
    | .inr (w :: ws) => match readR (w :: ws) with
      | none => none
      | some x => if acc.length = 64 then none else foldG (a + l.length + 1) (acc ++ [x]) r
theorem fold_read : ∀ (ls rest : List (List UInt8)) (a : Nat) (acc : List Rul) (a' : Nat) (acc' : List Rul), foldG a acc ls = some (a', acc') → readG a acc (ls ++ rest) = readG a' acc' rest := by
  intro ls
  induction ls with
  | nil => intro rest a acc a' acc' h; simp only [foldG, Option.some.injEq, Prod.mk.injEq] at h; rw [h.1, h.2]; rfl
  | cons l ls ih =>
    intro rest a acc a' acc' h
    rw [foldG] at h
    rw [List.cons_append, readG]
    generalize wordsF 0 [] l = v at *
    match v, h with
    | .inl _, h => cases h
    | .inr [], h => exact ih _ _ _ _ _ h
    | .inr (w :: ws), h =>
      simp only at h ⊢
      generalize readR (w :: ws) = u at *
      match u, h with
      | none, h => cases h
      | some x, h =>
        simp only at h ⊢
        by_cases h64 : acc.length = 64
        · rw [if_pos h64] at h; cases h
        · rw [if_neg h64] at h ⊢
          exact ih _ _ _ _ _ h
theorem fold_snoc : ∀ (ls : List (List UInt8)) (l : List UInt8) (a : Nat) (acc : List Rul) (a' : Nat) (acc' : List Rul), foldG a acc ls = some (a', acc') → foldG a acc (ls ++ [l]) = foldG a' acc' [l] := by
  intro ls
  induction ls with
  | nil => intro l a acc a' acc' h; simp only [foldG, Option.some.injEq, Prod.mk.injEq] at h; rw [h.1, h.2]; rfl
  | cons l0 ls ih =>
    intro l a acc a' acc' h
    rw [foldG] at h
    rw [List.cons_append, foldG]
    generalize wordsF 0 [] l0 = v at *
    match v, h with
    | .inl _, h => cases h
    | .inr [], h => exact ih _ _ _ _ _ h
    | .inr (w :: ws), h =>
      simp only at h ⊢
      generalize readR (w :: ws) = u at *
      match u, h with
      | none, h => cases h
      | some x, h =>
        simp only at h ⊢
        by_cases h64 : acc.length = 64
        · rw [if_pos h64] at h; cases h
        · rw [if_neg h64] at h ⊢
          exact ih _ _ _ _ _ h
/-- What lies through all rounds. -/
def rlF (w : World) (B2 B3 B4 B5 : Nat) (a : Nat) (A : Option Addr) (n c : Nat) (acc : List Rul) (W : World) : Prop :=
  Boxed W B2 23 (.slice none 0 0) ∧ W.heap[B3]? = some (.cells #[.int .i64 0, .int .i64 0] 26 (0, 0)) ∧ Boxed W B4 23 (.slice A n c) ∧ Boxed W B5 3 (.int .i64 (a : Int)) ∧ OwnR W w.heap.size (.slice A n c) n acc ∧ Below w.heap.size w W
theorem OwnR.kept {W W' : World} {base n : Nat} {v : Value} {l : List Rul} {row : Option Nat} (h : OwnR W base v n l) (hg : W.grownBy W' row) (hr : ∀ r, row = some r → ∃ o : Obj, W.heap[r]? = some o ∧ o.isCells = false) : OwnR W' base v n l := by
  refine World.ownsRow.kept h hg ?_
  rcases h.2 with ⟨h, _⟩ | ⟨g, cap, cur, h, _, hgb, _⟩
  · exact .inl (by rw [h]; rfl)
  · refine .inr fun e' => ?_
    obtain ⟨o, ho, hc⟩ := hr g (by rw [h] at e'; simpa [Value.ownBlock] using e'.symm)
    rw [hgb] at ho; cases ho; cases hc
theorem OwnR.chg {w w' : World} {base n : Nat} {v : Value} {l : List Rul} (h : OwnR w base v n l) (hc : Chg No w w') : OwnR w' base v n l := by
  obtain ⟨h1, h2⟩ := h
  refine ⟨h1, h2.imp id ?_⟩
  rintro ⟨g, cap, cur, rfl, hg, hh, r⟩
  exact ⟨g, cap, cur, rfl, hg, hc.heap hh (fun x => x), r⟩
theorem cells_kept {X Y : World} {row : Option Nat} {B : Nat} {cs : Array Value} {t : TypeId} {fz : Nat × Nat} (h : X.heap[B]? = some (.cells cs t fz)) (hg : X.grownBy Y row) (hr : ∀ r, row = some r → ∃ o : Obj, X.heap[r]? = some o ∧ o.isCells = false) : Y.heap[B]? = some (.cells cs t fz) :=
  (hg.block B (Array.getElem?_eq_some_iff.1 h).1 (fun e => by obtain ⟨o, ho, hc⟩ := hr _ e.symm; rw [h] at ho; cases ho; cases hc)).trans h
theorem rlF_own {β : Type} {B : Nat} {w : World} {B2 B3 B4 B5 : Nat} {a : Nat} {A : Option Addr} {n c : Nat} {acc : List Rul} (hW : w.heap.size ≤ B) : OwnFrom B (fun (_ : β) W' => rlF w B2 B3 B4 B5 a A n c acc W') := by
  rintro p X Y row ⟨h2, h3, h4, h5, hrow, hB⟩ hg hr
  have hr' : ∀ r, row = some r → ∃ o : Obj, X.heap[r]? = some o ∧ o.isCells = false := fun r e => (hr r e).2
  exact ⟨boxed_kept h2 hg hr, cells_kept h3 hg hr', boxed_kept h4 hg hr, boxed_kept h5 hg hr, OwnR.kept hrow hg hr', hB.grown hg hB.size (fun k e => by have := (hr k e).1; omega)⟩
theorem rlF.no {w : World} {B2 B3 B4 B5 : Nat} {a : Nat} {A : Option Addr} {n c : Nat} {acc : List Rul} {W W' : World} (h : rlF w B2 B3 B4 B5 a A n c acc W) (hc : Chg No W W') : rlF w B2 B3 B4 B5 a A n c acc W' := by
  obtain ⟨h2, h3, h4, h5, hrow, hB⟩ := h
  exact ⟨hc.heap h2 (fun x => x), hc.heap h3 (fun x => x), hc.heap h4 (fun x => x), hc.heap h5 (fun x => x), OwnR.chg hrow hc, hB.trans ((Chg.below hc).mono hB.size)⟩
theorem rlF.ne {w : World} {B2 B3 B4 B5 : Nat} {a : Nat} {A : Option Addr} {n c : Nat} {acc : List Rul} {W : World} (h : rlF w B2 B3 B4 B5 a A n c acc W) : B2 ≠ B3 ∧ B2 ≠ B5 ∧ B3 ≠ B4 ∧ B3 ≠ B5 ∧ B4 ≠ B5 := by
  obtain ⟨h2, h3, h4, h5, -, -⟩ := h
  have g2 : W.heap[B2]? = _ := h2
  have g4 : W.heap[B4]? = _ := h4
  have g5 : W.heap[B5]? = _ := h5
  refine ⟨?_, ?_, ?_, ?_, ?_⟩ <;> rintro rfl
  · rw [g2] at h3; cases h3
  · rw [g2] at g5; cases g5
  · rw [h3] at g4; cases g4
  · rw [h3] at g5; cases g5
  · rw [g4] at g5; cases g5
/-- The place goes on. -/
theorem rlF.step {w : World} {B2 B3 B4 B5 : Nat} {a a' : Nat} {A : Option Addr} {n c : Nat} {acc : List Rul} {W : World} (h : rlF w B2 B3 B4 B5 a A n c acc W) (hn : w.heap.size ≤ B5) : rlF w B2 B3 B4 B5 a' A n c acc (W.setCell ⟨B5, 0, none⟩ (.int .i64 (a' : Int))) := by
  obtain ⟨n1, n2, n3, n4, n5⟩ := h.ne
  obtain ⟨h2, h3, h4, h5, hrow, hB⟩ := h
  refine ⟨h2.other n2 _, ?_, h4.other n5 _, h5.set _, World.ownsRow.kept hrow (grownBy_setCell' W B5 _) (.inr (h5.not_row (by decide) hrow).symm), hB.setCell (p := ⟨B5, 0, none⟩) hn _⟩
  exact ((grownBy_setCell' W B5 _).block B3 (Array.getElem?_eq_some_iff.1 h3).1 (fun e => n4 (Option.some.inj e))).trans h3
theorem cells_not_row {W : World} {B : Nat} {cs : Array Value} {t e : TypeId} {fz : Nat × Nat} (h : W.heap[B]? = some (.cells cs t fz)) (hte : t ≠ e) {base size k : Nat} {v : Value} {xs : List Value} (hr : W.ownsRow base e size v k xs) : some B ≠ v.ownBlock := by
  intro he
  rcases hr.2 with ⟨h0, _⟩ | ⟨g, cap, cur, h0, _, hgb, _⟩
  · rw [h0] at he; cases he
  · rw [h0] at he
    obtain rfl : B = g := by simpa [Value.ownBlock] using he
    rw [h] at hgb; cases hgb; exact hte rfl
/-- A rule more. -/
theorem rlF.app {w : World} {B2 B3 B4 B5 : Nat} {a : Nat} {A A8 : Option Addr} {n c c8 : Nat} {acc : List Rul} {x : Rul} {W W8 : World} (h : rlF w B2 B3 B4 B5 a A n c acc W) (hn : w.heap.size ≤ B4) (hne24 : B2 ≠ B4) (ho : OwnR W8 w.heap.size (.slice A8 (n + 1) c8) (n + 1) (acc ++ [x])) (hg : W.grownBy W8 (Value.slice A n c).ownBlock) :
    rlF w B2 B3 B4 B5 a A8 (n + 1) c8 (acc ++ [x]) (W8.setCell ⟨B4, 0, none⟩ (.slice A8 (n + 1) c8)) := by
  obtain ⟨n1, n2, n3, n4, n5⟩ := h.ne
  obtain ⟨h2, h3, h4, h5, hrow, hB⟩ := h
  have g2 : Boxed W8 B2 23 (.slice none 0 0) := h2.kept hg (h2.not_row (by decide) hrow)
  have g3 : W8.heap[B3]? = _ := (hg.block B3 (Array.getElem?_eq_some_iff.1 h3).1 (cells_not_row h3 (by decide) hrow)).trans h3
  have g4 : Boxed W8 B4 23 (.slice A n c) := h4.kept hg (h4.not_row (by decide) hrow)
  have g5 : Boxed W8 B5 3 (.int .i64 (a : Int)) := h5.kept hg (h5.not_row (by decide) hrow)
  have gB : Below w.heap.size w W8 := hB.grown hg hB.size (fun k hk => (World.ownsRow.lt hrow k hk).1)
  refine ⟨g2.other hne24 _, ?_, g4.set _, g5.other (fun e => n5 e.symm) _, World.ownsRow.kept ho (grownBy_setCell' W8 _ _) (.inr (g4.not_row (by decide) ho).symm), gB.setCell (p := ⟨B4, 0, none⟩) hn _⟩
  exact ((grownBy_setCell' W8 B4 _).block B3 (Array.getElem?_eq_some_iff.1 g3).1 (fun e => n3 (Option.some.inj e))).trans g3
theorem Src.rule {P : Program} {W : World} {tx e' t : TypeId} {g : Nat} (hk : P.underlying tx = some (.slice e')) (x : Rul) (hg : W.heap[g]? = some (.cells #[.int .i64 x.1, .string (mkS x.2.1), .string (mkS x.2.2)] t (0, 0))) :
    Src P 3 tx (.slice (some ⟨g, 0, none⟩) 1 1) 1 (encR x) W :=
  Src.ofSlice _ hk _ _ _ (encR x) (by simp [encR]) (fun i v hj => by
    rw [Addr.add_lit, Nat.zero_add]
    match i, hj with
    | 0, hj => simpa [World.cell?, hg, encR] using hj
    | 1, hj => simpa [World.cell?, hg, encR] using hj
    | 2, hj => simpa [World.cell?, hg, encR] using hj
    | i + 3, hj => simp [encR] at hj) (fun v hv => by
    simp [encR] at hv
    rcases hv with rfl | rfl | rfl <;> rfl)
theorem infoR : (Tryd.prog.info? 32).map (fun i => (i.zero, i.size, i.bytes)) = some (some (.agg #[.int .i64 0, .string ⟨#[]⟩, .string ⟨#[]⟩]), 3, 40) := by kernel_rfl
end Go.Proofs.YtcomcoolmabmgaaDoor

