/-
  The walk of JournalNone: a journal, a disk that are not there; names that no file has.
-/
import Derived.Test.YtbbfjnfmfigcfaaJ14
namespace Go.Proofs.Ytbbfjnfmfigcfaa
open Go.RowKit Go.Shelf
set_option linter.unusedVariables false
set_option linter.unusedSimpArgs false
set_option maxRecDepth 100000

attribute [local go_sem] Oper.semAt_some

theorem jappend_none (w : World) (v : Value) : Calls Try.prog 17 #[.pointer none, v] w fun e w' => e = .returned (.int .i64 1) ∧ w' = w := by
  go_enter Try.func17, Try.ntmps17
  go_wp2
  go_ret
  exact ⟨rfl, rfl⟩
set_option maxHeartbeats 800000 in
theorem each_nil (n : Nat) (hn : 1 ≤ n) (w : World) (B : Nat) (hB : Boxed w B 30 (.pointer none)) :
    SeqC Fence.wide n Try.prog 39 #[.pointer (some ⟨B, 0, none⟩)] rcs (fun _ _ _ => False) (fun _ _ => True) (fun xs => xs = []) w := fun l J Jx W hW0 hJ hJx hY h0 => by
  have hBw : B < w.heap.size := (Array.getElem?_eq_some_iff.1 (show w.heap[B]? = _ from hB)).1
  have e0 : W.cell? ⟨B, 0, none⟩ = some (.pointer none) := (hW0.cell (p := ⟨B, 0, none⟩) hBw).trans hB.cell
  refine callsIn_of_wp Try.func39 rfl trivial ?_ rfl
  simp only [Try.ntmps39, List.size_toArray, List.length_cons, List.length_nil, Nat.reduceAdd, Nat.reduceSub, Array.replicate_succ, Array.replicate_zero, List.push_toArray, List.append_toArray, List.nil_append, List.cons_append]
  gi_wp2_with (refine ⟨trivial, ?_⟩; gi_at_call 20; refine (callsIn_wide.2 (len_none _)).mono ?_; rintro e w' ⟨rfl, rfl⟩)
  gi_loopw [6] (fun i V => i = .int .i64 0 ∧ J [] V) (fun i _ => 0)
  case atStart => exact ⟨rfl, h0⟩
  case round =>
    obtain ⟨rfl, hJV⟩ := hrel
    gi_wp2
    go_end0
    exact ⟨⟨_, rfl⟩, .inl ⟨[], rfl, hJV⟩⟩

set_option maxHeartbeats 3200000 in
theorem journalNone_core (n : Nat) (hn : 3 ≤ n) (w : World) (k : ByteArray) (x : Int) :
    CallsIn Fence.wide n Try.prog 5 #[.string k, .int .i64 x] w fun e W' => e = .returned (.bool true) ∧ Below w.heap.size w W' := by
  have h1 : 1 ≤ n := by omega
  refine callsIn_of_wp_marks Try.func5 rfl trivial ?_ rfl
  simp only [Try.ntmps5, List.size_toArray, List.length_cons, List.length_nil, Nat.reduceAdd, Nat.reduceSub, Array.replicate_succ, Array.replicate_zero, List.push_toArray, List.append_toArray, List.nil_append, List.cons_append]
  gi_wp2_with (first | (refine ⟨trivial, ?_⟩; gi_at_call 8; refine (callsIn_wide.2 (wakes_calls _)).mono ?_; rintro e w1 ⟨rfl, hc1⟩) | (refine ⟨trivial, ?_⟩; gi_at_call 18; refine (callsIn_wide.2 (record_none _ _)).mono ?_; rintro e w2 ⟨rfl, rfl⟩) | (refine ⟨trivial, ?_⟩; gi_at_call 11; refine (callsIn_wide.2 (open_none _ _)).mono ?_; rintro e w3 ⟨rfl, hc3⟩) | (refine ⟨trivial, ?_⟩; gi_at_call 19; refine (callsIn_wide.2 (each_calls _ _)).mono ?_; rintro e w4 ⟨rfl, rfl⟩))
  have hbx := Boxed.new w 4 (.bool false)
  have hb3 : Boxed (w3.alloc (.cells #[.pointer none] 30)) w.heap.size 4 (.bool false) := Boxed.alloc (hc3.heap (hc1.heap hbx (fun x => x)) (fun x => x)) _
  have hC3 : Chg No w (w3.alloc (.cells #[.pointer none] 30)) := (((((Chg.refl No w).alloc _).no hc1).no hc3).alloc _)
  have hx3 := Boxed.new w3 30 (.pointer none)
  have hlt : w.heap.size < (w3.alloc (.cells #[.pointer none] 30)).heap.size := hb3.lt
  clear hc1 hc3 hbx
  have HB3 := Lib.hid hC3.below
  refine wpIn_rangeFunc_C rfl h1 (gf := 39) (lb := #[.pointer (some ⟨w3.heap.size, 0, none⟩)]) rfl trivial (enters_of Try.func39 (by kernel_rfl) rfl)
    (each_nil (n - 1) (by omega) _ w3.heap.size hx3) (fun _ _ => trivial) (fun _ _ _ _ _ _ _ _ => trivial) (fun _ => rfl) (fun _ _ _ _ _ h _ _ => h.elim)
    (fun (_ : List Rc) W => Boxed W w.heap.size 4 (.bool false) ∧ Below w.heap.size w W)
    (fun _ => False)
    (OwnFrom.and (Own.from (boxed_own _ _ (fun _ => .bool false)) _) (ownFrom_below (Nat.le_refl _) (by omega)))
    (fun _ _ _ _ hs _ _ => hs.elim)
    ⟨hb3, HB3.out⟩ _ (fun l x W K hK => wpIn_skip hK) ?body ?done ?stop
  case body =>
    rintro l pre x W _ h
    exact h.elim
  case stop =>
    rintro D W hD h hK
    exact h.elim
  case done =>
    rintro D xs W hD hxs ⟨hb, hB⟩ hK
    have hWl := hB.size
    clear hxs hb3 hx3
    gi_wp2_with (first | (refine ⟨trivial, ?_⟩; gi_at_call 17; refine (callsIn_wide.2 (jappend_none _ _)).mono ?_; rintro e w4 ⟨rfl, rfl⟩) | (refine ⟨trivial, ?_⟩; gi_at_call 20; refine (callsIn_wide.2 (len_none _)).mono ?_; rintro e w5 ⟨rfl, rfl⟩) | (refine ⟨trivial, ?_⟩; gi_at_call 13; refine (callsIn_wide.2 (size_none _)).mono ?_; rintro e w6 ⟨rfl, rfl⟩))
    refine ⟨trivial, ?_⟩
    refine (callsIn_wide.2 (new_calls w6)).mono ?_
    rintro e w7 ⟨rfl, hD7, hc7⟩
    have HD7 := Lib.hid hD7
    have HC7 := Lib.hid hc7
    have hdw : w6.heap.size ≤ w6.heap.size + 1 := by omega
    clear hD7 hc7
    generalize w6.heap.size + 1 = d at *
    gi_wp2_with (fail)
    refine ⟨trivial, ?_⟩
    refine (callsIn_wide.2 (fresh_open w7 w6.heap.size d w6.heap.size 0 k HD7.out hdw (Nat.le_refl _) (by omega) HC7.out.size)).mono ?_
    rintro e w8 ⟨j, S, rfl, hJ, hc8, hj⟩
    have HJ := Lib.hid hJ
    have HC8 : Hid (Chg No w6 w8) := HC7.out.newer hc8 (fun i hi => by rcases hi with rfl | rfl; exact hdw; exact Nat.le_refl _)
    clear hJ hc8
    have HLEN : Hid (Calls Try.prog 20 #[.pointer (some ⟨j, 0, none⟩)] w8 fun e w' => e = .returned (.int .i64 0) ∧ w' = w8) := jlen_calls w8 _ _ j _ _ _ _ _ _ HJ.out
    have HWR : Hid (Calls Try.prog 21 #[.pointer (some ⟨d, 0, none⟩)] w8 fun e w' => e = .returned (.int .i64 0) ∧ Chg No w8 w') := by
      obtain ⟨A, n, c, AP, np, cp, AF, nf, cf, g1, g2, _⟩ := HJ.out
      exact writes_calls w8 d _ 0 _ g2
    gi_wp2_with (first | (refine ⟨trivial, ?_⟩; gi_at_call 20; refine (callsIn_wide.2 HLEN.out).mono ?_; rintro e w9 ⟨rfl, rfl⟩) | (refine ⟨trivial, ?_⟩; gi_at_call 21; refine (callsIn_wide.2 HWR.out).mono ?_; rintro e w10 ⟨rfl, hc10⟩) | (refine ⟨trivial, ?_⟩; gi_at_call 8; refine (callsIn_wide.2 (wakes_calls _)).mono ?_; rintro e w11 ⟨rfl, hc11⟩; have hb5 : Boxed w11 w.heap.size 4 (.bool false) := hc11.heap (hc10.heap (HC8.out.heap hb (fun x => x)) (fun x => x)) (fun x => x); have c5 := hb5.cell; have f5 := hb5.frozen))
    have hcw : Chg No w6 w11 := (HC8.out.no hc10).no hc11
    have hK1 : w11.heap[D]? = some (.deferred (some [])) := hcw.heap hK (fun x => x)
    have hK' := (KeepsOthers.setCell w11 ⟨w.heap.size, 0, none⟩ (.bool true)).same D _ hK1 rfl
    have hb6 := hb5.set (.bool true)
    have hc7 := cell_kept hb6.cell (grownBy_putObj' _ D (.deferred none)) (fun r e => by cases e; exact ⟨_, hK', rfl⟩)
    refine ⟨by simp, .inl ⟨_, _, rfl, run_takeDeferred hK', ?_⟩⟩
    refine ⟨.bool true, ?_, rfl, ((hB.trans ((Chg.below hcw).mono hWl)).setCell (p := ⟨w.heap.size, 0, none⟩) (Nat.le_refl _) _).trans (belowK_b (w := w) (Nat.le_refl _) _ D _ _ (by omega) hK' rfl rfl)⟩
    simp [results, Try.f5, go_sem, hc7]

theorem journalNone_walk (w : World) (k : ByteArray) (hk : k.size ≤ 140737488351232) (x : Int) (hx : (Lit.int .i64 x).wf = true) :
    Calls Try.prog 5 #[.string k, .int .i64 x] w fun e w' => e = .returned (.bool true) ∧ Below w.heap.size w w' :=
  callsIn_wide.1 (journalNone_core 3 (Nat.le_refl _) w k x)
end Go.Proofs.Ytbbfjnfmfigcfaa
