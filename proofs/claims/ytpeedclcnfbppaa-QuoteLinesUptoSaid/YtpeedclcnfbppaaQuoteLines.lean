/-
  The walk of QuoteLines.
-/
import Derived.Test.YtpeedclcnfbppaaQuoteParts
import Derived.Test.YtpeedclcnfbppaaL3
namespace Go.Proofs.Ytpeedclcnfbppaa
open Go.RowKit Go.Shelf
set_option linter.unusedVariables false
set_option linter.unusedSimpArgs false
set_option maxRecDepth 100000

attribute [local go_sem] Oper.semAt_some

theorem idx_get : ∀ (ls : List (List UInt8)) (k : Nat) (x : Nat × List UInt8), x ∈ idx k ls → ∃ h : x.1 - k < ls.length, k ≤ x.1 ∧ x.2 = ls[x.1 - k]
  | [], _, _, h => by cases h
  | y :: r, k, x, h => by
    rcases List.mem_cons.1 h with rfl | h
    · exact ⟨by simp, Nat.le_refl _, by simp⟩
    · obtain ⟨h1, h2, h3⟩ := idx_get r (k + 1) x h
      refine ⟨by simp only [List.length_cons]; omega, by omega, ?_⟩
      rw [h3]
      have e : x.1 - k = (x.1 - (k + 1)) + 1 := by omega
      simp only [e, List.getElem_cons_succ]
theorem idx_getElem : ∀ (ls : List (List UInt8)) (k i : Nat) (h : i < (idx k ls).length), ((idx k ls)[i]).1 = k + i
  | [], _, _, h => by simp [idx] at h
  | y :: r, k, 0, h => rfl
  | y :: r, k, i + 1, h => by
    have := idx_getElem r (k + 1) i (by simpa [idx] using h)
    simp only [idx, List.getElem_cons_succ]
    omega
/-- What two lists of lines bear at one place. -/
theorem pre_next {ls : List (List UInt8)} {pre : List (Nat × List UInt8)} {x : Nat × List UInt8} (hx : x ∈ idx 0 ls) (hp : pre <+: idx 0 ls) : (x.1 = pre.length → pre ++ [x] <+: idx 0 ls) ∧ (x.1 ≠ pre.length → ¬ (pre ++ [x] <+: idx 0 ls)) := by
  obtain ⟨h1, h2, h3⟩ := idx_get ls 0 x hx
  constructor
  · intro he
    obtain ⟨t, ht⟩ := hp
    have hl : pre.length < (idx 0 ls).length := by rw [idx_len]; omega
    have hlt : t ≠ [] := by
      rintro rfl
      rw [List.append_nil] at ht
      rw [ht] at hl
      omega
    obtain ⟨y, t', rfl⟩ := List.exists_cons_of_ne_nil hlt
    have hy : (idx 0 ls)[pre.length]'hl = y := by simp [← ht]
    have hy1 : y.1 = pre.length := by rw [← hy, idx_getElem]; omega
    have hym : y ∈ idx 0 ls := by rw [← ht]; simp
    obtain ⟨g1, g2, g3⟩ := idx_get ls 0 y hym
    have : x = y := by
      apply Prod.ext
      · omega
      · rw [h3, g3]
        have e : x.1 - 0 = y.1 - 0 := by omega
        simp only [e]
    rw [this]
    exact ⟨t', by rw [← ht]; simp⟩
  · intro hne hpx
    apply hne
    have hl : pre.length < (idx 0 ls).length := by have := hpx.length_le; simp at this; omega
    have h4 := hpx.getElem (i := pre.length) (by simp)
    rw [List.getElem_append_right (Nat.le_refl _)] at h4
    simp only [Nat.sub_self, List.getElem_cons_zero] at h4
    rw [h4, idx_getElem]; omega

/-- What all that lies behind the deferred calls' blocks is left to. -/
theorem leaves_all {F : Fence} {n : Nat} {P : Program} {fn : Func} {tmps : Array Value} {R : Ending → World → Prop} (Bx : Nat) (t : TypeId) (v : Value) (n₀ : Nat) (w : World) (hn : n₀ ≤ w.heap.size)
    (hR : ∀ W, Boxed W Bx t v → Below n₀ w W → LeavesInM F n P fn tmps R [] .returning W) :
    ∀ (L : List Nat) (W : World), L.Nodup → (∀ D ∈ L, n₀ ≤ D ∧ W.heap[D]? = some (.deferred (some []))) → Boxed W Bx t v → Below n₀ w W → LeavesInM F n P fn tmps R (L.map (fun D => ({ target := .collected D, args := #[] } : Deferred))) .returning W
  | [], W, _, _, hb, hB => hR W hb hB
  | D :: L, W, hnd, hD, hb, hB => by
    have h0 := hD D (by simp)
    have hne := (List.nodup_cons.1 hnd).1
    refine ⟨by simp, .inl ⟨_, _, rfl, run_takeDeferred h0.2, ?_⟩⟩
    refine leaves_all Bx t v n₀ w hn hR L _ (List.nodup_cons.1 hnd).2 (fun D' hD' => ?_) ?_ ?_
    · obtain ⟨g1, g2⟩ := hD D' (by simp [hD'])
      refine ⟨g1, ?_⟩
      have hlt : D' < W.heap.size := (Array.getElem?_eq_some_iff.1 g2).1
      exact ((grownBy_putObj' W D (.deferred none)).block D' hlt (fun e => by cases e; exact hne hD')).trans g2
    · exact hb.kept (grownBy_putObj' W D (.deferred none)) (fun e => by have e' : Bx = D := Option.some.inj e; rw [← e', show W.heap[Bx]? = _ from hb] at h0; cases h0.2)
    · exact hB.grown (grownBy_putObj' W D (.deferred none)) (Nat.le_trans hn hB.size) (fun k e => by cases e; exact h0.1)

/-- The state between two rounds. -/
def lnI (w : World) (s : ByteArray) (most : Int) (B3 B4 B5 B6 nn c : Nat) (A : Option Addr) (a : Act) (W : World) : Prop := ∃ (i : Nat) (L : List Nat) (u : Nat → Value), i ≤ 2 ∧ a = { tmps := #[.string s, .int .i64 most, u 2, .pointer (some ⟨B3, 0, none⟩), .pointer (some ⟨B4, 0, none⟩), .pointer (some ⟨B5, 0, none⟩), .func (.func 34) #[] #[.pointer (some ⟨B6, 0, none⟩)], u 7, u 8, u 9, u 10, u 11, u 12, u 13, u 14, u 15, u 16, u 17, u 18, u 19, u 20, u 21, .int .i64 (i : Int), u 23, u 24, u 25, u 26, u 27, u 28, u 29, u 30, u 31, u 32, u 33, u 34, u 35, u 36, u 37, u 38, u 39, u 40, u 41, u 42, u 43, u 44, u 45, u 46, u 47, u 48, u 49, u 50, u 51, u 52, u 53, u 54, u 55, u 56, u 57, u 58, u 59, u 60, u 61, u 62, u 63, u 64, u 65, u 66], defers := L.map (fun D => ({ target := .collected D, args := #[] } : Deferred)) } ∧ L.Nodup ∧ Boxed W B3 3 (.int .i64 most) ∧ Boxed W B4 4 (.bool false) ∧ Boxed W B5 23 (.slice A nn c) ∧ W.ownsRow w.heap.size 9 1 (.slice A nn c) nn (strs (linesF s.data.toList)) ∧ Boxed W B6 9 (.string s) ∧ (∀ D ∈ L, w.heap.size ≤ D ∧ W.heap[D]? = some (.deferred (some []))) ∧ Below w.heap.size w W
theorem lnI_intro {w : World} {s : ByteArray} {most : Int} {B3 B4 B5 B6 nn c : Nat} {A : Option Addr} {W : World} (a : Act) (i : Nat) (L : List Nat) (hi : i ≤ 2) (hN : a.tmps.size = 67) (hd : a.defers = L.map (fun D => ({ target := .collected D, args := #[] } : Deferred)))
    (h0 : a.tmps.getD 0 undef = .string s) (h1 : a.tmps.getD 1 undef = .int .i64 most) (h3 : a.tmps.getD 3 undef = .pointer (some ⟨B3, 0, none⟩)) (h4 : a.tmps.getD 4 undef = .pointer (some ⟨B4, 0, none⟩)) (h5 : a.tmps.getD 5 undef = .pointer (some ⟨B5, 0, none⟩)) (h6 : a.tmps.getD 6 undef = .func (.func 34) #[] #[.pointer (some ⟨B6, 0, none⟩)]) (h22 : a.tmps.getD 22 undef = .int .i64 (i : Int))
    (hnd : L.Nodup) (hf : Boxed W B3 3 (.int .i64 most) ∧ Boxed W B4 4 (.bool false) ∧ Boxed W B5 23 (.slice A nn c) ∧ W.ownsRow w.heap.size 9 1 (.slice A nn c) nn (strs (linesF s.data.toList)) ∧ Boxed W B6 9 (.string s) ∧ (∀ D ∈ L, w.heap.size ≤ D ∧ W.heap[D]? = some (.deferred (some []))) ∧ Below w.heap.size w W) : lnI w s most B3 B4 B5 B6 nn c A a W := by
  refine ⟨i, L, fun i => a.tmps.getD i undef, hi, ?_, hnd, hf⟩
  obtain ⟨T, ds⟩ := a
  simp only at hN hd h0 h1 h3 h4 h5 h6 h22
  subst hd
  have h := act_range { tmps := T, defers := [] } 67 hN rfl
  have hT := congrArg Act.tmps h
  simp only at hT
  rw [← h0, ← h1, ← h3, ← h4, ← h5, ← h6, ← h22]
  exact congrArg (fun t => (⟨t, _⟩ : Act)) hT

theorem own_base {w : World} {base base' size n : Nat} {e : TypeId} {v : Value} {xs : List Value} (h : w.ownsRow base e size v n xs) (hb : base' ≤ base) : w.ownsRow base' e size v n xs := by
  obtain ⟨h1, h2⟩ := h
  refine ⟨h1, h2.imp id ?_⟩
  rintro ⟨g, cap, cur, hv, hg, r⟩
  exact ⟨g, cap, cur, hv, Nat.le_trans hb hg, r⟩
/-- The facts of a round under way: m lines have come. -/
def lnF (w : World) (s : ByteArray) (most : Int) (B3 B4 B5 B6 nn c : Nat) (A : Option Addr) (L : List Nat) (BN m : Nat) (W : World) : Prop :=
  Boxed W BN 3 (.int .i64 (m : Int)) ∧ Boxed W B3 3 (.int .i64 most) ∧ Boxed W B4 4 (.bool false) ∧ Boxed W B5 23 (.slice A nn c) ∧ W.ownsRow w.heap.size 9 1 (.slice A nn c) nn (strs (linesF s.data.toList)) ∧ Boxed W B6 9 (.string s) ∧ (∀ D ∈ L, w.heap.size ≤ D ∧ W.heap[D]? = some (.deferred (some []))) ∧ Below w.heap.size w W
theorem boxed_kept {X Y : World} {row : Option Nat} {B : Nat} {t : TypeId} {v : Value} {B0 : Nat} (h : Boxed X B t v) (hg : X.grownBy Y row) (hr : ∀ r, row = some r → B0 ≤ r ∧ ∃ o : Obj, X.heap[r]? = some o ∧ o.isCells = false) : Boxed Y B t v :=
  h.kept hg (fun e => by obtain ⟨_, o, ho, hc⟩ := hr _ e.symm; rw [show X.heap[B]? = _ from h] at ho; cases ho; cases hc)
theorem lnF_own {β : Type} {k : β → Nat} {w W : World} {s : ByteArray} {most : Int} {B3 B4 B5 B6 nn c : Nat} {A : Option Addr} {L : List Nat} (hW : w.heap.size ≤ W.heap.size) (hDs : ∀ D ∈ L, D < W.heap.size) {o : Obj} :
    OwnFrom (W.alloc o).heap.size (fun (p : β) W' => lnF w s most B3 B4 B5 B6 nn c A L W.heap.size (k p) W') := by
  rintro p X Y row ⟨h0, h3, h4, h5, hrow, h6, hL, hB⟩ hg hr
  refine ⟨boxed_kept h0 hg hr, boxed_kept h3 hg hr, boxed_kept h4 hg hr, boxed_kept h5 hg hr, ?_, boxed_kept h6 hg hr, fun D hD => ⟨(hL D hD).1, ?_⟩, ?_⟩
  · refine hrow.kept hg ?_
    rcases hrow.2 with ⟨h, _⟩ | ⟨g, cap, cur, h, _, hgb, _⟩
    · exact .inl (by rw [h]; rfl)
    · refine .inr fun e' => ?_
      obtain ⟨_, o, ho, hc⟩ := hr g (by rw [h] at e'; simpa [Value.ownBlock] using e'.symm)
      rw [hgb] at ho; cases ho; cases hc
  · refine (hg.block D (Array.getElem?_eq_some_iff.1 (hL D hD).2).1 (fun e => ?_)).trans (hL D hD).2
    have := (hr D e.symm).1
    have := hDs D hD
    simp at *
    omega
  · exact hB.grown hg hB.size (fun k e => by have := (hr k e).1; simp at this; omega)

theorem eql_func (W : World) (f : Fn) (a b : Array Value) : Sem.run Try.prog (binOp BinOp.eql 40 (.func f a b) .nilFunc) W = .ok (.bool false) W := by
  first | rfl | (simp [binOp, go_sem]; done)

set_option maxHeartbeats 3200000 in
theorem quoteLines_core (n : Nat) (hn : 3 ≤ n) (w : World) (s : ByteArray) (hs : s.size ≤ 1048576) (most : Int) (hmost : -9223372036854775808 ≤ most ∧ most ≤ 9223372036854775807) :
    CallsIn Fence.wide n Try.prog 7 #[.string s, .int .i64 most] w fun e W' => e = .returned (.bool true) ∧ Below w.heap.size w W' := by
  have h1 : 1 ≤ n := by omega
  have hef := eql_func
  have hcount := lines_count _ s.data.toList (Nat.le_refl _)
  rw [size_list] at hcount
  refine callsIn_of_wp_marks Try.func7 rfl trivial ?_ rfl
  simp only [Try.ntmps7, List.size_toArray, List.length_cons, List.length_nil, Nat.reduceAdd, Nat.reduceSub, Array.replicate_succ, Array.replicate_zero, List.push_toArray, List.append_toArray, List.nil_append, List.cons_append]
  gi_wp2_with (refine ⟨trivial, ?_⟩; (first | (gi_at_call 9; refine Hid.out ?_) | (gi_at_call 21; refine Hid.out ?_) | (gi_at_call 22; refine (callsIn_wide.2 (lines_calls _ _)).mono ?_; rintro e w2 ⟨rfl, rfl⟩)))
  refine Lib.hid ?_
  refine (callsIn_wide.2 (wakes_calls _)).mono ?_
  rintro e w1 ⟨rfl, hc1⟩
  gi_wp2_with (refine ⟨trivial, ?_⟩; (first | (gi_at_call 21; refine Hid.out ?_)))
  refine Lib.hid ?_
  refine (callsIn_wide.2 (rlines_calls _ s hs)).mono ?_
  rintro e w2 ⟨⟨A, nn, c, rfl, hl, ho⟩, hc2⟩
  gi_wp2_with (refine ⟨trivial, ?_⟩; (first | (gi_at_call 9; refine Hid.out ?_) | (gi_at_call 22; refine (callsIn_wide.2 (lines_calls _ _)).mono ?_; rintro e w3 ⟨rfl, rfl⟩)))
  refine Lib.hid ?_
  refine (callsIn_wide.2 (wakes_calls _)).mono ?_
  rintro e w4 ⟨rfl, hc4⟩
  have hb3 : Boxed w4 w.heap.size 3 (.int .i64 most) := hc4.heap (((show Boxed w2 w.heap.size 3 (.int .i64 most) from hc2.heap (show Boxed w1 w.heap.size 3 (.int .i64 most) from hc1.heap ((Boxed.new w 3 (.int .i64 most)).alloc _) (fun x => x)) (fun x => x)).alloc _).alloc _) (fun x => x)
  have hb4 : Boxed w4 (w.heap.size + 1) 4 (.bool false) := by
    have h0 := Boxed.new (w.alloc (.cells #[.int .i64 most] 3)) 4 (.bool false)
    rw [World.size_alloc] at h0
    exact hc4.heap (((show Boxed w2 _ 4 (.bool false) from hc2.heap (show Boxed w1 _ 4 (.bool false) from hc1.heap h0 (fun x => x)) (fun x => x)).alloc _).alloc _) (fun x => x)
  have hb5 : Boxed w4 w2.heap.size 23 (.slice A nn c) := hc4.heap ((Boxed.new w2 23 (.slice A nn c)).alloc _) (fun x => x)
  have hb6 : Boxed w4 (w2.heap.size + 1) 9 (.string s) := by
    have h0 := Boxed.new (w2.alloc (.cells #[.slice A nn c] 23)) 9 (.string s)
    rw [World.size_alloc] at h0
    exact hc4.heap h0 (fun x => x)
  have hz1 : w.heap.size + 2 ≤ w1.heap.size := by have := hc1.size; simpa using this
  have hz2 := hc2.size
  have hrow4 : w4.ownsRow w.heap.size 9 1 (.slice A nn c) nn (strs (linesF s.data.toList)) := own_base (own_chg ((World.ownsRow.alloc ho _).alloc _) hc4 (fun _ _ x => x)) (by omega)
  have hB4 : Below w.heap.size w w4 := by
    have h1 : Below w.heap.size w ((w.alloc (.cells #[.int .i64 most] 3)).alloc (.cells #[.bool false] 4)) := ((Below.refl _ w).alloc (Nat.le_refl _) _).alloc (by simp) _
    have h2 := h1.trans ((Chg.below hc1).mono (by simp; omega))
    have h3 := h2.trans ((Chg.below hc2).mono (by omega))
    exact (((h3.alloc (by omega) _).alloc (by simp; omega) _)).trans ((Chg.below hc4).mono (by simp; omega))
  have hz4 : w2.heap.size + 2 ≤ w4.heap.size := by have := hc4.size; simpa using this
  clear hc1 hc2 hc4 ho
  gi_wp2
  refine wpIn_loop (lnI w s most w.heap.size (w.heap.size + 1) w2.heap.size (w2.heap.size + 1) nn c A) (fun a _ => 2 - (intOf (a.tmps.getD 22 undef)).toNat) (lnI_intro _ 0 [] (by omega) rfl rfl rfl rfl rfl rfl rfl rfl rfl List.nodup_nil ⟨hb3, hb4, hb5, hrow4, hb6, by simp, hB4⟩) ?_
  obtain ⟨B5, hB5⟩ : ∃ b, w2.heap.size = b := ⟨_, rfl⟩
  have HLL := Lib.hid hl
  rw [hB5] at hz2 hz4 ⊢
  clear hb3 hb4 hb5 hrow4 hb6 hB4 hB5 hl
  rintro a W ⟨i, L, u, hi, rfl, hnd, h3, h4, h5, hrow, h6, hL, hB⟩
  by_cases hi2 : i < 2
  · have i1 : (i : Int) < 2 := by omega
    have hW := hB.size
    have hDs : ∀ D ∈ L, D < W.heap.size := fun D hD => (Array.getElem?_eq_some_iff.1 (hL D hD).2).1
    gi_wp2
    have hL1 : ∀ D ∈ L, w.heap.size ≤ D ∧ (W.alloc (.cells #[.int .i64 0] 3)).heap[D]? = some (.deferred (some [])) := fun D hD => ⟨(hL D hD).1, (Below.heap_alloc _ _ _ (hDs D hD)).trans (hL D hD).2⟩
    refine wpIn_rangeFunc_ownF rfl h1 (gf := 34) (lb := #[.pointer (some ⟨B5 + 1, 0, none⟩)]) rfl trivial (enters_of Try.func34 (by kernel_rfl) rfl)
      (lines_stops (α := LN s) (·.1) (idx 0 (linesF s.data.toList)).attach (n - 1) (by omega) (B5 + 1) s (by omega) (Below w.heap.size) _ (h6.alloc _).cell (h6.alloc _).lt (List.attach_map_subtype_val _)) belowK_t (belowK_b (by simp; omega)) (Below.refl _ _) (fun _ => rfl)
      (fun pre W' => lnF w s most w.heap.size (w.heap.size + 1) B5 (B5 + 1) nn c A L W.heap.size pre.length W' ∧ (pre.map (·.1) <+: idx 0 (linesF s.data.toList) ∧ (0 < most → (pre.length : Int) ≤ most)))
      (fun c' pre W' => (c' = .exit 2 ∧ ∃ m : Nat, 0 < m ∧ most = (m : Int) ∧ lnF w s most w.heap.size (w.heap.size + 1) B5 (B5 + 1) nn c A L W.heap.size m W') ∨ (c' = .ret ∧ ¬ (pre.map (·.1) <+: idx 0 (linesF s.data.toList))))
      (OwnFrom.and (lnF_own hW hDs) (ownFrom_pure _ _))
      (fun c' => ?own2)
      ⟨⟨Boxed.new _ _ _, h3.alloc _, h4.alloc _, h5.alloc _, World.ownsRow.alloc hrow _, h6.alloc _, hL1, hB.alloc hW _⟩, by simp, by intro h; simp; omega⟩
      (fun x => { tmps := #[.string s, .int .i64 most, u 2, .pointer (some ⟨w.heap.size, 0, none⟩), .pointer (some ⟨w.heap.size + 1, 0, none⟩), .pointer (some ⟨B5, 0, none⟩), .func (.func 34) #[] #[.pointer (some ⟨B5 + 1, 0, none⟩)], .pointer (some ⟨W.heap.size, 0, none⟩), .int .i64 (x.1.1 : Int), .string (mkS x.1.2), u 10, u 11, u 12, u 13, u 14, u 15, u 16, u 17, u 18, u 19, u 20, u 21, .int .i64 (i : Int), .bool true, .func (.func 34) #[] #[.pointer (some ⟨B5 + 1, 0, none⟩)], .int .i64 (x.1.1 : Int), .string (mkS x.1.2), u 27, u 28, u 29, u 30, u 31, u 32, u 33, u 34, u 35, u 36, u 37, u 38, u 39, u 40, u 41, u 42, u 43, u 44, u 45, u 46, u 47, u 48, u 49, u 50, u 51, u 52, u 53, u 54, u 55, u 56, u 57, u 58, u 59, u 60, u 61, u 62, u 63, u 64, u 65, u 66], defers := [] }) ?assign ?body ?done ?stop
    case own2 =>
      intro pre X Y row hs hg hr
      rcases hs with ⟨hc, m, hm, he, hf⟩ | h
      · exact .inl ⟨hc, m, hm, he, lnF_own (β := Unit) (k := fun _ => m) hW hDs () X Y row hf hg hr⟩
      · exact .inr h
    case assign =>
      intro l x W K hK
      gi_wp2
      exact hK
    case body =>
      rintro l pre x W2 ⟨⟨b0, b3, b4, b5, brow, b6, bL, bB⟩, hpre, hle⟩ hlen
      have hWB : W.heap.size ≠ w.heap.size ∧ W.heap.size ≠ w.heap.size + 1 ∧ W.heap.size ≠ B5 ∧ W.heap.size ≠ B5 + 1 := by have l3 := h3.lt; have l4 := h4.lt; have l5 := h5.lt; have l6 := h6.lt; omega
      have c0 := b0.cell
      have f0 := b0.frozen
      have c3 := b3.cell
      have c4 := b4.cell
      have f4 := b4.frozen
      have c5 := b5.cell
      obtain ⟨hx0, hx1⟩ := pre_next x.2 hpre
      rw [List.length_map] at hx0 hx1
      obtain ⟨g1, g2, g3⟩ := idx_get _ _ _ x.2
      obtain ⟨⟨kx, lx⟩, hxm⟩ := x
      simp only [Nat.sub_zero] at g1 g2 g3 hx0 hx1
      obtain ⟨m, hm⟩ : ∃ m, pre.length = m := ⟨_, rfl⟩
      rw [hm] at hx0 hx1 hlen hle b0 c0
      by_cases hbk : 0 < most ∧ most ≤ (m : Int)
      · have k1 : most ≤ (m : Int) := hbk.2
        have k2 : 0 < most := hbk.1
        have hme : most = (m : Int) := by have := hle hbk.1; omega
        clear hx0 hx1 hle hpre g3
        gi_wp2
        exact ⟨KeepsOthers.refl _, .inl ⟨rfl, m, by omega, hme, b0, b3, b4, b5, brow, b6, bL, bB⟩⟩
      · have hcase : (0 < most ∧ ¬ (most ≤ (m : Int))) ∨ (¬ (0 < most) ∧ most ≤ (m : Int)) := by omega
        have HLE := Lib.hid hle
        clear hle
        by_cases hkm : kx = m
        · subst hkm
          have hpn := hx0 rfl
          have hkn : kx < nn := by rw [← HLL.out]; exact g1
          have i2 : ¬ ((nn : Int) ≤ (kx : Int)) := by omega
          obtain ⟨bq, oq, hA, hcq⟩ := hold_addr (Holds.ofOwn brow) HLL.out (by omega)
          have hcm := hcq kx g1
          rw [← g3] at hcm
          subst hA
          clear hcq g3 hx0 hx1 hpre hbk
          have hb : ((mkS lx).toList == (mkS lx).toList) = true := by simp
          have hnx : kx + 1 ≤ 9223372036854775807 := by omega
          rcases hcase with ⟨k1, k2⟩ | ⟨k1, k2⟩
          · gi_wp2
            refine ⟨KeepsOthers.setCell _ _ _, (Below.refl w.heap.size W2).setCell (p := ⟨W.heap.size, 0, none⟩) hW _, ⟨?_, b3.other (fun e => hWB.1 e.symm) _, b4.other (fun e => hWB.2.1 e.symm) _, b5.other (fun e => hWB.2.2.1 e.symm) _, brow.kept (grownBy_setCell' W2 W.heap.size _) (.inr (b0.not_row (by decide) brow).symm), b6.other (fun e => hWB.2.2.2 e.symm) _, fun D hD => ⟨(bL D hD).1, (KeepsOthers.setCell W2 ⟨W.heap.size, 0, none⟩ _).same D _ (bL D hD).2 rfl⟩, bB.setCell (p := ⟨W.heap.size, 0, none⟩) hW _⟩, by rw [List.map_append]; exact hpn, by first | (intro h; rw [List.length_append, hm]; simp only [List.length_cons, List.length_nil]; omega) | (rw [List.length_append, hm]; simp only [List.length_cons, List.length_nil]; omega)⟩
            have h0 := b0.set (.int .i64 ((kx : Int) + 1))
            rw [List.length_append, hm]
            exact h0
          · gi_wp2
            refine ⟨KeepsOthers.setCell _ _ _, (Below.refl w.heap.size W2).setCell (p := ⟨W.heap.size, 0, none⟩) hW _, ⟨?_, b3.other (fun e => hWB.1 e.symm) _, b4.other (fun e => hWB.2.1 e.symm) _, b5.other (fun e => hWB.2.2.1 e.symm) _, brow.kept (grownBy_setCell' W2 W.heap.size _) (.inr (b0.not_row (by decide) brow).symm), b6.other (fun e => hWB.2.2.2 e.symm) _, fun D hD => ⟨(bL D hD).1, (KeepsOthers.setCell W2 ⟨W.heap.size, 0, none⟩ _).same D _ (bL D hD).2 rfl⟩, bB.setCell (p := ⟨W.heap.size, 0, none⟩) hW _⟩, by rw [List.map_append]; exact hpn, by first | (intro h; rw [List.length_append, hm]; simp only [List.length_cons, List.length_nil]; omega) | (rw [List.length_append, hm]; simp only [List.length_cons, List.length_nil]; omega)⟩
            have h0 := b0.set (.int .i64 ((kx : Int) + 1))
            rw [List.length_append, hm]
            exact h0
        · have hne : ((kx : Int) != (m : Int)) = true := by rw [bne_iff_ne]; omega
          have hbad := hx1 hkm
          clear hx0 hx1 hkm g3 hpre hbk
          rcases hcase with ⟨k1, k2⟩ | ⟨k1, k2⟩
          · gi_wp2
            exact ⟨KeepsOthers.setCell _ _ _, .inr ⟨rfl, by rw [List.map_append]; exact hbad⟩⟩
          · gi_wp2
            exact ⟨KeepsOthers.setCell _ _ _, .inr ⟨rfl, by rw [List.map_append]; exact hbad⟩⟩
    case done =>
      rintro D xs W3 hD rfl ⟨⟨b0, b3, b4, b5, brow, b6, bL, bB⟩, hpre, hle⟩ hK
      rw [List.length_attach, idx_len, HLL.out] at b0
      clear hpre hle
      have c0 := b0.cell
      have c3 := b3.cell
      have c5 := b5.cell
      gi_wp2
      have hL2 : ∀ D' ∈ D :: L, w.heap.size ≤ D' ∧ W3.heap[D']? = some (.deferred (some [])) := by
        intro D' h
        rcases List.mem_cons.1 h with rfl | h
        · exact ⟨by simp at hD; omega, hK⟩
        · exact bL D' h
      refine ⟨lnI_intro _ (i + 1) (D :: L) (by omega) rfl rfl rfl rfl rfl rfl rfl rfl (congrArg (Value.int .i64) (by omega)) (List.nodup_cons.2 ⟨fun h => by have := hDs D h; simp at hD; omega, hnd⟩) ⟨b3, b4, b5, brow, b6, hL2, bB⟩, ?_⟩
      show 2 - ((i : Int) + 1).toNat < 2 - (i : Int).toNat
      omega
    case stop =>
      rintro D cc pre W3 hD hpre hIx hK
      rcases hIx with ⟨rfl, m, hm0, hme, b0, b3, b4, b5, brow, b6, bL, bB⟩ | ⟨rfl, hbad⟩
      · have c0 := b0.cell
        have c3 := b3.cell
        have c5 := b5.cell
        have k1 : ¬ (most ≤ 0) := by omega
        by_cases hmn : m = nn
        · subst hmn
          clear hme
          gi_wp2
          have hL2 : ∀ D' ∈ D :: L, w.heap.size ≤ D' ∧ W3.heap[D']? = some (.deferred (some [])) := by
            intro D' h
            rcases List.mem_cons.1 h with rfl | h
            · exact ⟨by simp at hD; omega, hK⟩
            · exact bL D' h
          refine ⟨lnI_intro _ (i + 1) (D :: L) (by omega) rfl rfl rfl rfl rfl rfl rfl rfl (congrArg (Value.int .i64) (by omega)) (List.nodup_cons.2 ⟨fun h => by have := hDs D h; simp at hD; omega, hnd⟩) ⟨b3, b4, b5, brow, b6, hL2, bB⟩, ?_⟩
          show 2 - ((i : Int) + 1).toNat < 2 - (i : Int).toNat
          omega
        · have k2 : ((m : Int) != (nn : Int)) = true := by rw [bne_iff_ne]; omega
          have k3 : ((m : Int) != most) = false := by rw [hme]; simp
          clear hmn hme
          gi_wp2
          have hL2 : ∀ D' ∈ D :: L, w.heap.size ≤ D' ∧ W3.heap[D']? = some (.deferred (some [])) := by
            intro D' h
            rcases List.mem_cons.1 h with rfl | h
            · exact ⟨by simp at hD; omega, hK⟩
            · exact bL D' h
          refine ⟨lnI_intro _ (i + 1) (D :: L) (by omega) rfl rfl rfl rfl rfl rfl rfl rfl (congrArg (Value.int .i64) (by omega)) (List.nodup_cons.2 ⟨fun h => by have := hDs D h; simp at hD; omega, hnd⟩) ⟨b3, b4, b5, brow, b6, hL2, bB⟩, ?_⟩
          show 2 - ((i : Int) + 1).toNat < 2 - (i : Int).toNat
          omega
      · exfalso
        apply hbad
        have h := hpre.map (fun x : LN s => x.1)
        rwa [List.attach_map_subtype_val] at h
  · have hi3 : i = 2 := by omega
    subst hi3
    have c4 := h4.cell
    have f4 := h4.frozen
    gi_wp2
    exact leaves_all (w.heap.size + 1) 4 (.bool true) w.heap.size w (Nat.le_refl _) (fun W' hb' hB' => ⟨.bool true, by simp [results, Try.f7, go_sem, hb'.cell], rfl, hB'⟩) L _ hnd (fun D hD => ⟨(hL D hD).1, (KeepsOthers.setCell W ⟨w.heap.size + 1, 0, none⟩ (.bool true)).same D _ (hL D hD).2 rfl⟩) (h4.set _) (hB.setCell (p := ⟨w.heap.size + 1, 0, none⟩) (by show w.heap.size ≤ w.heap.size + 1; omega) _)
theorem quoteLines_walk (w : World) (s : ByteArray) (hs : s.size ≤ 1048576) (a1 : Int) (w1 : (Lit.int .i64 a1).wf = true) :
    Calls Try.prog 7 #[.string s, .int .i64 a1] w fun e w' => e = .returned (.bool true) ∧ Below w.heap.size w w' := by
  have hb : -9223372036854775808 ≤ a1 ∧ a1 ≤ 9223372036854775807 := by simpa [Lit.wf, IntKind.min, IntKind.max, IntKind.signed, IntKind.bits] using w1
  exact callsIn_wide.1 (quoteLines_core 3 (Nat.le_refl _) w s hs a1 hb)
end Go.Proofs.Ytpeedclcnfbppaa
