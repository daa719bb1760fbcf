/-
  Names: the iterator of Names.
-/
import Derived.Test.YtkjbbidnpnecjaaDoorNm14
import Derived.RangeFuncFrom
import Derived.RangeFuncNested
import Derived.RangeFuncBound
import Derived.RangeFuncCalls
import Derived.RangeFuncLeaves
import Derived.RangeFuncBox
import Derived.Shelf.Abstract
import Derived.Shelf.RegionOpen
import Derived.WalkKit
import Derived.OwnWalkIn
import Derived.TacticsInMore
import Derived.LoopNIn
import Derived.LoopIn
namespace Go.Proofs.YtkjbbidnpnecjaaDoor
open Go.RowKit Go.Shelf
set_option linter.unusedVariables false
set_option linter.unusedSimpArgs false
set_option maxRecDepth 100000

attribute [local go_sem] Oper.semAt_some

abbrev lencs (x : Nat × List UInt8) : Array Value := #[.int .i64 (x.1 : Int), .string (mkS x.2)]
/-- Lines with their numbers. -/
def idx (k : Nat) : List (List UInt8) → List (Nat × List UInt8)
  | [] => []
  | x :: r => (k, x) :: idx (k + 1) r
theorem idx_len : ∀ (r : List (List UInt8)) (k : Nat), (idx k r).length = r.length
  | [], _ => rfl
  | x :: r, k => by simp [idx, idx_len r (k + 1)]

theorem idx_get : ∀ (ls : List (List UInt8)) (k : Nat) (x : Nat × List UInt8), x ∈ idx k ls → ∃ h : x.1 - k < ls.length, k ≤ x.1 ∧ x.2 = ls[x.1 - k]
  | [], _, _, h => by cases h
  | y :: r, k, x, h => by
    rcases List.mem_cons.1 h with rfl | h
    · exact ⟨by simp, Nat.le_refl _, by simp⟩
    · obtain ⟨h1, h2, h3⟩ := idx_get r (k + 1) x h
      refine ⟨by simp only [List.length_cons]; omega, by omega, ?_⟩
      rw [h3]
      have e : x.1 - k = (x.1 - (k + 1)) + 1 := by omega
      simp only [e, List.getElem_cons_succ]
theorem idx_getElem : ∀ (ls : List (List UInt8)) (k i : Nat) (h : i < (idx k ls).length), ((idx k ls)[i]).1 = k + i
  | [], _, _, h => by simp [idx] at h
  | y :: r, k, 0, h => rfl
  | y :: r, k, i + 1, h => by
    have := idx_getElem r (k + 1) i (by simpa [idx] using h)
    simp only [idx, List.getElem_cons_succ]
    omega
/-- What two lists of lines bear at one place. -/
theorem pre_next {ls : List (List UInt8)} {pre : List (Nat × List UInt8)} {x : Nat × List UInt8} (hx : x ∈ idx 0 ls) (hp : pre <+: idx 0 ls) : (x.1 = pre.length → pre ++ [x] <+: idx 0 ls) ∧ (x.1 ≠ pre.length → ¬ (pre ++ [x] <+: idx 0 ls)) := by
  obtain ⟨h1, h2, h3⟩ := idx_get ls 0 x hx
  constructor
  · intro he
    obtain ⟨t, ht⟩ := hp
    have hl : pre.length < (idx 0 ls).length := by rw [idx_len]; omega
    have hlt : t ≠ [] := by
      rintro rfl
      rw [List.append_nil] at ht
      rw [ht] at hl
      omega
    obtain ⟨y, t', rfl⟩ := List.exists_cons_of_ne_nil hlt
    have hy : (idx 0 ls)[pre.length]'hl = y := by simp [← ht]
    have hy1 : y.1 = pre.length := by rw [← hy, idx_getElem]; omega
    have hym : y ∈ idx 0 ls := by rw [← ht]; simp
    obtain ⟨g1, g2, g3⟩ := idx_get ls 0 y hym
    have : x = y := by
      apply Prod.ext
      · omega
      · rw [h3, g3]
        have e : x.1 - 0 = y.1 - 0 := by omega
        simp only [e]
    rw [this]
    exact ⟨t', by rw [← ht]; simp⟩
  · intro hne hpx
    apply hne
    have hl : pre.length < (idx 0 ls).length := by have := hpx.length_le; simp at this; omega
    have h4 := hpx.getElem (i := pre.length) (by simp)
    rw [List.getElem_append_right (Nat.le_refl _)] at h4
    simp only [Nat.sub_self, List.getElem_cons_zero] at h4
    rw [h4, idx_getElem]; omega

/-- What all that lies behind the deferred calls' blocks is left to. -/
theorem leaves_all {F : Fence} {n : Nat} {P : Program} {fn : Func} {tmps : Array Value} {R : Ending → World → Prop} (Bx : Nat) (t : TypeId) (v : Value) (n₀ : Nat) (w : World) (hn : n₀ ≤ w.heap.size)
    (hR : ∀ W, Boxed W Bx t v → Below n₀ w W → LeavesInM F n P fn tmps R [] .returning W) :
    ∀ (L : List Nat) (W : World), L.Nodup → (∀ D ∈ L, n₀ ≤ D ∧ W.heap[D]? = some (.deferred (some []))) → Boxed W Bx t v → Below n₀ w W → LeavesInM F n P fn tmps R (L.map (fun D => ({ target := .collected D, args := #[] } : Deferred))) .returning W
  | [], W, _, _, hb, hB => hR W hb hB
  | D :: L, W, hnd, hD, hb, hB => by
    have h0 := hD D (by simp)
    have hne := (List.nodup_cons.1 hnd).1
    refine ⟨by simp, .inl ⟨_, _, rfl, run_takeDeferred h0.2, ?_⟩⟩
    refine leaves_all Bx t v n₀ w hn hR L _ (List.nodup_cons.1 hnd).2 (fun D' hD' => ?_) ?_ ?_
    · obtain ⟨g1, g2⟩ := hD D' (by simp [hD'])
      refine ⟨g1, ?_⟩
      have hlt : D' < W.heap.size := (Array.getElem?_eq_some_iff.1 g2).1
      exact ((grownBy_putObj' W D (.deferred none)).block D' hlt (fun e => by cases e; exact hne hD')).trans g2
    · exact hb.kept (grownBy_putObj' W D (.deferred none)) (fun e => by have e' : Bx = D := Option.some.inj e; rw [← e', show W.heap[Bx]? = _ from hb] at h0; cases h0.2)
    · exact hB.grown (grownBy_putObj' W D (.deferred none)) (Nat.le_trans hn hB.size) (fun k e => by cases e; exact h0.1)

section
variable {F : Fence} {nF : Nat} {P : Program} {w : World}
theorem wpListIn_app {ops : Array Oper} {rest : List Oper} {o : Oper} {a : Act} {Q : Exit → Act → World → Prop} (hgd : o.guard = none) (s x : Operand) (t tx : TypeId)
    (ho : o.op = .call { callee := .builtin .append, args := #[s, x], argTypes := #[t, tx] })
    (base : Nat) (e : TypeId) (z : Value) (size bytes : Nat) (hinfo : (P.info? e).map (fun i => (i.zero, i.size, i.bytes)) = some (some z, size, bytes)) (ht : P.underlying t = some (.slice e))
    (hzs : z.cells.size = size) (hsz : 0 < size)
    (v xv : Value) (n m : Nat) (xs news : List Value) (hs : a.eval s = v) (hx : a.eval x = xv)
    (hown : w.ownsRow base e size v n xs) (hsrc : Src P size tx xv m news w)
    (hbytes : (n + m) * bytes ≤ 140737488355328) (h63 : n + m ≤ maxLen) (hbase : base ≤ w.heap.size)
    (h : ∀ v' w', w'.ownsRow base e size v' (n + m) (xs ++ news) → w.grownBy w' v.ownBlock → wpListIn F nF P ops Q rest (a.put o.dst v') w') : wpListIn F nF P ops Q (o :: rest) a w := by
  obtain ⟨i, hi, hz0, hz1, hz2⟩ := info_parts hinfo
  refine wpListIn_plain hgd fun K hK => ?_
  obtain ⟨v', w', hr, h2, h3⟩ := run_append_own_src (P := P) w base t tx o.type e i z size bytes ht hi hz0 hz1 hz2 hzs hsz v n xs hown xv m news hsrc hbytes h63 hbase
  unfold Oper.wpIn
  refine ⟨by simp [Oper.about, ho, resolve, Target.leads, Sem.run_pure], ?_⟩
  rw [Oper.semAt_plain F _ _ (by rw [ho]; intro c hc'; cases hc')]
  simp [execOp, ho, resolve, invoke, builtin, hs, hx, hr, Result.andThen]
  exact hK _ _ (h v' w' h2 h3)
end
theorem boxed_kept {X Y : World} {row : Option Nat} {B : Nat} {t : TypeId} {v : Value} {B0 : Nat} (h : Boxed X B t v) (hg : X.grownBy Y row) (hr : ∀ r, row = some r → B0 ≤ r ∧ ∃ o : Obj, X.heap[r]? = some o ∧ o.isCells = false) : Boxed Y B t v :=
  h.kept hg (fun e => by obtain ⟨_, o, ho, hc⟩ := hr _ e.symm; rw [show X.heap[B]? = _ from h] at ho; cases ho; cases hc)
theorem eql_func (W : World) (f : Fn) (a b : Array Value) : Sem.run Tryd.prog (binOp BinOp.eql 51 (.func f a b) .nilFunc) W = .ok (.bool false) W := by
  first | rfl | (simp [binOp, go_sem]; done)

theorem list_range (l : List Value) (N : Nat) (h : l.length = N) : l = (List.range N).map (fun i => l.getD i undef) := by
  refine List.ext_getElem (by simp [h]) (fun i h1 h2 => ?_)
  rw [List.getElem_map, List.getElem_range, List.getD_eq_getElem?_getD, List.getElem?_eq_getElem h1]; rfl
theorem act_range (a : Act) (N : Nat) (h : a.tmps.size = N) (hd : a.defers = []) : a = { tmps := ((List.range N).map (fun i => a.tmps.getD i undef)).toArray, defers := [] } := by
  rcases a with ⟨⟨l⟩, d⟩
  simp only at hd
  subst hd
  have := list_range l N (by simpa using h)
  have e : ∀ i, (Array.mk l).getD i undef = l.getD i undef := by intro i; simp [Array.getD_eq_getD_getElem?]
  simp only [e]
  exact congrArg (fun x => (⟨⟨x⟩, []⟩ : Act)) this
theorem own_put {w : World} {base n c size : Nat} {e : TypeId} {A : Option Addr} {xs : List Value} (h : w.ownsRow base e size (.slice A n c) n xs) (hp : 0 < n) :
    ∃ g, A = some ⟨g, 0, none⟩ ∧ base ≤ g ∧ g < w.heap.size ∧ ∀ i, i < n * size → (∃ u, w.cell? ⟨g, i, none⟩ = some u ∧ xs[i]? = some u) ∧ w.frozen? ⟨g, i, none⟩ = false ∧ ∀ v, (w.setCell ⟨g, i, none⟩ v).ownsRow base e size (.slice A n c) n (xs.set i v) := by
  obtain ⟨h1, h2⟩ := h
  rcases h2 with ⟨he, h0⟩ | ⟨g, cap, cur, he, hg, hh, hnn, hm, hcs, ht⟩
  · omega
  · simp only [Value.slice.injEq, true_and] at he
    obtain ⟨rfl, rfl⟩ := he
    have hgl := (Array.getElem?_eq_some_iff.1 hh).1
    refine ⟨g, rfl, hg, hgl, fun i hi => ?_⟩
    have hic : i < cur.size := by rw [hcs]; exact Nat.lt_of_lt_of_le hi (Nat.mul_le_mul_right _ hnn)
    refine ⟨⟨cur[i], by simp [World.cell?, hh, hic], ?_⟩, by simp [World.frozen?, hh], fun v => ?_⟩
    · rw [← ht, List.getElem?_take_of_lt hi]
      simp [hic]
    · refine ⟨by rw [List.length_set]; exact h1, .inr ⟨g, c, cur.setIfInBounds i v, rfl, hg, ?_, hnn, hm, by simpa using hcs, ?_⟩⟩
      · unfold World.setCell
        simp [Array.getElem?_modify, hh]
      · rw [Array.toList_setIfInBounds, List.take_set, ht]

theorem Chg.grownNone {w w' : World} (h : Chg No w w') : w.grownBy w' none := ⟨h.os, h.tape, h.output, h.size, fun k hk _ => h.block k hk (fun x => x)⟩
/-- The cells from block n₁ on stay. -/
def KH (n₁ : Nat) (W W' : World) : Prop := ∀ k c t fz, n₁ ≤ k → W.heap[k]? = some (.cells c t fz) → W'.heap[k]? = some (.cells c t fz)
theorem KH.refl (n₁ : Nat) (W : World) : KH n₁ W W := fun _ _ _ _ _ h => h
theorem kh_t {n₁ : Nat} {A B C : World} (h : KH n₁ A B) (k : KH n₁ B C) : KH n₁ A C := fun i c t fz hi hc => k i c t fz hi (h i c t fz hi hc)
theorem kh_b {n₁ : Nat} {w : World} (W : World) (l : Nat) (o o' : Obj) (hl : w.heap.size ≤ l) (h : W.heap[l]? = some o) (hc : o.isCells = false) (hw : o.isWalk = false) : KH n₁ W (W.putObj l o') := fun k c t fz hk hh => by
  have hne : k ≠ l := by rintro rfl; rw [h] at hh; cases hh; cases hc
  exact (World.putObj_heap_other hne).trans hh
theorem kh_set {n₁ B : Nat} (hB : B < n₁) (W : World) (v : Value) : KH n₁ W (W.setCell ⟨B, 0, none⟩ v) := fun k c t fz hk hh => by
  have hlt : k < W.heap.size := (Array.getElem?_eq_some_iff.1 hh).1
  exact ((grownBy_setCell' W B v).block k hlt (fun e => by cases e; omega)).trans hh
theorem OwnS.kh {n₁ base n : Nat} {W W' : World} {v : Value} {l : List (List UInt8)} (h : OwnS W base v n l) (hb : n₁ ≤ base) (hk : KH n₁ W W') : OwnS W' base v n l := by
  obtain ⟨h1, h2⟩ := h
  refine ⟨h1, h2.imp id ?_⟩
  rintro ⟨g, cap, cur, rfl, hg, hh, r⟩
  exact ⟨g, cap, cur, rfl, hg, hk g _ _ _ (by omega) hh, r⟩
theorem OwnS.below {n₁ base n : Nat} {W W' : World} {v : Value} {l : List (List UInt8)} (h : OwnS W base v n l) (hb : W.heap.size ≤ n₁) (hk : Below n₁ W W') : OwnS W' base v n l := by
  obtain ⟨h1, h2⟩ := h
  refine ⟨h1, h2.imp id ?_⟩
  rintro ⟨g, cap, cur, rfl, hg, hh, r⟩
  have hlt : g < W.heap.size := (Array.getElem?_eq_some_iff.1 hh).1
  exact ⟨g, cap, cur, rfl, hg, (hk.block g (by omega)).trans hh, r⟩
theorem Boxed.below {n₁ B : Nat} {t : TypeId} {W W' : World} {v : Value} (h : Boxed W B t v) (hb : W.heap.size ≤ n₁) (hk : Below n₁ W W') : Boxed W' B t v := (hk.block B (by have := h.lt; omega)).trans h

set_option maxHeartbeats 2000000 in
theorem names_stops {α : Type} (g : α → Nat × List UInt8) (X : List α) (n : Nat) (hn : 1 ≤ n) (B : Nat) (p : List UInt8) (hp : p.length ≤ 9223372036854775807) (n₁ : Nat) (w : World) (hn1 : n₁ ≤ w.heap.size) (hb : w.cell? ⟨B, 0, none⟩ = some (.string (mkS p))) (hBw : B < w.heap.size) (hX : X.map g = idx 0 (splitF p)) :
    SeqStopsK Fence.wide n Tryd.prog 50 #[.pointer (some ⟨B, 0, none⟩)] (fun x => lencs (g x)) (KH n₁) (fun xs => xs = X) (fun pre => pre <+: X) X.length w := fun l J Jx W hW hJ hJx hY h0 => by
  have hB : W.cell? ⟨B, 0, none⟩ = some (.string (mkS p)) := (hW.cell (p := ⟨B, 0, none⟩) hBw).trans hb
  have hWs := hW.size
  have CC := Lib.hid (fun w => namesplit_calls w p hp)
  generalize (pathF p).1 = z at *
  generalize splitF p = L at *
  have HX := Lib.hid hX
  have HY := Lib.hid hY
  have HJ := Lib.hid hJ
  clear hX hY hJ
  refine callsIn_of_wp Tryd.func50 rfl trivial ?_ rfl
  simp only [Tryd.ntmps50, List.size_toArray, List.length_cons, List.length_nil, Nat.reduceAdd, Nat.reduceSub, Array.replicate_succ, Array.replicate_zero, List.push_toArray, List.append_toArray, List.nil_append, List.cons_append]
  gi_wp2_with (refine ⟨trivial, ?_⟩; gi_at_call 32; refine (callsIn_wide.2 (CC.out _)).mono ?_; rintro e w1 ⟨A, m, c, rfl, hl, ho, hc⟩)
  have hJ1 := HJ.out _ _ _ none h0 hc.grownNone (fun _ e => by cases e)
  have HO1 := Lib.hid ho
  have HL := Lib.hid hl
  have hm9 : m ≤ 9223372036854775807 := by
    obtain ⟨A', c', he, h2, h3, -⟩ := (ho.sl hl)
    simp only [Value.slice.injEq] at he
    unfold maxLen at h3
    omega
  clear hc ho hl h0 CC
  gi_wp2
  gi_loopw [14] (fun i wr => ∃ (pre post : List α) (k : Nat), k ≤ m ∧ i = .int .i64 (k : Int) ∧ Hid (X = pre ++ post) ∧ Hid (post.map g = idx k (L.drop k)) ∧ J pre wr ∧ Hid (OwnS wr W.heap.size (.slice A m c) m L))
    (fun i _ => m - (intOf i).toNat)
  case atStart => exact ⟨[], X, 0, Nat.zero_le _, rfl, rfl, HX.out, hJ1, HO1.out⟩
  case round =>
    obtain ⟨pre, post, k, hk, rfl, HP, HI, hJs, HO⟩ := hrel
    by_cases hlt : k < m
    · have hki : (k : Int) < (m : Int) := by omega
      obtain ⟨b, o, rfl, hcell⟩ := (HO.out.sl HL.out).addr (by rw [HL.out]; omega)
      have hc0 := hcell k (by rw [HL.out]; exact hlt)
      have hdr : L.drop k = (L[k]'(by rw [HL.out]; exact hlt)) :: L.drop (k + 1) := List.drop_eq_getElem_cons (by rw [HL.out]; exact hlt)
      generalize L[k]'(by rw [HL.out]; exact hlt) = y at *
      have hII := HI.out
      rw [hdr] at hII
      clear hcell hdr
      rw [strv_text] at hc0
      obtain ⟨x, post', rfl⟩ : ∃ x p', post = x :: p' := by
        cases post with
        | nil => simp [idx] at hII
        | cons x p' => exact ⟨x, p', rfl⟩
      simp only [List.map_cons, idx, List.cons.injEq] at hII
      have HN : Hid (X = (pre ++ [x]) ++ post') := by rw [Hid, HP.out]; simp
      have HG := Lib.hid hII.1
      have HI2 := Lib.hid hII.2
      have hpl : pre.length < X.length := by rw [HN.out]; simp only [List.length_append, List.length_cons, List.length_nil]; omega
      clear hII
      obtain ⟨fn, tmps, assign, body, hy, hR⟩ := HY.out pre x wr hJs hpl
      rw [HG.out] at hy
      dsimp only [lencs] at hy
      clear hJs
      gi_wp2
      refine hR.mono ?_
      rintro e W3 (⟨rfl, hJ3, hk3⟩ | ⟨rfl, hJx3⟩)
      · clear hy hR
        gi_wp2
        go_roundw
        case rel => exact ⟨pre ++ [x], post', k + 1, by omega, by go_num, HN.out, HI2.out, hJ3, OwnS.kh HO.out (by omega) hk3⟩
        case measure => simp only [intOf]; omega
      · clear hy hR
        gi_wp2
        refine bodyPost_ret (results_none rfl _ _ _) rfl ?_
        exact ⟨⟨_, rfl⟩, .inr ⟨pre ++ [x], ⟨_, HN.out.symm⟩, hJx3⟩⟩
    · have hki : ¬ (k : Int) < (m : Int) := by omega
      have hpost : post = [] := by
        have := HI.out
        rw [List.drop_eq_nil_of_le (by rw [HL.out]; omega)] at this
        simpa [idx] using this
      have HPP : Hid (pre = X) := by rw [Hid, HP.out, hpost]; simp
      clear hpost
      gi_wp2
      go_end0
      rw [HPP.out] at hJs
      first | exact ⟨⟨_, rfl⟩, .inl ⟨_, rfl, hJs⟩⟩ | exact ⟨⟨_, rfl⟩, .inl hJs⟩

set_option maxHeartbeats 800000 in
theorem names_calls (w : World) (s : ByteArray) : Calls Tryd.prog 34 #[.string s] w fun e w' => e = .returned (.func (.func 50) #[] #[.pointer (some ⟨w.heap.size, 0, none⟩)]) ∧ w' = w.alloc (.cells #[.string s] 9) := by
  go_enter Tryd.func34, Tryd.ntmps34
  go_wp2
  go_ret
  exact ⟨rfl, rfl⟩
end Go.Proofs.YtkjbbidnpnecjaaDoor
