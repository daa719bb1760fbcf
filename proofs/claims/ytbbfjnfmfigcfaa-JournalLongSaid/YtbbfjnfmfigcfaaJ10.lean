/-
  Each: the iterator's contract.
-/
import Derived.Test.YtbbfjnfmfigcfaaJ9
import Derived.Test.YtbbfjnfmfigcfaaRf
namespace Go.Proofs.Ytbbfjnfmfigcfaa
open Go.RowKit Go.Shelf
set_option linter.unusedVariables false
set_option linter.unusedSimpArgs false
set_option maxRecDepth 100000

attribute [local go_sem] Oper.semAt_some

theorem Chg.grownNone {w w' : World} (h : Chg No w w') : w.grownBy w' none := ⟨h.os, h.tape, h.output, h.size, fun k hk _ => h.block k hk (fun x => x)⟩
theorem Chg.ofBelowN {n₀ : Nat} {w w' : World} (h : Below n₀ w w') : Chg (fun i => n₀ ≤ i) w w' := ⟨h.os, h.tape, h.output, h.size, fun k hk hn => h.block k (by omega)⟩
theorem OwnB.own {β : Type} {base : Nat} {v : Value} {xs : List UInt8} : Own (fun (_ : β) W => OwnB W base v xs) := by
  intro s W W' row h hg hr
  obtain ⟨h1, h2⟩ := h
  refine ⟨h1, h2.imp id ?_⟩
  rintro ⟨g, cap, cur, rfl, hbg, hh, r⟩
  refine ⟨g, cap, cur, rfl, hbg, ?_, r⟩
  refine (hg.block g (Array.getElem?_eq_some_iff.1 hh).1 (fun e => ?_)).trans hh
  obtain ⟨o, ho, hc⟩ := hr g e.symm
  rw [hh] at ho; cases ho; cases hc

/-- What is handed on: a number, a slice, and its bytes. -/
abbrev Rc := Nat × Value × List UInt8
abbrev rcs (x : Rc) : Array Value := #[.int .i64 (x.1 : Int), x.2.1]
def RcAt (n₀ : Nat) (ps : List (List UInt8)) (pre : List Rc) (x : Rc) (W : World) : Prop :=
  x.1 = pre.length ∧ pre.map (·.2.2) = ps.take pre.length ∧ ps[pre.length]? = some x.2.2 ∧ OwnB W n₀ x.2.1 x.2.2

/-- What a round keeps: what lies below n₀, and the box that the iterator reads. -/
def KeepsEach (n₀ B : Nat) (v : Value) (W W' : World) : Prop := Below n₀ W W' ∧ (Boxed W B 30 v → Boxed W' B 30 v)
theorem keepsEach_t {n₀ B : Nat} {v : Value} {X Y Z : World} (h : KeepsEach n₀ B v X Y) (k : KeepsEach n₀ B v Y Z) : KeepsEach n₀ B v X Z := ⟨h.1.trans k.1, fun x => k.2 (h.2 x)⟩
theorem keepsEach_b {n₀ B : Nat} {v : Value} {w : World} (hn : n₀ ≤ w.heap.size) (W : World) (l : Nat) (o o' : Obj) (hl : w.heap.size ≤ l) (h : W.heap[l]? = some o) (hc : o.isCells = false) (hw : o.isWalk = false) : KeepsEach n₀ B v W (W.putObj l o') :=
  ⟨belowK_b hn W l o o' hl h hc hw, fun x => (World.putObj_heap_other (fun e => by subst e; have e := (show W.heap[_]? = _ from x).symm.trans h; cases e; cases hc)).trans x⟩

set_option maxHeartbeats 2000000 in
theorem each_seq (n : Nat) (hn : 1 ≤ n) (n₀ : Nat) (w : World) (S : Nat → Prop) (base j d m nw : Nat) (k : ByteArray) (th : Bool) (ps : List (List UInt8)) (h : JD w S base j d m nw k th ps) (he : (encF ps).length ≤ 4194304) (B : Nat) (hB : Boxed w B 30 (.pointer (some ⟨j, 0, none⟩)))
    (hn0 : n₀ ≤ w.heap.size) (hS : ∀ i, S i → i < n₀) :
    SeqC Fence.wide n Try.prog 39 #[.pointer (some ⟨B, 0, none⟩)] rcs (RcAt n₀ ps) (KeepsEach n₀ B (.pointer (some ⟨j, 0, none⟩))) (fun xs => xs.map (·.2.2) = ps) w := fun l J Jx W hW0 hJ hJx hY h0 => by
  have hBw : B < w.heap.size := (Array.getElem?_eq_some_iff.1 (show w.heap[B]? = _ from hB)).1
  have hBB : Boxed W B 30 (.pointer (some ⟨j, 0, none⟩)) := (hW0.block B hBw).trans hB
  have hW := hW0.mono hn0
  have HJD := Lib.hid (fun V hV => h.chg (Chg.ofBelowN (n₀ := n₀) (w' := V) hV) (fun i hi => by have := hS i hi; omega))
  have hpl := encF_len ps
  have hplen : ps.length ≤ 4194304 := by omega
  have HY := Lib.hid hY
  have HJ := Lib.hid hJ
  have e0 := hBB.cell
  have HBB := Lib.hid hBB
  clear hY hJ hpl hBB
  refine callsIn_of_wp Try.func39 rfl trivial ?_ rfl
  simp only [Try.ntmps39, List.size_toArray, List.length_cons, List.length_nil, Nat.reduceAdd, Nat.reduceSub, Array.replicate_succ, Array.replicate_zero, List.push_toArray, List.append_toArray, List.nil_append, List.cons_append]
  gi_wp2_with (refine ⟨trivial, ?_⟩; gi_at_call 20; refine (callsIn_wide.2 (jlen_calls _ S base j d m nw k th ps (HJD.out _ hW))).mono ?_; rintro e w' ⟨rfl, rfl⟩)
  gi_loopw [6] (fun i V => ∃ pre : List Rc, pre.length ≤ ps.length ∧ i = .int .i64 (pre.length : Int) ∧ Hid (pre.map (·.2.2) = ps.take pre.length) ∧ Hid (Boxed V B 30 (.pointer (some ⟨j, 0, none⟩))) ∧ Below n₀ w V ∧ J pre V)
    (fun i _ => ps.length - (intOf i).toNat)
  case atStart => exact ⟨[], Nat.zero_le _, rfl, rfl, HBB.out, hW, h0⟩
  case round =>
    obtain ⟨pre, hpre, rfl, HM, HBV, hV, hJV⟩ := hrel
    by_cases hlt : pre.length < ps.length
    · have i1 : (pre.length : Int) < (ps.length : Int) := by omega
      have e1 := HBV.out.cell
      have hVs := hV.size
      have hnV : n₀ ≤ wr.heap.size := Nat.le_trans hn0 hVs
      gi_wp2_with (refine ⟨trivial, ?_⟩; gi_at_call 38; refine (callsIn_wide.2 (payload_calls _ S base j d m nw k th ps pre.length hlt (HJD.out _ hV) he)).mono ?_; rintro e w1 ⟨v, rfl, ho, hc⟩)
      have hb1 : Below n₀ w w1 := hV.trans ((Chg.below hc).mono hnV)
      have HB1 := Lib.hid (hc.heap HBV.out (fun x => x))
      have hJ1 := HJ.out _ _ _ none hJV hc.grownNone (fun _ e => by cases e)
      obtain ⟨A, q, c, rfl, HL, HO⟩ := ho.form
      have hR : RcAt n₀ ps pre (pre.length, .slice A q c, ps[pre.length]) w1 := ⟨rfl, HM.out, by rw [List.getElem?_eq_getElem hlt], HO.out.mono hnV⟩
      obtain ⟨fn, tmps, assign, body, hy, hR⟩ := HY.out pre _ w1 hJ1 hR
      dsimp only [rcs] at hy
      clear hc ho
      gi_wp2
      rw [hy]
      gi_wp2
      refine hR.mono ?_
      rintro e W3 (⟨rfl, hJ3, hk3⟩ | ⟨rfl, hJx3⟩)
      · clear hy hR
        gi_wp2
        go_roundw
        case rel =>
          refine ⟨pre ++ [(pre.length, .slice A q c, ps[pre.length])], by simp; omega, by simp, ?_, hk3.2 HB1.out, hb1.trans hk3.1, hJ3⟩
          have e := HM.out
          show List.map _ _ = _
          rw [List.map_append, e, List.length_append]
          show _ = List.take (pre.length + 1) ps
          rw [List.take_succ_eq_append_getElem hlt]
          rfl
        case measure => simp only [intOf]; omega
      · clear hy hR
        gi_wp2
        refine bodyPost_ret (results_none rfl _ _ _) rfl ?_
        exact ⟨⟨_, rfl⟩, .inr hJx3⟩
    · have i1 : ¬ ((pre.length : Int) < (ps.length : Int)) := by omega
      have hpe : pre.length = ps.length := by omega
      have HX : Hid (pre.map (·.2.2) = ps) := by rw [Hid, HM.out, hpe, List.take_length]
      clear hpe
      gi_wp2
      go_end0
      exact ⟨⟨_, rfl⟩, .inl ⟨pre, HX.out, hJV⟩⟩
end Go.Proofs.Ytbbfjnfmfigcfaa
