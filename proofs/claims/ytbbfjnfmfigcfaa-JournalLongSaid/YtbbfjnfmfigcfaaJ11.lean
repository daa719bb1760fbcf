/-
  holds: a journal has just these records.
-/
import Derived.Test.YtbbfjnfmfigcfaaJ10
import Derived.Test.YtbbfjnfmfigcfaaRep2
import Derived.BigQuiet
namespace Go.Proofs.Ytbbfjnfmfigcfaa
open Go.RowKit Go.Shelf
set_option linter.unusedVariables false
set_option linter.unusedSimpArgs false
set_option maxRecDepth 100000

attribute [local go_sem] Oper.semAt_some

/-- A slice of slices of bytes. -/
def Sl2 (w : World) (v : Value) (ls : List (List UInt8)) : Prop :=
  ∃ vs : List Value, vs.length = ls.length ∧ Holds w v ls.length vs ∧ ∀ i (h : i < vs.length) (h' : i < ls.length), Bytes w vs[i] ls[i]
theorem Sl2.chg {S : Nat → Prop} {w w' : World} {v : Value} {ls : List (List UInt8)} (h : Sl2 w v ls) (hc : Chg S w w') (hs : ∀ i, i < w.heap.size → S i → False) : Sl2 w' v ls := by
  obtain ⟨vs, h1, h2, h3⟩ := h
  have hc' : Chg No w w' := hc.mono (fun i hi hx => hs i hi hx)
  exact ⟨vs, h1, h2.no hc', fun i hi hi' => (h3 i hi hi').no hc'⟩
theorem Sl2.form {w : World} {v : Value} {ls : List (List UInt8)} (h : Sl2 w v ls) : ∃ L n c, v = .slice L n c ∧ Hid (ls.length = n) ∧ Hid (Sl2 w (.slice L n c) ls) := by
  obtain ⟨vs, h1, h2, h3⟩ := h
  obtain ⟨A, c, rfl, hx⟩ := h2
  exact ⟨A, _, c, rfl, rfl, vs, h1, ⟨A, c, rfl, hx⟩, h3⟩
theorem Sl2.get {w : World} {L : Option Addr} {n c : Nat} {ls : List (List UInt8)} (h : Sl2 w (.slice L n c) ls) (hp : 0 < ls.length) :
    ∃ b o, L = some ⟨b, o, none⟩ ∧ ∀ i (hi : i < ls.length), ∃ A q cc, w.cell? ⟨b, o + i, none⟩ = some (.slice A q cc) ∧ Bytes w (.slice A q cc) ls[i] ∧ Hid (ls[i].length = q) := by
  obtain ⟨vs, h1, ⟨A', c', he, hn, hm, hx⟩, h3⟩ := h
  simp only [Value.slice.injEq] at he
  obtain ⟨rfl, rfl, rfl⟩ := he
  obtain ⟨b, o, rfl, hc⟩ := hx (by omega)
  refine ⟨b, o, rfl, fun i hi => ?_⟩
  have hb := h3 i (by omega) hi
  have hg := hc i vs[i] (List.getElem?_eq_getElem (by omega))
  obtain ⟨A, cc, he, _⟩ := hb.form
  rw [he] at hg hb
  exact ⟨A, _, cc, hg, hb, rfl⟩

theorem rcAt_own (n₀ : Nat) (ps : List (List UInt8)) (B : Nat) (pre : List Rc) : OwnFrom B (RcAt n₀ ps pre) := by
  intro x W W' row h hg hr
  exact ⟨h.1, h.2.1, h.2.2.1, OwnB.own (β := Unit) () W W' row h.2.2.2 hg (fun r e => (hr r e).2)⟩

set_option maxHeartbeats 3200000 in
theorem holds_core (n : Nat) (hn : 3 ≤ n) (w : World) (S : Nat → Prop) (base j d m nw : Nat) (k : ByteArray) (th : Bool) (ps : List (List UInt8)) (h : JD w S base j d m nw k th ps) (he : (encF ps).length ≤ 4194304) (L : Option Addr) (nl cl : Nat) (hL : Sl2 w (.slice L nl cl) ps) (hl : ps.length = nl) :
    CallsIn Fence.wide n Try.prog 14 #[.pointer (some ⟨j, 0, none⟩), .slice L nl cl] w fun e W' => e = .returned (.bool true) ∧ Below w.heap.size w W' := by
  have h1 : 1 ≤ n := by omega
  have HLN := Lib.hid hl
  have HJD := Lib.hid (fun V hV => h.chg (Chg.ofBelowN (n₀ := w.heap.size) (w' := V) hV) (fun i hi => by have := (h.lt i hi).2; omega))
  have HSL := Lib.hid (fun V (hV : Below w.heap.size w V) => hL.chg (Chg.ofBelowN hV) (fun i hi hx => by omega))
  have hpl := encF_len ps
  have hplen : nl ≤ 4194304 := by omega
  have HW0 : Hid (∀ a b : Obj, Below w.heap.size w ((w.alloc a).alloc b)) := fun a b => ((Below.refl _ w).alloc (Nat.le_refl _) _).alloc (by simp) _
  have hSlt : ∀ i, S i → i < w.heap.size := fun i hi => (h.lt i hi).2
  clear hpl hl h hL
  refine callsIn_of_wp_marks Try.func14 rfl trivial ?_ rfl
  simp only [Try.ntmps14, List.size_toArray, List.length_cons, List.length_nil, Nat.reduceAdd, Nat.reduceSub, Array.replicate_succ, Array.replicate_zero, List.push_toArray, List.append_toArray, List.nil_append, List.cons_append]
  gi_wp2
  have hx0 : Boxed ((w.alloc (.cells #[.slice L nl cl] 26)).alloc (.cells #[.bool false] 4)) w.heap.size 26 (.slice L nl cl) := (Boxed.new w _ _).alloc _
  have hx1 : Boxed ((w.alloc (.cells #[.slice L nl cl] 26)).alloc (.cells #[.bool false] 4)) (w.heap.size + 1) 4 (.bool false) := by
    have h := Boxed.new (w.alloc (.cells #[.slice L nl cl] 26)) 4 (.bool false)
    rw [World.size_alloc] at h
    exact h
  have hB2 := HW0.out (.cells #[.slice L nl cl] 26) (.cells #[.bool false] 4)
  have hs2 : ((w.alloc (.cells #[.slice L nl cl] 26)).alloc (.cells #[.bool false] 4)).heap.size = w.heap.size + 2 := by simp only [World.size_alloc]
  generalize (w.alloc (.cells #[.slice L nl cl] 26)).alloc (.cells #[.bool false] 4) = W2 at *
  have c0 := hx0.cell
  have HLE := Lib.hid (fun V (hV : Below w.heap.size w V) => show Calls Try.prog 20 #[.pointer (some ⟨j, 0, none⟩)] V (fun e w' => e = .returned (.int .i64 (nl : Int)) ∧ w' = V) from HLN.out ▸ jlen_calls V S base j d m nw k th ps (HJD.out V hV))
  refine wpIn_wide.2 ?_
  go_quiet ((go_at_call 20; exact Calls.quiet_of_same (HLE.out _ (hB2.trans (((Chg.refl No _).drewN _).below.mono hB2.size)))))
  have hB3 : Below w.heap.size w (W2.drewN nq) := hB2.trans (((Chg.refl No _).drewN _).below.mono hB2.size)
  have hx0 : Boxed (W2.drewN nq) w.heap.size 26 (.slice L nl cl) := ((Chg.refl No W2).drewN nq).heap hx0 (fun x => x)
  have hx1 : Boxed (W2.drewN nq) (w.heap.size + 1) 4 (.bool false) := ((Chg.refl No W2).drewN nq).heap hx1 (fun x => x)
  have hs3 : (W2.drewN nq).heap.size = w.heap.size + 2 := hs2
  clear c0 hB2 hs2
  generalize W2.drewN nq = W3 at *
  gi_wp2_with ((try refine ⟨trivial, ?_⟩); gi_at_call 19; refine (callsIn_wide.2 (each_calls _ _)).mono ?_; rintro e w' ⟨rfl, rfl⟩)
  have hx2 : Boxed ((W3.alloc (.cells #[.int .i64 0] 3)).alloc (.cells #[.pointer (some ⟨j, 0, none⟩)] 30)) (w.heap.size + 2) 3 (.int .i64 ((0 : Nat) : Int)) := by
    have h := (Boxed.new W3 3 (.int .i64 0)).alloc (.cells #[.pointer (some ⟨j, 0, none⟩)] 30)
    rw [hs3] at h
    exact h
  have hx3 : Boxed ((W3.alloc (.cells #[.int .i64 0] 3)).alloc (.cells #[.pointer (some ⟨j, 0, none⟩)] 30)) (w.heap.size + 2 + 1) 30 (.pointer (some ⟨j, 0, none⟩)) := by
    have h := Boxed.new (W3.alloc (.cells #[.int .i64 0] 3)) 30 (.pointer (some ⟨j, 0, none⟩))
    rw [World.size_alloc, hs3] at h
    exact h
  have hx0 := (hx0.alloc (.cells #[.int .i64 0] 3)).alloc (.cells #[.pointer (some ⟨j, 0, none⟩)] 30)
  have hx1 := (hx1.alloc (.cells #[.int .i64 0] 3)).alloc (.cells #[.pointer (some ⟨j, 0, none⟩)] 30)
  have hB5 : Below w.heap.size w ((W3.alloc (.cells #[.int .i64 0] 3)).alloc (.cells #[.pointer (some ⟨j, 0, none⟩)] 30)) := (hB3.alloc (by omega) _).alloc (by simp; omega) _
  have hs5 : ((W3.alloc (.cells #[.int .i64 0] 3)).alloc (.cells #[.pointer (some ⟨j, 0, none⟩)] 30)).heap.size = w.heap.size + 4 := by simp only [World.size_alloc]; omega
  clear hB3 hs3
  generalize ((W3.alloc (.cells #[.int .i64 0] 3)).alloc (.cells #[.pointer (some ⟨j, 0, none⟩)] 30)) = W5 at *
  refine wpIn_rangeFunc_C rfl h1 (gf := 39) (lb := #[.pointer (some ⟨w.heap.size + 2 + 1, 0, none⟩)]) rfl trivial (enters_of Try.func39 (by kernel_rfl) rfl)
    (each_seq (n - 1) (by omega) w.heap.size W5 S base j d m nw k th ps (HJD.out _ hB5) he (w.heap.size + 2 + 1) hx3 hB5.size hSlt) keepsEach_t (keepsEach_b (by omega)) (fun _ => rfl) (rcAt_own _ _ _)
    (fun pre W => ((Boxed W w.heap.size 26 (.slice L nl cl) ∧ Boxed W (w.heap.size + 1) 4 (.bool false)) ∧ Boxed W (w.heap.size + 2) 3 (.int .i64 (pre.length : Int))) ∧ Below w.heap.size w W)
    (fun _ => False)
    (OwnFrom.and (OwnFrom.and (OwnFrom.and (Own.from (boxed_own _ _ (fun _ => .slice L nl cl)) _) (Own.from (boxed_own _ _ (fun _ => .bool false)) _)) (Own.from (boxed_own _ _ (fun pre : List Rc => .int .i64 (pre.length : Int))) _)) (ownFrom_below (Nat.le_refl _) (by omega)))
    (fun _ _ _ _ hs _ _ => hs.elim)
    ⟨⟨⟨hx0, hx1⟩, hx2⟩, hB5⟩
    (fun x => { tmps := #[.pointer (some ⟨j, 0, none⟩), .slice L nl cl, undef, .pointer (some ⟨w.heap.size, 0, none⟩), .pointer (some ⟨w.heap.size + 1, 0, none⟩), .pointer (some ⟨w.heap.size + 2, 0, none⟩), .int .i64 (x.1 : Int), x.2.1, undef, undef, undef, undef, undef, undef, undef, undef, .pointer (some ⟨j, 0, none⟩), .int .i64 (nl : Int), .slice L nl cl, .int .i64 (nl : Int), .bool false, .pointer (some ⟨j, 0, none⟩), .func (.func 39) #[] #[.pointer (some ⟨w.heap.size + 2 + 1, 0, none⟩)], .int .i64 (x.1 : Int), x.2.1, undef, undef, undef, undef, undef, undef, undef, undef, undef, undef, undef, undef, undef, undef, undef, undef, undef, undef, undef, undef, undef, undef, undef, undef, undef, undef, undef, undef, undef, undef, undef, undef, undef, undef, undef, undef, undef, undef, undef, undef, undef, undef, undef, undef, undef, undef, undef, undef, undef, undef, undef, undef, undef, undef, undef, undef, undef, undef, undef, undef, undef, undef, undef, undef, undef, undef, undef, undef, undef, undef, undef, undef, undef, undef, undef, undef], defers := [] }) ?assign ?body ?done ?stop
  case assign =>
    intro l x W K hK
    gi_wp2
    exact hK
  case stop =>
    rintro D W hD h hK
    exact h.elim
  case body =>
    rintro l pre ⟨x1, xv, p⟩ W ⟨⟨⟨b0, b1⟩, b2⟩, hB⟩ ⟨hx1', hpm, hpx, hov⟩
    dsimp only at hx1' hpx hov
    subst hx1'
    obtain ⟨A, q, c, rfl, HLV, HOV⟩ := hov.form
    have hlt : pre.length < ps.length := (List.getElem?_eq_some_iff.1 hpx).1
    have hps : ps[pre.length] = p := (List.getElem?_eq_some_iff.1 hpx).2
    obtain ⟨lb, lo, rfl, hget⟩ := (HSL.out W hB).get (by omega)
    obtain ⟨A2, q2, c2, hcell, hby, HQ2⟩ := hget pre.length hlt
    rw [hps] at hby
    have ht1 := fun nn => (HOV.out.bytes.no ((Chg.refl No W).drewN nn)).text (P := Try.prog) (src := 22) (dst := 9) Try.underlying22 Try.underlying5 Try.underlying9
    have ht2 := fun nn => (hby.no ((Chg.refl No W).drewN nn)).text (P := Try.prog) (src := 22) (dst := 9) Try.underlying22 Try.underlying5 Try.underlying9
    have i1 : (pre.length : Int) < (nl : Int) := by have := HLN.out; omega
    have i2 : decide (nl ≤ pre.length) = false := decide_eq_false (by omega)
    have i3 : pre.length < nl := by omega
    have c0 := b0.cell
    have c2' := b2.cell
    have f2 := b2.frozen
    have hbe : ((mkS p).toList == (mkS p).toList) = true := beq_self_eq_true _
    gi_wp2
    refine wpIn_region_quiet_round l rfl (by kernel_rfl) (by kernel_rfl) (by kernel_rfl) ?_
    repeat (first | gi_big_quiet_step (skip) | (refine wpQuietIn_step asked_wide (fun K hK => ?_); rw [if_pos (by rfl)]; gi_big_quiet_op; refine hK _ ?_; clear hK K))
    refine wpQuietIn_nil ?_
    rintro _ ⟨nq2, rfl⟩
    have f2' : (W.drewN nq2).frozen? ⟨w.heap.size + 2, 0, none⟩ = false := f2
    have c2'' : (W.drewN nq2).cell? ⟨w.heap.size + 2, 0, none⟩ = some (.int .i64 (pre.length : Int)) := c2'
    gi_wp2
    have hpl : (pre ++ [(pre.length, Value.slice A q c, p)]).length = pre.length + 1 := by simp
    have hcd : Chg (One (w.heap.size + 2)) W ((W.drewN nq2).setCell ⟨w.heap.size + 2, 0, none⟩ (.int .i64 ((pre.length : Int) + 1))) := ((Chg.refl (One (w.heap.size + 2)) W).drewN nq2).setCell (p := ⟨w.heap.size + 2, 0, none⟩) (.inr rfl) _
    have hbl : Below w.heap.size W ((W.drewN nq2).setCell ⟨w.heap.size + 2, 0, none⟩ (.int .i64 ((pre.length : Int) + 1))) := ⟨hcd.os, hcd.tape, hcd.output, hcd.size, fun k hk => hcd.block k (by have := hB.size; omega) (by show ¬ (k = _); omega)⟩
    have hko : KeepsOthers W ((W.drewN nq2).setCell ⟨w.heap.size + 2, 0, none⟩ (.int .i64 ((pre.length : Int) + 1))) := (show KeepsOthers W (W.drewN nq2) from ⟨Nat.le_refl _, fun k o h _ => h⟩).trans (KeepsOthers.setCell _ _ _)
    refine ⟨hko.from _, ⟨hbl, fun x => hcd.heap x (by show ¬ (_ = _); omega)⟩, ⟨⟨hcd.heap b0 (by show ¬ (_ = _); omega), hcd.heap b1 (by show ¬ (_ = _); omega)⟩, ?_⟩, hB.trans hbl⟩
    rw [hpl]
    exact (show Boxed (W.drewN nq2) (w.heap.size + 2) 3 _ from b2).set _
  case done =>
    rintro D xs W hD hxs ⟨⟨⟨b0, b1⟩, b2⟩, hB⟩ hK
    have hxl : xs.length = nl := by
      have := congrArg List.length hxs
      rw [List.length_map, HLN.out] at this
      exact this
    rw [hxl] at b2
    clear hxs hxl
    have c0 := b0.cell
    gi_wp2
    gi_loopw [48] (fun i V => ∃ k : Nat, k ≤ nl ∧ i = .int .i64 (k : Int) ∧ Hid (Chg No W V)) (fun i _ => nl - (intOf i).toNat)
    case atStart => exact ⟨0, Nat.zero_le _, rfl, Chg.refl _ _⟩
    case round =>
      obtain ⟨i, hi, rfl, HV⟩ := hrel
      have hBv : Below w.heap.size w wr := hB.trans (HV.out.below.mono hB.size)
      by_cases hlt : i < nl
      · have i1 : (i : Int) < (nl : Int) := by omega
        have hil : i < ps.length := by have := HLN.out; omega
        obtain ⟨lb, lo, rfl, hget⟩ := (HSL.out wr hBv).get (by omega)
        obtain ⟨A2, q2, c2, hcell, hby, HQ2⟩ := hget i hil
        have HBY := Lib.hid hby
        clear hby hget
        have hbe : ((mkS ps[i]).toList == (mkS ps[i]).toList) = true := beq_self_eq_true _
        have HR := Lib.hid (record_in wr S base j d m nw k th ps i hil (HJD.out _ hBv) he)
        gi_wp2_with (refine ⟨trivial, ?_⟩; gi_at_call 18; refine (callsIn_wide.2 HR.out).mono ?_; rintro e w1 ⟨v, rfl, ho, hc⟩; obtain ⟨A3, q3, c3, rfl, HL3, HO3⟩ := ho.form; have HC3 := Lib.hid hc; clear ho hc; have ht1 := HO3.out.bytes.text (P := Try.prog) (src := 22) (dst := 9) Try.underlying22 Try.underlying5 Try.underlying9; have ht2 := (HBY.out.no HC3.out).text (P := Try.prog) (src := 22) (dst := 9) Try.underlying22 Try.underlying5 Try.underlying9)
        go_roundw
        case rel => exact ⟨i + 1, by omega, by go_num, HV.out.no HC3.out⟩
        case measure => simp only [intOf]; omega
      · have i1 : ¬ ((i : Int) < (nl : Int)) := by omega
        have b0' := HV.out.heap b0 (fun x => x)
        have b1' := HV.out.heap b1 (fun x => x)
        have b2' := HV.out.heap b2 (fun x => x)
        have c0' := Boxed.cell b0'
        have c1' := Boxed.cell b1'
        have c2' := Boxed.cell b2'
        have f1' := Boxed.frozen b1'
        have HRL := Lib.hid (record_low wr S base j d m nw k th ps (HJD.out _ hBv))
        have HRH := Lib.hid (record_high wr S base j d m nw k th ps (HJD.out _ hBv) nl HLN.out)
        gi_wp2_with (first | (refine ⟨trivial, ?_⟩; gi_at_call 18; refine (callsIn_wide.2 HRL.out).mono ?_; clear HRL; rintro e w1 ⟨rfl, rfl⟩) | (refine ⟨trivial, ?_⟩; gi_at_call 18; refine (callsIn_wide.2 HRH.out).mono ?_; clear HRH; rintro e w1 ⟨rfl, rfl⟩))
        have hK1 : w1.heap[D]? = some (.deferred (some [])) := HV.out.heap hK (fun x => x)
        have hK' := (KeepsOthers.setCell w1 ⟨w.heap.size + 1, 0, none⟩ (.bool true)).same D _ hK1 rfl
        have hb6 := (show Boxed w1 (w.heap.size + 1) 4 _ from b1').set (.bool true)
        have hc7 := cell_kept hb6.cell (grownBy_putObj' _ D (.deferred none)) (fun r e => by cases e; exact ⟨_, hK', rfl⟩)
        refine ⟨by simp, .inl ⟨_, _, rfl, run_takeDeferred hK', ?_⟩⟩
        refine ⟨.bool true, ?_, rfl, (hBv.setCell (p := ⟨w.heap.size + 1, 0, none⟩) (by show w.heap.size ≤ w.heap.size + 1; omega) _).trans (belowK_b (w := w) (Nat.le_refl _) _ D _ _ (by omega) hK' rfl rfl)⟩
        simp [results, Try.f14, go_sem, hc7]

theorem holds_calls (w : World) (S : Nat → Prop) (base j d m nw : Nat) (k : ByteArray) (th : Bool) (ps : List (List UInt8)) (h : JD w S base j d m nw k th ps) (he : (encF ps).length ≤ 4194304) (L : Option Addr) (nl cl : Nat) (hL : Sl2 w (.slice L nl cl) ps) (hl : ps.length = nl) :
    Calls Try.prog 14 #[.pointer (some ⟨j, 0, none⟩), .slice L nl cl] w fun e w' => e = .returned (.bool true) ∧ Chg No w w' :=
  (callsIn_wide.1 (holds_core 3 (Nat.le_refl _) w S base j d m nw k th ps h he L nl cl hL hl)).mono fun _ _ h => ⟨h.1, Chg.ofBelow h.2⟩
end Go.Proofs.Ytbbfjnfmfigcfaa
