/-
  S12, S13, Tx, Ty, Oe, Fa, Od, Lk, Cp, Sy: in one text.
-/
import Derived.Test.YtccphnkdnifpfaaBa8
import Derived.Test.YtccphnkdnifpfaaBa4
import Derived.Lib.Strings
import Derived.Lib.Slices
import Derived.Lib.Walk
import Derived.Laws.RangeAny
import Derived.BigQuiet
import Derived.Laws.StructEq
import Derived.Defers
import Derived.Recover
import Derived.Laws.Pointers
import Derived.Test.YtccphnkdnifpfaaBa3
namespace Go.Proofs.Ytccphnkdnifpfaa
set_option linter.unnecessarySimpa false
open Go.RowKit Go.Shelf
set_option linter.unusedVariables false
set_option linter.unusedSimpArgs false
set_option maxRecDepth 100000

attribute [local go_sem] Oper.semAt_some
/-- What Open answers. -/
def SOpenR (w : World) (S : Nat → Prop) (base d m nw : Nat) (th : Bool) (ps : List (List UInt8)) (e : Ending) (W' : World) : Prop :=
  (okF [] ps = true → ∃ s mp j S2, e = .returned (.tuple #[.pointer (some ⟨s, 0, none⟩), .int .i64 0]) ∧ SD W' S2 base s mp j d m nw th ps ∧ ∀ i, S2 i → S i ∨ w.heap.size ≤ i) ∧ (okF [] ps = false → e = .returned (.tuple #[.pointer none, .int .i64 8]))
theorem Chg.keepsO {w w' : World} (h : Chg No w w') : KeepsOthers w w' := ⟨h.size, fun k o hk _ => h.heap hk (fun x => x)⟩
set_option maxHeartbeats 6400000 in
theorem sopen_any_core (n : Nat) (hn : 3 ≤ n) (w : World) (S : Nat → Prop) (base j0 d m nw : Nat) (th : Bool) (ps : List (List UInt8)) (h : JD w S base j0 d m nw objK th ps) (hps : ∀ p ∈ ps, p.length ≤ 262144) (hen : (encF ps).length ≤ 4194304) (hfew : ps.length ≤ 65536) (hw : nw < 9223372036850000000) :
    CallsIn Fence.wide n Try.prog 10 #[.pointer (some ⟨d, 0, none⟩)] w fun e W' => SOpenR w S base d m nw th ps e W' ∧ Chg No w W' := by
  have h1 : 1 ≤ n := by omega
  have hb : base ≤ w.heap.size := by
    obtain ⟨A, n, c, AP, np, cp, AF, nf, cf, h1, h2, h3, h4, h5, h6, h7, h8, h9, h10, h11, h12, h13, h14, h15, h16, h17, h18⟩ := h
    exact h18
  have HSl := Lib.hid h.lt
  have HPS := Lib.hid hps
  have hmm := @run_makeMap Try.prog
  have X1 := ((Chg.refl No w).alloc (.cells #[.pointer none] 26)).alloc (.cells #[.int .i64 0] 27)
  have HFO := Lib.hid (again_open2 ((w.alloc (.cells #[.pointer none] 26)).alloc (.cells #[.int .i64 0] 27)) S base j0 d m nw objK th ps (h.no X1) hps hen hw)
  have B2 := (Boxed.new w 26 (.pointer none)).alloc (.cells #[.int .i64 0] 27)
  have B3 := Boxed.new (w.alloc (.cells #[.pointer none] 26)) 27 (.int .i64 0)
  rw [World.size_alloc] at B3
  have hs1 : ((w.alloc (.cells #[.pointer none] 26)).alloc (.cells #[.int .i64 0] 27)).heap.size = w.heap.size + 2 := by simp only [World.size_alloc]
  have HX1 := Lib.hid X1
  have HB2 := Lib.hid B2
  have HB3 := Lib.hid B3
  clear h X1 B2 B3 hps
  refine callsIn_of_wp_marks Try.func10 rfl trivial ?_ rfl
  simp only [Try.ntmps10, List.size_toArray, List.length_cons, List.length_nil, Nat.reduceAdd, Nat.reduceSub, Array.replicate_succ, Array.replicate_zero, List.push_toArray, List.append_toArray, List.nil_append, List.cons_append]
  gi_wp2_with (refine ⟨trivial, ?_⟩; gi_at_call 29; refine (callsIn_wide.2 HFO.out).mono ?_; rintro e w2 ⟨j, SJ, rfl, hJ, hc2, hwh⟩; refine Hid.out ?_)
  refine Lib.hid ?_
  rw [hs1] at hwh
  have HWH : Hid (∀ i, SJ i → i ≠ w.heap.size ∧ i ≠ w.heap.size + 1) := fun i hi => by
    rcases hwh i hi with h | h
    · have := (HSl.out i h).2; omega
    · omega
  have HWH2 : Hid (∀ i, SJ i → S i ∨ w.heap.size ≤ i) := fun i hi => (hwh i hi).imp id (fun h => by omega)
  have hsz2 : w.heap.size + 2 ≤ w2.heap.size := by have := hc2.size; omega
  have HJ := Lib.hid hJ
  have HC2 : Hid (Chg No w w2) := HX1.out.no hc2
  have HB22 : Hid (Boxed w2 w.heap.size 26 (.pointer none)) := hc2.heap HB2.out (fun x => x)
  have HB32 : Hid (Boxed w2 (w.heap.size + 1) 27 (.int .i64 0)) := hc2.heap HB3.out (fun x => x)
  clear hJ hc2 HFO HB2 HB3 HX1 hs1 hwh
  gi_wp2_with (refine ⟨trivial, ?_⟩; gi_at_call 33; refine (callsIn_wide.2 (each_calls _ _)).mono ?_; rintro e w' ⟨rfl, rfl⟩)
  have Y5 : Chg No w2 ((((w2.alloc (.map #[] 0)).alloc (.cells #[.pointer (some ⟨j, 0, none⟩), .map (some w2.heap.size), .slice none 0 0] 91)).alloc (.cells #[.pointer (some ⟨w2.heap.size + 1, 0, none⟩)] 26)).alloc (.cells #[.pointer (some ⟨j, 0, none⟩)] 80)) := ((((Chg.refl No w2).alloc _).alloc _).alloc _).alloc _
  have hz5 : ((((w2.alloc (.map #[] 0)).alloc (.cells #[.pointer (some ⟨j, 0, none⟩), .map (some w2.heap.size), .slice none 0 0] 91)).alloc (.cells #[.pointer (some ⟨w2.heap.size + 1, 0, none⟩)] 26)).alloc (.cells #[.pointer (some ⟨j, 0, none⟩)] 80)).heap.size = w2.heap.size + 4 := by simp only [World.size_alloc]
  have gm := heap_alloc_new w2 (.map #[] 0)
  have gs := heap_alloc_new (w2.alloc (.map #[] 0)) (.cells #[.pointer (some ⟨j, 0, none⟩), .map (some w2.heap.size), .slice none 0 0] 91)
  have g6 := Boxed.new ((w2.alloc (.map #[] 0)).alloc (.cells #[.pointer (some ⟨j, 0, none⟩), .map (some w2.heap.size), .slice none 0 0] 91)) 26 (.pointer (some ⟨w2.heap.size + 1, 0, none⟩))
  have gj := Boxed.new (((w2.alloc (.map #[] 0)).alloc (.cells #[.pointer (some ⟨j, 0, none⟩), .map (some w2.heap.size), .slice none 0 0] 91)).alloc (.cells #[.pointer (some ⟨w2.heap.size + 1, 0, none⟩)] 26)) 80 (.pointer (some ⟨j, 0, none⟩))
  simp only [World.size_alloc] at gs g6 gj
  have gm5 : ((((w2.alloc (.map #[] 0)).alloc (.cells #[.pointer (some ⟨j, 0, none⟩), .map (some w2.heap.size), .slice none 0 0] 91)).alloc (.cells #[.pointer (some ⟨w2.heap.size + 1, 0, none⟩)] 26)).alloc (.cells #[.pointer (some ⟨j, 0, none⟩)] 80)).heap[w2.heap.size]? = some (mapI []) := ((((Chg.refl No (w2.alloc (.map #[] 0))).alloc _).alloc _).alloc _).heap gm (fun x => x)
  have gs5 : ((((w2.alloc (.map #[] 0)).alloc (.cells #[.pointer (some ⟨j, 0, none⟩), .map (some w2.heap.size), .slice none 0 0] 91)).alloc (.cells #[.pointer (some ⟨w2.heap.size + 1, 0, none⟩)] 26)).alloc (.cells #[.pointer (some ⟨j, 0, none⟩)] 80)).heap[w2.heap.size + 1]? = some (.cells #[.pointer (some ⟨j, 0, none⟩), .map (some w2.heap.size), .slice none 0 0] 91) := (((Chg.refl No ((w2.alloc (.map #[] 0)).alloc (.cells #[.pointer (some ⟨j, 0, none⟩), .map (some w2.heap.size), .slice none 0 0] 91))).alloc _).alloc _).heap gs (fun x => x)
  have g65 : Boxed ((((w2.alloc (.map #[] 0)).alloc (.cells #[.pointer (some ⟨j, 0, none⟩), .map (some w2.heap.size), .slice none 0 0] 91)).alloc (.cells #[.pointer (some ⟨w2.heap.size + 1, 0, none⟩)] 26)).alloc (.cells #[.pointer (some ⟨j, 0, none⟩)] 80)) (w2.heap.size + 1 + 1) 26 (.pointer (some ⟨w2.heap.size + 1, 0, none⟩)) := g6.alloc _
  have gj5 : Boxed ((((w2.alloc (.map #[] 0)).alloc (.cells #[.pointer (some ⟨j, 0, none⟩), .map (some w2.heap.size), .slice none 0 0] 91)).alloc (.cells #[.pointer (some ⟨w2.heap.size + 1, 0, none⟩)] 26)).alloc (.cells #[.pointer (some ⟨j, 0, none⟩)] 80)) (w2.heap.size + 1 + 1 + 1) 80 (.pointer (some ⟨j, 0, none⟩)) := gj
  have hB25 : Boxed ((((w2.alloc (.map #[] 0)).alloc (.cells #[.pointer (some ⟨j, 0, none⟩), .map (some w2.heap.size), .slice none 0 0] 91)).alloc (.cells #[.pointer (some ⟨w2.heap.size + 1, 0, none⟩)] 26)).alloc (.cells #[.pointer (some ⟨j, 0, none⟩)] 80)) w.heap.size 26 (.pointer none) := Y5.heap HB22.out (fun x => x)
  have hB35 : Boxed ((((w2.alloc (.map #[] 0)).alloc (.cells #[.pointer (some ⟨j, 0, none⟩), .map (some w2.heap.size), .slice none 0 0] 91)).alloc (.cells #[.pointer (some ⟨w2.heap.size + 1, 0, none⟩)] 26)).alloc (.cells #[.pointer (some ⟨j, 0, none⟩)] 80)) (w.heap.size + 1) 27 (.int .i64 0) := Y5.heap HB32.out (fun x => x)
  have HJ5 := Lib.hid (HJ.out.no Y5)
  have HC5 : Hid (Chg No w ((((w2.alloc (.map #[] 0)).alloc (.cells #[.pointer (some ⟨j, 0, none⟩), .map (some w2.heap.size), .slice none 0 0] 91)).alloc (.cells #[.pointer (some ⟨w2.heap.size + 1, 0, none⟩)] 26)).alloc (.cells #[.pointer (some ⟨j, 0, none⟩)] 80))) := HC2.out.no Y5
  have hSJ : Hid (∀ i, SJ i → i < w2.heap.size) := fun i hi => (HJ.out.lt i hi).2
  clear gm gs g6 gj hmm HB22 HB32 HJ HC2
  generalize ((((w2.alloc (.map #[] 0)).alloc (.cells #[.pointer (some ⟨j, 0, none⟩), .map (some w2.heap.size), .slice none 0 0] 91)).alloc (.cells #[.pointer (some ⟨w2.heap.size + 1, 0, none⟩)] 26)).alloc (.cells #[.pointer (some ⟨j, 0, none⟩)] 80)) = W5 at *
  have hcs := HC5.out.size
  have z5 : w2.heap.size + 4 = W5.heap.size := hz5.symm
  refine wpIn_rangeFunc_C rfl h1 (gf := 64) (lb := #[.pointer (some ⟨w2.heap.size + 1 + 1 + 1, 0, none⟩)]) rfl trivial (enters_of Try.func64 (by kernel_rfl) rfl)
    (each_seq (n - 1) (by omega) w2.heap.size W5 SJ base j d m nw objK th ps HJ5.out hen (w2.heap.size + 1 + 1 + 1) gj5 (by omega) hSJ.out) keepsEach_t (keepsEach_b (by omega)) (fun _ => rfl) (rcAt_own0 _ _ _)
    (fun pre W => ((∃ v, SC W base (w2.heap.size + 1) w2.heap.size j v (pre.map fun x => idF x.2.2) ∧ ∀ b, v.ownBlock = some b → W5.heap.size ≤ b) ∧ okF [] (pre.map (·.2.2)) = true) ∧ Chg (fun i => i = w2.heap.size + 1 ∨ i = w2.heap.size) W5 W)
    (fun W => (Boxed W w.heap.size 26 (.pointer none) ∧ Boxed W (w.heap.size + 1) 27 (.int .i64 8)) ∧ okF [] ps = false ∧ Chg No w W)
    ?own1 ?own2
    ⟨⟨⟨.slice none 0 0, ⟨gs5, gm5, World.ownsRow_nil _ _ _ _, by omega, by omega⟩, fun b hb => by cases hb⟩, rfl⟩, Chg.refl _ _⟩
    ?frame ?assign ?body ?done ?stop
  case own1 =>
    rintro pre X Y row ⟨⟨⟨v, hs, hv⟩, hok⟩, hch⟩ hg hr
    exact ⟨⟨⟨v, hs.kept hg hr (by omega), hv⟩, hok⟩, hch.grown hg (fun k e => .inl (hr k e).1)⟩
  case own2 =>
    rintro u X Y row ⟨⟨b0, b1⟩, hok, hch⟩ hg hr
    exact ⟨⟨boxed_kept b0 hg hr, boxed_kept b1 hg hr⟩, hok, hch.grown hg (fun k e => .inl (by have := (hr k e).1; omega))⟩
  case assign =>
    intro l x W K hK
    gi_wp2
    exact hK
  case stop =>
    rintro D W hD ⟨⟨b0, b1⟩, hok, hch⟩ hK
    have d2 := Lib.hid b0.cell
    have d3 := Lib.hid b1.cell
    have hg9 := grownBy_putObj' W D (.deferred none)
    have hk9 : ∀ r, some D = some r → ∃ o : Obj, W.heap[r]? = some o ∧ o.isCells = false := fun r e => by cases e; exact ⟨_, hK, rfl⟩
    have d2 := cell_kept b0.cell hg9 hk9
    have d3 := cell_kept b1.cell hg9 hk9
    gi_wp2
    refine ⟨by simp, .inl ⟨_, _, rfl, run_takeDeferred hK, ?_⟩⟩
    refine ⟨.tuple #[.pointer none, .int .i64 8], ?_, ⟨fun h => (by rw [hok] at h; cases h), fun _ => rfl⟩, hch.grown hg9 (fun k e => .inl (by cases e; omega))⟩
    simp [results, Try.f10, go_sem, d2, d3]
  case body =>
    rintro l pre ⟨kx, vx, p⟩ W ⟨⟨⟨v, hsc, hvb⟩, hok⟩, hch⟩ ⟨hx1, hx2, hx3, hx4⟩
    dsimp only at hx1 hx3 hx4
    subst hx1
    have hpl : p.length ≤ 262144 := HPS.out p (List.mem_of_getElem? hx3)
    have hplt := (List.getElem?_eq_some_iff.1 hx3).1
    have HIDS : Hid ((pre.map fun x => idF x.2.2) = (ps.take pre.length).map idF) := by
      rw [Hid, ← hx2, List.map_map]; rfl
    have HBAD := Lib.hid (fun hb => okF_bad (k := pre.length) (p := p) hx3 hb)
    have HOKS : Hid (okF [] ((pre ++ [(pre.length, vx, p)]).map (·.2.2)) = ((decF p).isSome && (findI (idF p) (pre.map fun x => idF x.2.2)).isNone)) := by
      rw [Hid, List.map_append, List.map_cons, List.map_nil, okF_snoc, hok, Bool.true_and, List.map_map]; rfl
    have HIDL : Hid ((pre.map fun x => idF x.2.2).length = pre.length) := List.length_map _
    have HIDN : Hid (((pre ++ [(pre.length, vx, p)]).map fun x => idF x.2.2) = (pre.map fun x => idF x.2.2) ++ [idF p]) := by rw [Hid, List.map_append]; rfl
    obtain ⟨A, q, c, rfl, HLV, HOV⟩ := hx4.form
    have HID := Lib.hid (id_calls W A q c p HOV.out.bytes HLV.out (by have := HLV.out; omega))
    have HDE := Lib.hid (decode_calls W A q c p HOV.out.bytes HLV.out (by have := HLV.out; omega))
    have b6 : Boxed W (w2.heap.size + 1 + 1) 26 (.pointer (some ⟨w2.heap.size + 1, 0, none⟩)) := hch.heap g65 (fun e => by rcases e with e | e <;> omega)
    have b2 : Boxed W w.heap.size 26 (.pointer none) := hch.heap hB25 (fun e => by rcases e with e | e <;> omega)
    have b3 : Boxed W (w.heap.size + 1) 27 (.int .i64 0) := hch.heap hB35 (fun e => by rcases e with e | e <;> omega)
    have hWs := hch.size
    have HSC := Lib.hid hsc
    have HVB := Lib.hid hvb
    have HCH := Lib.hid hch
    have c6 := b6.cell
    obtain ⟨e0, e1, e2⟩ := cells3 hsc.1
    have HB2 := Lib.hid b2
    have HB3 := Lib.hid b3
    have HB6 := Lib.hid b6
    obtain ⟨ip, hip⟩ : ∃ i, i = idF p := ⟨_, rfl⟩
    rw [← hip] at HID HOKS HIDN HBAD
    obtain ⟨ids, hids⟩ : ∃ ids, ids = (pre.map fun x : Rc => idF x.2.2) := ⟨_, rfl⟩
    rw [← hids] at HSC HOKS HIDL HIDN HIDS
    rw [← HIDS.out] at HBAD
    have hlm := hsc.2.1
    rw [← hids] at hlm
    generalize hml : pre.length = ml at *
    have HML := Lib.hid hml
    clear hx2 hx3 hx4 hip hids hsc hvb hch hok b2 b3 b6 hml HIDS
    cases hfi : findI ip ids with
    | some q0 =>
      have hlk : Sem.run Try.prog (Instr.lookup 89 (.map (some w2.heap.size)) (.int .u64 (ip : Int)) true) W = .ok (.tuple #[.int .i64 (q0 : Int), .bool true]) W := lookI_some W w2.heap.size ip q0 ids hlm hfi
      have HOKF : Hid (okF [] ps = false) := HBAD.out (.inr (by rw [hfi]; rfl))
      clear hfi hlm
      cases hdp : decF p with
      | none =>
        have HDR : Hid (∀ e w', DecR W.heap.size w' e (decF p) → e = .returned (.tuple #[.nilIface, .int .i64 8])) := fun e w' h => by rw [hdp] at h; exact h
        clear hdp
        gi_wp2_with (first | (refine ⟨trivial, (fun h => by cases h), ?_⟩; gi_at_call 15; refine (CallsIn.inRound l (callsIn_wide.2 HID.out)).mono ?_; rintro e w' ⟨rfl, hww⟩; obtain rfl := hww.symm; clear hww) | (refine ⟨trivial, (fun h => by cases h), ?_⟩; gi_at_call 34; refine (CallsIn.inRound l (callsIn_wide.2 HDE.out)).mono ?_; rintro e w7 ⟨hdr, hc7⟩; obtain rfl := HDR.out _ _ hdr; clear hdr; have f2 := Boxed.frozen (show Boxed w7 w.heap.size 26 (.pointer none) from hc7.heap HB2.out (fun x => x)); have f3 := Boxed.frozen (show Boxed w7 (w.heap.size + 1) 27 (.int .i64 0) from hc7.heap HB3.out (fun x => x)); have c2 := Boxed.cell (show Boxed w7 w.heap.size 26 (.pointer none) from hc7.heap HB2.out (fun x => x)); have c3 := Boxed.cell (show Boxed w7 (w.heap.size + 1) 27 (.int .i64 0) from hc7.heap HB3.out (fun x => x)); have hn23 : ¬ w.heap.size = w.heap.size + 1 := (by omega); have hn32 : ¬ w.heap.size + 1 = w.heap.size := (by omega)))
        have E2 : Boxed w7 w.heap.size 26 (.pointer none) := hc7.heap HB2.out (fun x => x)
        have E3 : Boxed w7 (w.heap.size + 1) 27 (.int .i64 0) := hc7.heap HB3.out (fun x => x)
        refine ⟨(((hc7.keepsO).trans (KeepsOthers.setCell _ _ _)).trans (KeepsOthers.setCell _ _ _)).from _, ⟨(E2.set _).other (fun e => hn23 e) _, (E3.other (fun e => hn32 e) _).set _⟩, HOKF.out, ?_⟩
        have hcA : Chg No w W := HC5.out.trans HCH.out (fun i hi e => by rcases e with e | e <;> omega)
        exact (((hcA.no hc7).setCell (p := ⟨w.heap.size, 0, none⟩) (.inl (Nat.le_refl _)) _).setCell (p := ⟨w.heap.size + 1, 0, none⟩) (.inl (by show w.heap.size ≤ w.heap.size + 1; omega)) _)
      | some o =>
        have HDR : Hid (∀ e w', DecR W.heap.size w' e (decF p) → ∃ v, e = .returned (.tuple #[v, .int .i64 0])) := fun e w' h => by
          rw [hdp] at h
          obtain ⟨v, he, -⟩ := (show ∃ v, e = .returned (.tuple #[v, .int .i64 0]) ∧ IsOb w' W.heap.size v o from h)
          exact ⟨v, he⟩
        clear hdp
        gi_wp2_with (first | (refine ⟨trivial, (fun h => by cases h), ?_⟩; gi_at_call 15; refine (CallsIn.inRound l (callsIn_wide.2 HID.out)).mono ?_; rintro e w' ⟨rfl, hww⟩; obtain rfl := hww.symm; clear hww) | (refine ⟨trivial, (fun h => by cases h), ?_⟩; gi_at_call 34; refine (CallsIn.inRound l (callsIn_wide.2 HDE.out)).mono ?_; rintro e w7 ⟨hdr, hc7⟩; obtain ⟨vd, rfl⟩ := HDR.out _ _ hdr; clear hdr; have f2 := Boxed.frozen (show Boxed w7 w.heap.size 26 (.pointer none) from hc7.heap HB2.out (fun x => x)); have f3 := Boxed.frozen (show Boxed w7 (w.heap.size + 1) 27 (.int .i64 0) from hc7.heap HB3.out (fun x => x)); have c2 := Boxed.cell (show Boxed w7 w.heap.size 26 (.pointer none) from hc7.heap HB2.out (fun x => x)); have c3 := Boxed.cell (show Boxed w7 (w.heap.size + 1) 27 (.int .i64 0) from hc7.heap HB3.out (fun x => x)); have hn23 : ¬ w.heap.size = w.heap.size + 1 := (by omega); have hn32 : ¬ w.heap.size + 1 = w.heap.size := (by omega)))
        have E2 : Boxed w7 w.heap.size 26 (.pointer none) := hc7.heap HB2.out (fun x => x)
        have E3 : Boxed w7 (w.heap.size + 1) 27 (.int .i64 0) := hc7.heap HB3.out (fun x => x)
        refine ⟨(((hc7.keepsO).trans (KeepsOthers.setCell _ _ _)).trans (KeepsOthers.setCell _ _ _)).from _, ⟨(E2.set _).other (fun e => hn23 e) _, (E3.other (fun e => hn32 e) _).set _⟩, HOKF.out, ?_⟩
        have hcA : Chg No w W := HC5.out.trans HCH.out (fun i hi e => by rcases e with e | e <;> omega)
        exact (((hcA.no hc7).setCell (p := ⟨w.heap.size, 0, none⟩) (.inl (Nat.le_refl _)) _).setCell (p := ⟨w.heap.size + 1, 0, none⟩) (.inl (by show w.heap.size ≤ w.heap.size + 1; omega)) _)
    | none =>
      have hlk : Sem.run Try.prog (Instr.lookup 89 (.map (some w2.heap.size)) (.int .u64 (ip : Int)) true) W = .ok (.tuple #[.int .i64 0, .bool false]) W := lookI_none W w2.heap.size ip ids hlm hfi
      have HFI := Lib.hid hfi
      clear hfi hlm
      cases hdp : decF p with
      | none =>
        have HOKF : Hid (okF [] ps = false) := HBAD.out (.inl (by rw [hdp]; rfl))
        have HDR : Hid (∀ e w', DecR W.heap.size w' e (decF p) → e = .returned (.tuple #[.nilIface, .int .i64 8])) := fun e w' h => by rw [hdp] at h; exact h
        clear hdp
        gi_wp2_with (first | (refine ⟨trivial, (fun h => by cases h), ?_⟩; gi_at_call 15; refine (CallsIn.inRound l (callsIn_wide.2 HID.out)).mono ?_; rintro e w' ⟨rfl, hww⟩; obtain rfl := hww.symm; clear hww) | (refine ⟨trivial, (fun h => by cases h), ?_⟩; gi_at_call 34; refine (CallsIn.inRound l (callsIn_wide.2 HDE.out)).mono ?_; rintro e w7 ⟨hdr, hc7⟩; obtain rfl := HDR.out _ _ hdr; clear hdr; have f2 := Boxed.frozen (show Boxed w7 w.heap.size 26 (.pointer none) from hc7.heap HB2.out (fun x => x)); have f3 := Boxed.frozen (show Boxed w7 (w.heap.size + 1) 27 (.int .i64 0) from hc7.heap HB3.out (fun x => x)); have c2 := Boxed.cell (show Boxed w7 w.heap.size 26 (.pointer none) from hc7.heap HB2.out (fun x => x)); have c3 := Boxed.cell (show Boxed w7 (w.heap.size + 1) 27 (.int .i64 0) from hc7.heap HB3.out (fun x => x)); have hn23 : ¬ w.heap.size = w.heap.size + 1 := (by omega); have hn32 : ¬ w.heap.size + 1 = w.heap.size := (by omega)))
        have E2 : Boxed w7 w.heap.size 26 (.pointer none) := hc7.heap HB2.out (fun x => x)
        have E3 : Boxed w7 (w.heap.size + 1) 27 (.int .i64 0) := hc7.heap HB3.out (fun x => x)
        refine ⟨(((hc7.keepsO).trans (KeepsOthers.setCell _ _ _)).trans (KeepsOthers.setCell _ _ _)).from _, ⟨(E2.set _).other (fun e => hn23 e) _, (E3.other (fun e => hn32 e) _).set _⟩, HOKF.out, ?_⟩
        have hcA : Chg No w W := HC5.out.trans HCH.out (fun i hi e => by rcases e with e | e <;> omega)
        exact (((hcA.no hc7).setCell (p := ⟨w.heap.size, 0, none⟩) (.inl (Nat.le_refl _)) _).setCell (p := ⟨w.heap.size + 1, 0, none⟩) (.inl (by show w.heap.size ≤ w.heap.size + 1; omega)) _)
      | some o =>
        have HOKT : Hid (okF [] ((pre ++ [(ml, Value.slice A q c, p)]).map (·.2.2)) = true) := by
          show _ = true
          rw [HOKS.out, hdp, HFI.out]; rfl
        have HDR : Hid (∀ e w', DecR W.heap.size w' e (decF p) → ∃ v, e = .returned (.tuple #[v, .int .i64 0])) := fun e w' h => by
          rw [hdp] at h
          obtain ⟨v, he, -⟩ := (show ∃ v, e = .returned (.tuple #[v, .int .i64 0]) ∧ IsOb w' W.heap.size v o from h)
          exact ⟨v, he⟩
        clear hdp
        gi_wp2_with (first | (refine ⟨trivial, (fun h => by cases h), ?_⟩; gi_at_call 15; refine (CallsIn.inRound l (callsIn_wide.2 HID.out)).mono ?_; rintro e w' ⟨rfl, hww⟩; obtain rfl := hww.symm; clear hww) | (refine ⟨trivial, (fun h => by cases h), ?_⟩; gi_at_call 34; refine (CallsIn.inRound l (callsIn_wide.2 HDE.out)).mono ?_; rintro e w7 ⟨hdr, hc7⟩; obtain ⟨vd, rfl⟩ := HDR.out _ _ hdr; have c6 := Boxed.cell (show Boxed w7 (w2.heap.size + 1 + 1) 26 (.pointer (some ⟨w2.heap.size + 1, 0, none⟩)) from hc7.heap HB6.out (fun x => x)); have HNO := Lib.hid (note_calls w7 base (w2.heap.size + 1) w2.heap.size j v ids ip (HSC.out.chg hc7 (fun x => x) (fun x => x) (fun _ _ x => x)) HFI.out (by have := HIDL.out; omega) (by have := hc7.size; omega)); rw [HIDL.out] at HNO; clear hdr) | (refine ⟨trivial, (fun h => by cases h), ?_⟩; gi_at_call 35; refine (CallsIn.inRound l (callsIn_wide.2 HNO.out)).mono ?_; rintro e w8 ⟨rfl, v8, hsc8, hc8, hf8⟩))
        have hs7 := hc7.size
        have hcw8 : Chg (fun i => i = w2.heap.size + 1 ∨ i = w2.heap.size) W5 w8 := (HCH.out.no hc7).trans hc8 (fun i hi e => by
          rcases e with e | e | e
          · exact .inl e
          · exact .inr e
          · have := HVB.out i e; omega)
        have hkf : KeepsFrom W5.heap.size W w8 := ((hc7.keepsO).from _).trans (keepsFrom_note hc8 (HSC.out.chg hc7 (fun x => x) (fun x => x) (fun _ _ x => x)).2.2.1 (by omega) (by omega))
        refine ⟨hkf, ⟨?_, ?_⟩, ⟨⟨⟨v8, by rw [HIDN.out]; exact hsc8, fun b hb => ?_⟩, HOKT.out⟩, hcw8⟩⟩
        · have hc78 : Chg (fun k => k = w2.heap.size + 1 ∨ k = w2.heap.size ∨ v.ownBlock = some k) W w8 := (hc7.mono (fun i _ x => x.elim)).trans hc8 (fun i _ x => x)
          exact ⟨hc78.os, hc78.tape, hc78.output, hc78.size, fun k hk => hc78.block k (by omega) (fun e => by
            rcases e with e | e | e
            · omega
            · omega
            · have := HVB.out k e; omega)⟩
        · intro x
          refine hc8.heap (hc7.heap x (fun x => x)) (fun e => ?_)
          rcases e with e | e | e
          · omega
          · omega
          · have := HVB.out _ e; omega
        · rcases hf8 b hb with e | e
          · exact HVB.out b e
          · omega
  case done =>
    rintro D xs W hD hxs ⟨⟨⟨v, hsc, hvb⟩, hok⟩, hI⟩ hK
    rw [hxs] at hok
    have HIDE : Hid ((xs.map fun x => idF x.2.2) = ps.map idF) := by rw [Hid, ← hxs, List.map_map]; rfl
    rw [HIDE.out] at hsc
    have b2 : Boxed W w.heap.size 26 (.pointer none) := hI.heap hB25 (fun e => by rcases e with e | e <;> omega)
    have b3 : Boxed W (w.heap.size + 1) 27 (.int .i64 0) := hI.heap hB35 (fun e => by rcases e with e | e <;> omega)
    have b6 : Boxed W (w2.heap.size + 1 + 1) 26 (.pointer (some ⟨w2.heap.size + 1, 0, none⟩)) := hI.heap g65 (fun e => by rcases e with e | e <;> omega)
    have HJW := Lib.hid (HJ5.out.chg hI (fun i hi e => by have := hSJ.out i hi; rcases e with e | e <;> omega))
    have HCW : Hid (Chg No w W) := HC5.out.trans hI (fun i hi e => by rcases e with e | e <;> omega)
    obtain ⟨A, c, rfl⟩ := hsc.form
    have HLM : Hid ((ps.map idF).length = ps.length) := List.length_map _
    have c6 := b6.cell
    obtain ⟨e0, e1, e2⟩ := cells3 hsc.1
    have HSC := Lib.hid hsc
    have HVB := Lib.hid hvb
    rw [HLM.out] at e2
    have f2 := b2.frozen
    have f3 := b3.frozen
    have c2 := b2.cell
    have c3 := b3.cell
    have hn23 : ¬ w.heap.size = w.heap.size + 1 := by omega
    have hn32 : ¬ w.heap.size + 1 = w.heap.size := by omega
    have hn62 : ¬ w2.heap.size + 1 + 1 = w.heap.size := by omega
    have hle : ¬ (65536 : Int) < (ps.length : Int) := by omega
    have HB2 := Lib.hid b2
    have HB3 := Lib.hid b3
    have HKD := Lib.hid hK
    have hzw := hI.size
    have HOK := Lib.hid hok
    clear b2 b3 b6 hK hI hsc hvb hok hxs
    gi_wp2
    have hns : ¬ w2.heap.size + 1 = w.heap.size := by omega
    obtain ⟨W9, hW9⟩ : ∃ W9, W9 = ((W.setCell ⟨w.heap.size, 0, none⟩ (.pointer (some ⟨w2.heap.size + 1, 0, none⟩))).setCell ⟨w.heap.size + 1, 0, none⟩ (.int .i64 0)) := ⟨_, rfl⟩
    rw [← hW9]
    have hc9 : Chg (fun i => i = w.heap.size ∨ i = w.heap.size + 1) W W9 := by
      rw [hW9]
      exact ((Chg.refl (fun i => i = w.heap.size ∨ i = w.heap.size + 1) W).setCell (p := ⟨w.heap.size, 0, none⟩) (.inr (.inl rfl)) _).setCell (p := ⟨w.heap.size + 1, 0, none⟩) (.inr (.inr rfl)) _
    have E2 : Boxed W9 w.heap.size 26 (.pointer (some ⟨w2.heap.size + 1, 0, none⟩)) := by
      rw [hW9]; exact (Chg.put _ (w.heap.size + 1) 0 _).heap (HB2.out.set _) (fun e => hn23 e)
    have E3 : Boxed W9 (w.heap.size + 1) 27 (.int .i64 0) := by
      rw [hW9]
      have h3 : Boxed (W.setCell ⟨w.heap.size, 0, none⟩ (.pointer (some ⟨w2.heap.size + 1, 0, none⟩))) (w.heap.size + 1) 27 (.int .i64 0) := (Chg.put W w.heap.size 0 _).heap HB3.out (fun e => hn32 e)
      exact h3.set _
    have k9 : W9.heap[D]? = some (.deferred (some [])) := hc9.heap HKD.out (fun e => by rcases e with e | e <;> omega)
    have hg9 := grownBy_putObj' W9 D (.deferred none)
    have hk9 : ∀ r, some D = some r → ∃ o : Obj, W9.heap[r]? = some o ∧ o.isCells = false := fun r e => by cases e; exact ⟨_, k9, rfl⟩
    have d2 := cell_kept E2.cell hg9 hk9
    have d3 := cell_kept E3.cell hg9 hk9
    have hcp : Chg (fun i => i = w.heap.size ∨ i = w.heap.size + 1 ∨ i = D) W (W9.putObj D (.deferred none)) :=
      (hc9.mono (S' := fun i => i = w.heap.size ∨ i = w.heap.size + 1 ∨ i = D) (fun i _ h => by rcases h with h | h; exact .inl h; exact .inr (.inl h))).grown hg9 (fun k e => .inr (.inr (.inr (Option.some.inj e).symm)))
    have hJ9 : JD (W9.putObj D (.deferred none)) SJ base j d m nw objK th ps := HJW.out.chg hcp (fun i hi e => by
      have h1 := HWH.out i hi
      have h2 := hSJ.out i hi
      rcases e with e | e | e <;> omega)
    refine ⟨by simp, .inl ⟨_, _, rfl, run_takeDeferred k9, ?_⟩⟩
    refine ⟨.tuple #[.pointer (some ⟨w2.heap.size + 1, 0, none⟩), .int .i64 0], ?_, ⟨fun _ => ⟨w2.heap.size + 1, w2.heap.size, j, fun i => SJ i ∨ i = w2.heap.size ∨ i = w2.heap.size + 1 ∨ (Value.slice A (ps.map idF).length c).ownBlock = some i, rfl, ?_, ?_⟩, fun h => (by rw [HOK.out] at h; cases h)⟩, ?_⟩
    · simp [results, Try.f10, go_sem, d2, d3]
    · refine ⟨.slice A (ps.map idF).length c, SJ, HSC.out.chg hcp (fun e => by rcases e with e | e | e <;> omega) (fun e => by rcases e with e | e | e <;> omega) (fun b hb e => by
        have h5 := HVB.out b hb
        rcases e with e | e | rfl
        · omega
        · omega
        · obtain ⟨cc, fz, hcc⟩ := ownsRow_cells HSC.out.2.2.1 _ hb
          rw [HKD.out] at hcc; cases hcc), hJ9, fun i hi => ?_, .inr (.inr (.inl rfl)), .inr (.inl rfl), (fun b hb => .inr (.inr (.inr hb))), fun i hi => ?_, ?_⟩
      · have := hSJ.out i hi
        exact ⟨.inl hi, by omega, by omega, fun h => by have := HVB.out i h; omega⟩
      · have hz := hcp.size
        rcases hi with hi | rfl | rfl | hi
        · have := hJ9.lt i hi
          exact this
        · exact ⟨by omega, by omega⟩
        · exact ⟨by omega, by omega⟩
        · obtain ⟨cc, fz, hcc⟩ := ownsRow_cells HSC.out.2.2.1 _ hi
          have := (Array.getElem?_eq_some_iff.1 hcc).1
          have := HVB.out i hi
          exact ⟨by omega, by omega⟩
      · have hz := hcp.size
        omega
    · intro i hi
      rcases hi with hi | rfl | rfl | hi
      · exact HWH2.out i hi
      · right; omega
      · right; omega
      · right; have := HVB.out i hi; omega
    · exact HCW.out.trans hcp (fun i hi e => by rcases e with e | e | e <;> omega)
theorem sopen_any (w : World) (S : Nat → Prop) (base j0 d m nw : Nat) (th : Bool) (ps : List (List UInt8)) (h : JD w S base j0 d m nw objK th ps) (hps : ∀ p ∈ ps, p.length ≤ 262144) (hen : (encF ps).length ≤ 4194304) (hfew : ps.length ≤ 65536) (hw : nw < 9223372036850000000) :
    Calls Try.prog 10 #[.pointer (some ⟨d, 0, none⟩)] w fun e W' => SOpenR w S base d m nw th ps e W' ∧ Chg No w W' :=
  callsIn_wide.1 (sopen_any_core 3 (Nat.le_refl _) w S base j0 d m nw th ps h hps hen hfew hw)
end Go.Proofs.Ytccphnkdnifpfaa

namespace Go.Proofs.Ytccphnkdnifpfaa
set_option linter.unnecessarySimpa false
open Go.RowKit Go.Shelf
set_option linter.unusedVariables false
set_option linter.unusedSimpArgs false
set_option maxRecDepth 100000

def kindE : Bool → Int
  | true => 0
  | false => 170
def isTree : Ob → Bool
  | .tree _ => true
  | _ => false
def isCommit : Ob → Bool
  | .commit .. => true
  | _ => false
theorem cells5s {w : World} {g : Nat} {a b c d e : Value} {t : TypeId} (h : w.heap[g]? = some (.cells #[a, b, c, d, e] t (0, 0))) : w.cell? ⟨g, 0, none⟩ = some a ∧ w.cell? ⟨g, 1, none⟩ = some b ∧ w.cell? ⟨g, 2, none⟩ = some c ∧ w.cell? ⟨g, 3, none⟩ = some d ∧ w.cell? ⟨g, 4, none⟩ = some e :=
  ⟨cellAt h 0 _ rfl, cellAt h 1 _ rfl, cellAt h 2 _ rfl, cellAt h 3 _ rfl, cellAt h 4 _ rfl⟩
theorem ta_obT (w : World) (base : Nat) (v : Value) (o : Ob) (h : IsOb w base v o) : ∃ A n c, ∀ w, Sem.run Try.prog (Instr.typeAssert v 38 55 true) w = .ok (.tuple #[.agg #[.slice A n c], .bool (isTree o)]) w := by
  cases o with
  | blob l =>
    obtain ⟨s, rfl, h⟩ := h
    exact ⟨_, _, _, fun w => ta_blob_tree w _⟩
  | tree l =>
    obtain ⟨s, rfl, h⟩ := h
    obtain ⟨A, c, rfl⟩ := ownsRow_form h
    exact ⟨A, _, c, fun w => ta_tree_tree w _⟩
  | commit t ps a d x =>
    obtain ⟨s, rfl, h⟩ := h
    exact ⟨_, _, _, fun w => ta_commit_tree w _⟩
theorem ta_obC (w : World) (base : Nat) (v : Value) (o : Ob) (h : IsOb w base v o) : ∃ (T : Int) (A : Option Addr) (n c : Nat) (a : ByteArray) (D : Int) (x : ByteArray), ∀ w, Sem.run Try.prog (Instr.typeAssert v 38 44 true) w = .ok (.tuple #[.agg #[.int .u64 T, .slice A n c, .string a, .int .i64 D, .string x], .bool (isCommit o)]) w := by
  cases o with
  | blob l =>
    obtain ⟨s, rfl, h⟩ := h
    exact ⟨_, _, _, _, _, _, _, fun w => ta_blob_commit w _⟩
  | tree l =>
    obtain ⟨s, rfl, h⟩ := h
    exact ⟨_, _, _, _, _, _, _, fun w => ta_tree_commit w _⟩
  | commit t ps a d x =>
    obtain ⟨s, rfl, h⟩ := h
    obtain ⟨A, c, rfl⟩ := ownsRow_form h
    exact ⟨_, A, _, c, _, _, _, fun w => ta_commit_commit w _⟩
set_option maxHeartbeats 3200000 in
theorem blob_any (w : World) (S : Nat → Prop) (base s mp j d m wr : Nat) (th : Bool) (ps : List (List UInt8)) (h : SD w S base s mp j d m wr th ps) (hn : (encF ps).length ≤ 4194304) (i q : Nat) (hq : findI i (ps.map idF) = some q) (hlen : (ps.getD q []).length ≤ 1000000) (o : Ob) (hdec : decF (ps.getD q []) = some o) :
    Calls Try.prog 16 #[.pointer (some ⟨s, 0, none⟩), .int .u64 (i : Int)] w fun e w' => (∃ A2 n2 c2, e = .returned (.tuple #[.agg #[.slice A2 n2 c2], .int .i64 (kindE (isBlob o))])) ∧ Chg No w w' := by
  have X1 := (Chg.refl No w).alloc (.cells #[.slice none 0 0] 36)
  have HG := Lib.hid (get_some _ S base s mp j d m wr th ps (h.no X1) hn i q hq hlen _ hdec)
  have HB4 := Lib.hid (heap_alloc_new w (.cells #[.slice none 0 0] 36))
  have HX1 := Lib.hid X1
  clear h hq hdec X1
  cases hB : isBlob o
  · have HB := Lib.hid hB
    clear hB
    go_enter Try.func16, Try.ntmps16
    go_wp2_with fail
    refine HG.out.mono ?_
    rintro e w1 ⟨⟨v1, b1, rfl, hob, hb1⟩, hc1⟩
    obtain ⟨A2, n2, c2, hta⟩ := ta_ob w1 b1 v1 o hob
    rw [HB.out] at hta
    have HC1 := Lib.hid (HX1.out.no hc1)
    have hb4 : w1.heap[w.heap.size]? = some (.cells #[.slice none 0 0] 36) := hc1.heap HB4.out (fun x => x)
    have hlt := (Array.getElem?_eq_some_iff.1 hb4).1
    have hne : ¬ w.heap.size = w1.heap.size := by omega
    have hb4' : ∀ o, (w1.alloc o).heap[w.heap.size]? = some (.cells #[.slice none 0 0] 36 (0, 0)) := fun o => ((Chg.refl No w1).alloc o).heap hb4 (fun x => x)
    have c4 := Boxed.cell (show Boxed w1 w.heap.size 36 (.slice none 0 0) from hb4)
    have f4 := Boxed.frozen (show Boxed w1 w.heap.size 36 (.slice none 0 0) from hb4)
    have c4' : ∀ o, (w1.alloc o).cell? ⟨w.heap.size, 0, none⟩ = some (.slice none 0 0) := fun o => Boxed.cell (show Boxed (w1.alloc o) w.heap.size 36 (.slice none 0 0) from hb4' o)
    have f4' : ∀ o, (w1.alloc o).frozen? ⟨w.heap.size, 0, none⟩ = false := fun o => Boxed.frozen (show Boxed (w1.alloc o) w.heap.size 36 (.slice none 0 0) from hb4' o)
    have HB41 : Hid (Boxed w1 w.heap.size 36 (.slice none 0 0)) := hb4
    have HB42 : Hid (∀ o, Boxed (w1.alloc o) w.heap.size 36 (.slice none 0 0)) := hb4'
    clear hb4 hb4' hob hc1 HG HB4 hb1
    go_wp2
    have e4 := fun o => ((HB42.out o).set (.slice none 0 0)).cell
    have e5 := fun o => (((show Boxed w1 w.heap.size 36 (.slice none 0 0) from HB41.out).set (.slice none 0 0)).alloc o).cell
    first
      | exact bodyPost_ret (v := .tuple #[.agg #[.slice none 0 0], .int .i64 170]) (by simp [results, Try.f16, go_sem, e4]) rfl ⟨⟨none, 0, 0, rfl⟩, (HC1.out.alloc _).setCell (p := ⟨w.heap.size, 0, none⟩) (.inl (Nat.le_refl _)) _⟩
      | exact bodyPost_ret (v := .tuple #[.agg #[.slice none 0 0], .int .i64 170]) (by simp [results, Try.f16, go_sem, e5]) rfl ⟨⟨none, 0, 0, rfl⟩, (HC1.out.setCell (p := ⟨w.heap.size, 0, none⟩) (.inl (Nat.le_refl _)) _).alloc _⟩
  · have HB := Lib.hid hB
    clear hB
    go_enter Try.func16, Try.ntmps16
    go_wp2_with fail
    refine HG.out.mono ?_
    rintro e w1 ⟨⟨v1, b1, rfl, hob, hb1⟩, hc1⟩
    obtain ⟨A2, n2, c2, hta⟩ := ta_ob w1 b1 v1 o hob
    rw [HB.out] at hta
    have HC1 := Lib.hid (HX1.out.no hc1)
    have hb4 : w1.heap[w.heap.size]? = some (.cells #[.slice none 0 0] 36) := hc1.heap HB4.out (fun x => x)
    have hlt := (Array.getElem?_eq_some_iff.1 hb4).1
    have hne : ¬ w.heap.size = w1.heap.size := by omega
    have hb4' : ∀ o, (w1.alloc o).heap[w.heap.size]? = some (.cells #[.slice none 0 0] 36 (0, 0)) := fun o => ((Chg.refl No w1).alloc o).heap hb4 (fun x => x)
    have c4 := Boxed.cell (show Boxed w1 w.heap.size 36 (.slice none 0 0) from hb4)
    have f4 := Boxed.frozen (show Boxed w1 w.heap.size 36 (.slice none 0 0) from hb4)
    have c4' : ∀ o, (w1.alloc o).cell? ⟨w.heap.size, 0, none⟩ = some (.slice none 0 0) := fun o => Boxed.cell (show Boxed (w1.alloc o) w.heap.size 36 (.slice none 0 0) from hb4' o)
    have f4' : ∀ o, (w1.alloc o).frozen? ⟨w.heap.size, 0, none⟩ = false := fun o => Boxed.frozen (show Boxed (w1.alloc o) w.heap.size 36 (.slice none 0 0) from hb4' o)
    have HB41 : Hid (Boxed w1 w.heap.size 36 (.slice none 0 0)) := hb4
    have HB42 : Hid (∀ o, Boxed (w1.alloc o) w.heap.size 36 (.slice none 0 0)) := hb4'
    clear hb4 hb4' hob hc1 HG HB4 hb1
    go_wp2
    have e4 := fun o => ((HB42.out o).set (.slice A2 n2 c2)).cell
    have e5 := fun o => (((show Boxed w1 w.heap.size 36 (.slice none 0 0) from HB41.out).set (.slice A2 n2 c2)).alloc o).cell
    first
      | exact bodyPost_ret (v := .tuple #[.agg #[.slice A2 n2 c2], .int .i64 0]) (by simp [results, Try.f16, go_sem, e4]) rfl ⟨⟨A2, n2, c2, rfl⟩, (HC1.out.alloc _).setCell (p := ⟨w.heap.size, 0, none⟩) (.inl (Nat.le_refl _)) _⟩
      | exact bodyPost_ret (v := .tuple #[.agg #[.slice A2 n2 c2], .int .i64 0]) (by simp [results, Try.f16, go_sem, e5]) rfl ⟨⟨A2, n2, c2, rfl⟩, (HC1.out.setCell (p := ⟨w.heap.size, 0, none⟩) (.inl (Nat.le_refl _)) _).alloc _⟩
set_option maxHeartbeats 3200000 in
theorem tree_any (w : World) (S : Nat → Prop) (base s mp j d m wr : Nat) (th : Bool) (ps : List (List UInt8)) (h : SD w S base s mp j d m wr th ps) (hn : (encF ps).length ≤ 4194304) (i q : Nat) (hq : findI i (ps.map idF) = some q) (hlen : (ps.getD q []).length ≤ 1000000) (o : Ob) (hdec : decF (ps.getD q []) = some o) :
    Calls Try.prog 17 #[.pointer (some ⟨s, 0, none⟩), .int .u64 (i : Int)] w fun e w' => (∃ A2 n2 c2, e = .returned (.tuple #[.agg #[.slice A2 n2 c2], .int .i64 (kindE (isTree o))])) ∧ Chg No w w' := by
  have X1 := (Chg.refl No w).alloc (.cells #[.slice none 0 0] 55)
  have HG := Lib.hid (get_some _ S base s mp j d m wr th ps (h.no X1) hn i q hq hlen _ hdec)
  have HB4 := Lib.hid (heap_alloc_new w (.cells #[.slice none 0 0] 55))
  have HX1 := Lib.hid X1
  clear h hq hdec X1
  cases hB : isTree o
  · have HB := Lib.hid hB
    clear hB
    go_enter Try.func17, Try.ntmps17
    go_wp2_with fail
    refine HG.out.mono ?_
    rintro e w1 ⟨⟨v1, b1, rfl, hob, hb1⟩, hc1⟩
    obtain ⟨A2, n2, c2, hta⟩ := ta_obT w1 b1 v1 o hob
    rw [HB.out] at hta
    have HC1 := Lib.hid (HX1.out.no hc1)
    have hb4 : w1.heap[w.heap.size]? = some (.cells #[.slice none 0 0] 55) := hc1.heap HB4.out (fun x => x)
    have hlt := (Array.getElem?_eq_some_iff.1 hb4).1
    have hne : ¬ w.heap.size = w1.heap.size := by omega
    have hb4' : ∀ o, (w1.alloc o).heap[w.heap.size]? = some (.cells #[.slice none 0 0] 55 (0, 0)) := fun o => ((Chg.refl No w1).alloc o).heap hb4 (fun x => x)
    have c4 := Boxed.cell (show Boxed w1 w.heap.size 55 (.slice none 0 0) from hb4)
    have f4 := Boxed.frozen (show Boxed w1 w.heap.size 55 (.slice none 0 0) from hb4)
    have c4' : ∀ o, (w1.alloc o).cell? ⟨w.heap.size, 0, none⟩ = some (.slice none 0 0) := fun o => Boxed.cell (show Boxed (w1.alloc o) w.heap.size 55 (.slice none 0 0) from hb4' o)
    have f4' : ∀ o, (w1.alloc o).frozen? ⟨w.heap.size, 0, none⟩ = false := fun o => Boxed.frozen (show Boxed (w1.alloc o) w.heap.size 55 (.slice none 0 0) from hb4' o)
    have HB41 : Hid (Boxed w1 w.heap.size 55 (.slice none 0 0)) := hb4
    have HB42 : Hid (∀ o, Boxed (w1.alloc o) w.heap.size 55 (.slice none 0 0)) := hb4'
    clear hb4 hb4' hob hc1 HG HB4 hb1
    go_wp2
    have e4 := fun o => ((HB42.out o).set (.slice none 0 0)).cell
    have e5 := fun o => (((show Boxed w1 w.heap.size 55 (.slice none 0 0) from HB41.out).set (.slice none 0 0)).alloc o).cell
    first
      | exact bodyPost_ret (v := .tuple #[.agg #[.slice none 0 0], .int .i64 170]) (by simp [results, Try.f17, go_sem, e4]) rfl ⟨⟨none, 0, 0, rfl⟩, (HC1.out.alloc _).setCell (p := ⟨w.heap.size, 0, none⟩) (.inl (Nat.le_refl _)) _⟩
      | exact bodyPost_ret (v := .tuple #[.agg #[.slice none 0 0], .int .i64 170]) (by simp [results, Try.f17, go_sem, e5]) rfl ⟨⟨none, 0, 0, rfl⟩, (HC1.out.setCell (p := ⟨w.heap.size, 0, none⟩) (.inl (Nat.le_refl _)) _).alloc _⟩
  · have HB := Lib.hid hB
    clear hB
    go_enter Try.func17, Try.ntmps17
    go_wp2_with fail
    refine HG.out.mono ?_
    rintro e w1 ⟨⟨v1, b1, rfl, hob, hb1⟩, hc1⟩
    obtain ⟨A2, n2, c2, hta⟩ := ta_obT w1 b1 v1 o hob
    rw [HB.out] at hta
    have HC1 := Lib.hid (HX1.out.no hc1)
    have hb4 : w1.heap[w.heap.size]? = some (.cells #[.slice none 0 0] 55) := hc1.heap HB4.out (fun x => x)
    have hlt := (Array.getElem?_eq_some_iff.1 hb4).1
    have hne : ¬ w.heap.size = w1.heap.size := by omega
    have hb4' : ∀ o, (w1.alloc o).heap[w.heap.size]? = some (.cells #[.slice none 0 0] 55 (0, 0)) := fun o => ((Chg.refl No w1).alloc o).heap hb4 (fun x => x)
    have c4 := Boxed.cell (show Boxed w1 w.heap.size 55 (.slice none 0 0) from hb4)
    have f4 := Boxed.frozen (show Boxed w1 w.heap.size 55 (.slice none 0 0) from hb4)
    have c4' : ∀ o, (w1.alloc o).cell? ⟨w.heap.size, 0, none⟩ = some (.slice none 0 0) := fun o => Boxed.cell (show Boxed (w1.alloc o) w.heap.size 55 (.slice none 0 0) from hb4' o)
    have f4' : ∀ o, (w1.alloc o).frozen? ⟨w.heap.size, 0, none⟩ = false := fun o => Boxed.frozen (show Boxed (w1.alloc o) w.heap.size 55 (.slice none 0 0) from hb4' o)
    have HB41 : Hid (Boxed w1 w.heap.size 55 (.slice none 0 0)) := hb4
    have HB42 : Hid (∀ o, Boxed (w1.alloc o) w.heap.size 55 (.slice none 0 0)) := hb4'
    clear hb4 hb4' hob hc1 HG HB4 hb1
    go_wp2
    have e4 := fun o => ((HB42.out o).set (.slice A2 n2 c2)).cell
    have e5 := fun o => (((show Boxed w1 w.heap.size 55 (.slice none 0 0) from HB41.out).set (.slice A2 n2 c2)).alloc o).cell
    first
      | exact bodyPost_ret (v := .tuple #[.agg #[.slice A2 n2 c2], .int .i64 0]) (by simp [results, Try.f17, go_sem, e4]) rfl ⟨⟨A2, n2, c2, rfl⟩, (HC1.out.alloc _).setCell (p := ⟨w.heap.size, 0, none⟩) (.inl (Nat.le_refl _)) _⟩
      | exact bodyPost_ret (v := .tuple #[.agg #[.slice A2 n2 c2], .int .i64 0]) (by simp [results, Try.f17, go_sem, e5]) rfl ⟨⟨A2, n2, c2, rfl⟩, (HC1.out.setCell (p := ⟨w.heap.size, 0, none⟩) (.inl (Nat.le_refl _)) _).alloc _⟩
set_option maxHeartbeats 3200000 in
theorem commit_any (w : World) (S : Nat → Prop) (base s mp j d m wr : Nat) (th : Bool) (ps : List (List UInt8)) (h : SD w S base s mp j d m wr th ps) (hn : (encF ps).length ≤ 4194304) (i q : Nat) (hq : findI i (ps.map idF) = some q) (hlen : (ps.getD q []).length ≤ 1000000) (o : Ob) (hdec : decF (ps.getD q []) = some o) :
    Calls Try.prog 18 #[.pointer (some ⟨s, 0, none⟩), .int .u64 (i : Int)] w fun e w' => (∃ T2 A2 n2 c2 a2 D2 x2, e = .returned (.tuple #[.agg #[.int .u64 T2, .slice A2 n2 c2, .string a2, .int .i64 D2, .string x2], .int .i64 (kindE (isCommit o))])) ∧ Chg No w w' := by
  have X1 := (Chg.refl No w).alloc (.cells #[.int .u64 0, .slice none 0 0, .string ⟨#[]⟩, .int .i64 0, .string ⟨#[]⟩] 44)
  have HG := Lib.hid (get_some _ S base s mp j d m wr th ps (h.no X1) hn i q hq hlen _ hdec)
  have HB4 := Lib.hid (heap_alloc_new w (.cells #[.int .u64 0, .slice none 0 0, .string ⟨#[]⟩, .int .i64 0, .string ⟨#[]⟩] 44))
  have HX1 := Lib.hid X1
  clear h hq hdec X1
  cases hB : isCommit o
  · have HB := Lib.hid hB
    clear hB
    go_enter Try.func18, Try.ntmps18
    go_wp2_with fail
    refine HG.out.mono ?_
    rintro e w1 ⟨⟨v1, b1, rfl, hob, hb1⟩, hc1⟩
    obtain ⟨T2, A2, n2, c2, a2, D2, x2, hta⟩ := ta_obC w1 b1 v1 o hob
    rw [HB.out] at hta
    have HC1 := Lib.hid (HX1.out.no hc1)
    have hb4 : w1.heap[w.heap.size]? = some (.cells #[.int .u64 0, .slice none 0 0, .string ⟨#[]⟩, .int .i64 0, .string ⟨#[]⟩] 44) := hc1.heap HB4.out (fun x => x)
    have hlt := (Array.getElem?_eq_some_iff.1 hb4).1
    have hne : ¬ w.heap.size = w1.heap.size := by omega
    have hb4' : ∀ o, (w1.alloc o).heap[w.heap.size]? = some (.cells #[.int .u64 0, .slice none 0 0, .string ⟨#[]⟩, .int .i64 0, .string ⟨#[]⟩] 44 (0, 0)) := fun o => ((Chg.refl No w1).alloc o).heap hb4 (fun x => x)
    have HCH : Hid (∀ o v0 v1 v2 v3 v4, Chg No w ((((((w1.setCell ⟨w.heap.size, 0, none⟩ v0).setCell ⟨w.heap.size, 1, none⟩ v1).setCell ⟨w.heap.size, 2, none⟩ v2).setCell ⟨w.heap.size, 3, none⟩ v3).setCell ⟨w.heap.size, 4, none⟩ v4).alloc o)) := fun o v0 v1 v2 v3 v4 => (((((HC1.out.setCell (.inl (Nat.le_refl _)) _).setCell (.inl (Nat.le_refl _)) _).setCell (.inl (Nat.le_refl _)) _).setCell (.inl (Nat.le_refl _)) _).setCell (.inl (Nat.le_refl _)) _).alloc o
    have HZZ : Hid (∀ o v0 v1 v2 v3 v4, ((((((w1.setCell ⟨w.heap.size, 0, none⟩ v0).setCell ⟨w.heap.size, 1, none⟩ v1).setCell ⟨w.heap.size, 2, none⟩ v2).setCell ⟨w.heap.size, 3, none⟩ v3).setCell ⟨w.heap.size, 4, none⟩ v4).alloc o).heap[w.heap.size]? = some (.cells #[v0, v1, v2, v3, v4] 44 (0, 0))) := fun o v0 v1 v2 v3 v4 => by
      have h5 := heap_set (heap_set (heap_set (heap_set (heap_set hb4 0 v0) 1 v1) 2 v2) 3 v3) 4 v4
      exact ((Chg.refl No _).alloc o).heap h5 (fun x => x)
    have kk1 := cells5s (show w1.heap[w.heap.size]? = some (.cells #[.int .u64 0, .slice none 0 0, .string ⟨#[]⟩, .int .i64 0, .string ⟨#[]⟩] 44 (0, 0)) from hb4)
    obtain ⟨e0, e1, e2, e3, e4⟩ := kk1
    have h0 := frzAt (show w1.heap[w.heap.size]? = some (.cells #[.int .u64 0, .slice none 0 0, .string ⟨#[]⟩, .int .i64 0, .string ⟨#[]⟩] 44 (0, 0)) from hb4) 0
    have h1 := frzAt (show w1.heap[w.heap.size]? = some (.cells #[.int .u64 0, .slice none 0 0, .string ⟨#[]⟩, .int .i64 0, .string ⟨#[]⟩] 44 (0, 0)) from hb4) 1
    have h2 := frzAt (show w1.heap[w.heap.size]? = some (.cells #[.int .u64 0, .slice none 0 0, .string ⟨#[]⟩, .int .i64 0, .string ⟨#[]⟩] 44 (0, 0)) from hb4) 2
    have h3 := frzAt (show w1.heap[w.heap.size]? = some (.cells #[.int .u64 0, .slice none 0 0, .string ⟨#[]⟩, .int .i64 0, .string ⟨#[]⟩] 44 (0, 0)) from hb4) 3
    have h4 := frzAt (show w1.heap[w.heap.size]? = some (.cells #[.int .u64 0, .slice none 0 0, .string ⟨#[]⟩, .int .i64 0, .string ⟨#[]⟩] 44 (0, 0)) from hb4) 4
    clear hb4 hb4' hob hc1 HG HB4 hb1
    go_wp2
    exact bodyPost_ret (v := .tuple #[.agg #[.int .u64 0, .slice none 0 0, .string ⟨#[]⟩, .int .i64 0, .string ⟨#[]⟩], .int .i64 170]) (by obtain ⟨z0, z1, z2, z3, z4⟩ := cells5s (HZZ.out (.cells #[.int .u64 T2, .slice A2 n2 c2, .string a2, .int .i64 D2, .string x2] 44) (.int .u64 0) (.slice none 0 0) (.string ⟨#[]⟩) (.int .i64 0) (.string ⟨#[]⟩)); simp [results, Try.f18, go_sem, z0, z1, z2, z3, z4]) rfl ⟨⟨0, none, 0, 0, ⟨#[]⟩, 0, ⟨#[]⟩, rfl⟩, HCH.out _ _ _ _ _ _⟩
  · have HB := Lib.hid hB
    clear hB
    go_enter Try.func18, Try.ntmps18
    go_wp2_with fail
    refine HG.out.mono ?_
    rintro e w1 ⟨⟨v1, b1, rfl, hob, hb1⟩, hc1⟩
    obtain ⟨T2, A2, n2, c2, a2, D2, x2, hta⟩ := ta_obC w1 b1 v1 o hob
    rw [HB.out] at hta
    have HC1 := Lib.hid (HX1.out.no hc1)
    have hb4 : w1.heap[w.heap.size]? = some (.cells #[.int .u64 0, .slice none 0 0, .string ⟨#[]⟩, .int .i64 0, .string ⟨#[]⟩] 44) := hc1.heap HB4.out (fun x => x)
    have hlt := (Array.getElem?_eq_some_iff.1 hb4).1
    have hne : ¬ w.heap.size = w1.heap.size := by omega
    have hb4' : ∀ o, (w1.alloc o).heap[w.heap.size]? = some (.cells #[.int .u64 0, .slice none 0 0, .string ⟨#[]⟩, .int .i64 0, .string ⟨#[]⟩] 44 (0, 0)) := fun o => ((Chg.refl No w1).alloc o).heap hb4 (fun x => x)
    have HCH : Hid (∀ o v0 v1 v2 v3 v4, Chg No w ((((((w1.setCell ⟨w.heap.size, 0, none⟩ v0).setCell ⟨w.heap.size, 1, none⟩ v1).setCell ⟨w.heap.size, 2, none⟩ v2).setCell ⟨w.heap.size, 3, none⟩ v3).setCell ⟨w.heap.size, 4, none⟩ v4).alloc o)) := fun o v0 v1 v2 v3 v4 => (((((HC1.out.setCell (.inl (Nat.le_refl _)) _).setCell (.inl (Nat.le_refl _)) _).setCell (.inl (Nat.le_refl _)) _).setCell (.inl (Nat.le_refl _)) _).setCell (.inl (Nat.le_refl _)) _).alloc o
    have HZZ : Hid (∀ o v0 v1 v2 v3 v4, ((((((w1.setCell ⟨w.heap.size, 0, none⟩ v0).setCell ⟨w.heap.size, 1, none⟩ v1).setCell ⟨w.heap.size, 2, none⟩ v2).setCell ⟨w.heap.size, 3, none⟩ v3).setCell ⟨w.heap.size, 4, none⟩ v4).alloc o).heap[w.heap.size]? = some (.cells #[v0, v1, v2, v3, v4] 44 (0, 0))) := fun o v0 v1 v2 v3 v4 => by
      have h5 := heap_set (heap_set (heap_set (heap_set (heap_set hb4 0 v0) 1 v1) 2 v2) 3 v3) 4 v4
      exact ((Chg.refl No _).alloc o).heap h5 (fun x => x)
    have kk1 := cells5s (show w1.heap[w.heap.size]? = some (.cells #[.int .u64 0, .slice none 0 0, .string ⟨#[]⟩, .int .i64 0, .string ⟨#[]⟩] 44 (0, 0)) from hb4)
    obtain ⟨e0, e1, e2, e3, e4⟩ := kk1
    have h0 := frzAt (show w1.heap[w.heap.size]? = some (.cells #[.int .u64 0, .slice none 0 0, .string ⟨#[]⟩, .int .i64 0, .string ⟨#[]⟩] 44 (0, 0)) from hb4) 0
    have h1 := frzAt (show w1.heap[w.heap.size]? = some (.cells #[.int .u64 0, .slice none 0 0, .string ⟨#[]⟩, .int .i64 0, .string ⟨#[]⟩] 44 (0, 0)) from hb4) 1
    have h2 := frzAt (show w1.heap[w.heap.size]? = some (.cells #[.int .u64 0, .slice none 0 0, .string ⟨#[]⟩, .int .i64 0, .string ⟨#[]⟩] 44 (0, 0)) from hb4) 2
    have h3 := frzAt (show w1.heap[w.heap.size]? = some (.cells #[.int .u64 0, .slice none 0 0, .string ⟨#[]⟩, .int .i64 0, .string ⟨#[]⟩] 44 (0, 0)) from hb4) 3
    have h4 := frzAt (show w1.heap[w.heap.size]? = some (.cells #[.int .u64 0, .slice none 0 0, .string ⟨#[]⟩, .int .i64 0, .string ⟨#[]⟩] 44 (0, 0)) from hb4) 4
    clear hb4 hb4' hob hc1 HG HB4 hb1
    go_wp2
    exact bodyPost_ret (v := .tuple #[.agg #[.int .u64 T2, .slice A2 n2 c2, .string a2, .int .i64 D2, .string x2], .int .i64 0]) (by obtain ⟨z0, z1, z2, z3, z4⟩ := cells5s (HZZ.out (.cells #[.int .u64 T2, .slice A2 n2 c2, .string a2, .int .i64 D2, .string x2] 44) (.int .u64 T2) (.slice A2 n2 c2) (.string a2) (.int .i64 D2) (.string x2)); simp [results, Try.f18, go_sem, z0, z1, z2, z3, z4]) rfl ⟨⟨T2, A2, n2, c2, a2, D2, x2, rfl⟩, HCH.out _ _ _ _ _ _⟩
set_option maxHeartbeats 6400000 in
theorem kind_calls (w : World) (S : Nat → Prop) (base s mp j d m wr : Nat) (th : Bool) (ps : List (List UInt8)) (h : SD w S base s mp j d m wr th ps) (hn : (encF ps).length ≤ 4194304) (i q : Nat) (hq : findI i (ps.map idF) = some q) (hlen : (ps.getD q []).length ≤ 1000000) (o : Ob) (hdec : decF (ps.getD q []) = some o) :
    Calls Try.prog 46 #[.pointer (some ⟨s, 0, none⟩), .int .u64 (i : Int), .int .i64 (obKind o : Int)] w fun e w' => e = .returned (.bool true) ∧ Chg No w w' := by
  have HS := Lib.hid h
  have HB := Lib.hid (fun V (hV : Chg No w V) => blob_any V S base s mp j d m wr th ps (HS.out.no hV) hn i q hq hlen o hdec)
  have HT := Lib.hid (fun V (hV : Chg No w V) => tree_any V S base s mp j d m wr th ps (HS.out.no hV) hn i q hq hlen o hdec)
  have HC := Lib.hid (fun V (hV : Chg No w V) => commit_any V S base s mp j d m wr th ps (HS.out.no hV) hn i q hq hlen o hdec)
  clear h hq hdec
  have b0 : isBlob o = (obKind o == 1) := by cases o <;> rfl
  have b1 : isTree o = (obKind o == 2) := by cases o <;> rfl
  have b2 : isCommit o = (obKind o == 3) := by cases o <;> rfl
  rw [b0] at HB
  rw [b1] at HT
  rw [b2] at HC
  have hk : obKind o = 1 ∨ obKind o = 2 ∨ obKind o = 3 := by cases o <;> simp [obKind]
  clear b0 b1 b2
  generalize obKind o = K at *
  rcases hk with rfl | rfl | rfl
  · have HB' : Hid (∀ V, Chg No w V → Calls Try.prog 16 #[.pointer (some ⟨s, 0, none⟩), .int .u64 (i : Int)] V fun e w' => (∃ A2 n2 c2, e = .returned (.tuple #[.agg #[.slice A2 n2 c2], .int .i64 0])) ∧ Chg No V w') := HB.out
    have HT' : Hid (∀ V, Chg No w V → Calls Try.prog 17 #[.pointer (some ⟨s, 0, none⟩), .int .u64 (i : Int)] V fun e w' => (∃ A2 n2 c2, e = .returned (.tuple #[.agg #[.slice A2 n2 c2], .int .i64 170])) ∧ Chg No V w') := HT.out
    have HC' : Hid (∀ V, Chg No w V → Calls Try.prog 18 #[.pointer (some ⟨s, 0, none⟩), .int .u64 (i : Int)] V fun e w' => (∃ T2 A2 n2 c2 a2 D2 x2, e = .returned (.tuple #[.agg #[.int .u64 T2, .slice A2 n2 c2, .string a2, .int .i64 D2, .string x2], .int .i64 170])) ∧ Chg No V w') := HC.out
    clear HB HT HC
    go_enter Try.func46, Try.ntmps46
    go_wp2_with fail
    refine (HB'.out _ (Chg.refl _ _)).mono ?_
    rintro e w1 ⟨⟨A1, n1, c1, rfl⟩, hc1⟩
    have HC1 := Lib.hid hc1
    have HX1 := Lib.hid (fun o => HC1.out.alloc o)
    clear hc1
    go_wp2_with fail
    refine (HT'.out _ (HX1.out _)).mono ?_
    rintro e w2 ⟨⟨A2, n2, c2, rfl⟩, hc2⟩
    have HC2 := Lib.hid ((HX1.out _).no hc2)
    have HX2 := Lib.hid (fun o => HC2.out.alloc o)
    clear hc2 HX1
    go_wp2_with fail
    refine (HC'.out _ (HX2.out _)).mono ?_
    rintro e w3 ⟨⟨T3, A3, n3, c3, a3, D3, x3, rfl⟩, hc3⟩
    have HC3 := Lib.hid ((HX2.out _).no hc3)
    clear hc3 HX2
    go_wp2
    go_ret
    exact ⟨rfl, HC3.out.alloc _⟩
  · have HB' : Hid (∀ V, Chg No w V → Calls Try.prog 16 #[.pointer (some ⟨s, 0, none⟩), .int .u64 (i : Int)] V fun e w' => (∃ A2 n2 c2, e = .returned (.tuple #[.agg #[.slice A2 n2 c2], .int .i64 170])) ∧ Chg No V w') := HB.out
    have HT' : Hid (∀ V, Chg No w V → Calls Try.prog 17 #[.pointer (some ⟨s, 0, none⟩), .int .u64 (i : Int)] V fun e w' => (∃ A2 n2 c2, e = .returned (.tuple #[.agg #[.slice A2 n2 c2], .int .i64 0])) ∧ Chg No V w') := HT.out
    have HC' : Hid (∀ V, Chg No w V → Calls Try.prog 18 #[.pointer (some ⟨s, 0, none⟩), .int .u64 (i : Int)] V fun e w' => (∃ T2 A2 n2 c2 a2 D2 x2, e = .returned (.tuple #[.agg #[.int .u64 T2, .slice A2 n2 c2, .string a2, .int .i64 D2, .string x2], .int .i64 170])) ∧ Chg No V w') := HC.out
    clear HB HT HC
    go_enter Try.func46, Try.ntmps46
    go_wp2_with fail
    refine (HB'.out _ (Chg.refl _ _)).mono ?_
    rintro e w1 ⟨⟨A1, n1, c1, rfl⟩, hc1⟩
    have HC1 := Lib.hid hc1
    have HX1 := Lib.hid (fun o => HC1.out.alloc o)
    clear hc1
    go_wp2_with fail
    refine (HT'.out _ (HX1.out _)).mono ?_
    rintro e w2 ⟨⟨A2, n2, c2, rfl⟩, hc2⟩
    have HC2 := Lib.hid ((HX1.out _).no hc2)
    have HX2 := Lib.hid (fun o => HC2.out.alloc o)
    clear hc2 HX1
    go_wp2_with fail
    refine (HC'.out _ (HX2.out _)).mono ?_
    rintro e w3 ⟨⟨T3, A3, n3, c3, a3, D3, x3, rfl⟩, hc3⟩
    have HC3 := Lib.hid ((HX2.out _).no hc3)
    clear hc3 HX2
    go_wp2
    go_ret
    exact ⟨rfl, HC3.out.alloc _⟩
  · have HB' : Hid (∀ V, Chg No w V → Calls Try.prog 16 #[.pointer (some ⟨s, 0, none⟩), .int .u64 (i : Int)] V fun e w' => (∃ A2 n2 c2, e = .returned (.tuple #[.agg #[.slice A2 n2 c2], .int .i64 170])) ∧ Chg No V w') := HB.out
    have HT' : Hid (∀ V, Chg No w V → Calls Try.prog 17 #[.pointer (some ⟨s, 0, none⟩), .int .u64 (i : Int)] V fun e w' => (∃ A2 n2 c2, e = .returned (.tuple #[.agg #[.slice A2 n2 c2], .int .i64 170])) ∧ Chg No V w') := HT.out
    have HC' : Hid (∀ V, Chg No w V → Calls Try.prog 18 #[.pointer (some ⟨s, 0, none⟩), .int .u64 (i : Int)] V fun e w' => (∃ T2 A2 n2 c2 a2 D2 x2, e = .returned (.tuple #[.agg #[.int .u64 T2, .slice A2 n2 c2, .string a2, .int .i64 D2, .string x2], .int .i64 0])) ∧ Chg No V w') := HC.out
    clear HB HT HC
    go_enter Try.func46, Try.ntmps46
    go_wp2_with fail
    refine (HB'.out _ (Chg.refl _ _)).mono ?_
    rintro e w1 ⟨⟨A1, n1, c1, rfl⟩, hc1⟩
    have HC1 := Lib.hid hc1
    have HX1 := Lib.hid (fun o => HC1.out.alloc o)
    clear hc1
    go_wp2_with fail
    refine (HT'.out _ (HX1.out _)).mono ?_
    rintro e w2 ⟨⟨A2, n2, c2, rfl⟩, hc2⟩
    have HC2 := Lib.hid ((HX1.out _).no hc2)
    have HX2 := Lib.hid (fun o => HC2.out.alloc o)
    clear hc2 HX1
    go_wp2_with fail
    refine (HC'.out _ (HX2.out _)).mono ?_
    rintro e w3 ⟨⟨T3, A3, n3, c3, a3, D3, x3, rfl⟩, hc3⟩
    have HC3 := Lib.hid ((HX2.out _).no hc3)
    clear hc3 HX2
    go_wp2
    go_ret
    exact ⟨rfl, HC3.out.alloc _⟩
end Go.Proofs.Ytccphnkdnifpfaa

namespace Go.Proofs.Ytccphnkdnifpfaa
set_option linter.unnecessarySimpa false
open Go.RowKit
set_option linter.unusedVariables false
set_option linter.unusedSimpArgs false
set_option maxRecDepth 100000

set_option maxHeartbeats 1000000 in
theorem hasprefix_calls (s p : ByteArray) (w : World) :
    Calls Try.prog 101 #[.string s, .string p] w fun e w' => e = .returned (.bool (Lib.hasPrefix s.data.toList p.data.toList)) ∧ w = w' := by
  rw [← Lib.hasPrefix_of_take, ← Lib.size_eq, ← Lib.size_eq]
  go_enter Try.func101, Try.ntmps101
  go_wp2
  · rename_i h
    go_ret
    refine ⟨?_, rfl⟩
    show Ending.returned (Value.bool ((s.extract 0 p.size).toList == p.toList)) = _
    rw [Lib.extract_toList, Lib.toList_data]
    simp [h]
  · rename_i h
    go_ret
    refine ⟨?_, rfl⟩
    show Ending.returned (Value.bool false) = _
    simp [h]
theorem fffd_calls (s : ByteArray) (i : Nat) (h : (decL (s.data.toList.drop i)).1 = 65533) (w : World) :
    Calls Try.prog 101 #[.string (s.extract i s.size), .string ⟨#[239, 191, 189]⟩] w fun e w' => e = .returned (.bool (!brk (s.data.toList.drop i))) ∧ w = w' := by
  have := hasprefix_calls (s.extract i s.size) ⟨#[239, 191, 189]⟩ w
  have e : (!brk (s.data.toList.drop i)) = Lib.hasPrefix (s.extract i s.size).data.toList [239, 191, 189] := by
    rw [extract_list]
    unfold brk Lib.hasPrefix
    rw [h]
    simp
  rw [e]
  exact this


set_option maxHeartbeats 3200000 in
theorem refspot_calls (w : World) (s : ByteArray) (hs : s.size ≤ 9223372036854775807) :
    Calls Try.prog 96 #[.string s] w fun e w' => e = .returned (spotV (spotF s.data.toList)) ∧ Chg No w w' := by
  have HS := Lib.hid (size_list s)
  by_cases h0 : s.data.toList = [] ∨ s.data.toList = [46] ∨ s.data.toList = [46, 46]
  · have HF : Hid (spotF s.data.toList = (140, 0)) := by rw [Hid, spotF, if_pos h0]
    have HE : s = ⟨#[]⟩ ∨ s = ⟨#[46]⟩ ∨ s = ⟨#[46, 46]⟩ := by
      rw [← mkS_self s]
      rcases h0 with h | h | h <;> rw [h] <;> simp [mkS]
    clear h0
    rcases HE with rfl | rfl | rfl
    · go_enter Try.func96, Try.ntmps96
      go_wp2
      exact bodyPost_ret (v := spotV (140, 0)) (by simp [results, Try.results96, go_sem, spotV]) rfl ⟨by rw [HF.out], (Chg.refl No w).alloc _⟩
    · go_enter Try.func96, Try.ntmps96
      go_wp2
      exact bodyPost_ret (v := spotV (140, 0)) (by simp [results, Try.results96, go_sem, spotV]) rfl ⟨by rw [HF.out], (Chg.refl No w).alloc _⟩
    · go_enter Try.func96, Try.ntmps96
      go_wp2
      exact bodyPost_ret (v := spotV (140, 0)) (by simp [results, Try.results96, go_sem, spotV]) rfl ⟨by rw [HF.out], (Chg.refl No w).alloc _⟩
  · have n1 := bytes_ne (fun h => h0 (.inl h))
    have n2 := bytes_ne (fun h => h0 (.inr (.inl h)))
    have n3 := bytes_ne (fun h => h0 (.inr (.inr h)))
    by_cases h32 : 32 < s.size
    · have HF : Hid (spotF s.data.toList = (3, 32)) := by rw [Hid, spotF, if_neg h0, if_pos (by rw [HS.out]; exact h32)]
      have b32 : (32 : Int) < (s.size : Int) := by omega
      clear h0
      go_enter Try.func96, Try.ntmps96
      go_wp2
      exact bodyPost_ret (v := spotV (3, 32)) (by simp [results, Try.results96, go_sem, spotV]) rfl ⟨by rw [HF.out], (Chg.refl No w).alloc _⟩
    · have HF := Lib.hid (show spotF s.data.toList = _ by rw [spotF, if_neg h0, if_neg (by rw [HS.out]; exact h32)])
      have b32 : ¬ (32 : Int) < (s.size : Int) := by omega
      clear h0
      go_enter Try.func96, Try.ntmps96
      go_wp2
      go_loopw [] (fun wr => ∃ pos : Nat, pos ≤ s.size ∧ Hid (wr.heap[(w.heap.size + 1)]? = some (.stringIter s pos)) ∧ Hid (wrongAt 0 (pcs s.data.toList) = wrongAt pos (pcs (s.data.toList.drop pos))) ∧ Hid (wr.heap[w.heap.size]? = some (.cells #[.int .i64 0, .int .i64 0] 155)) ∧ Hid (Chg No w wr)) (fun wr => s.size - wr.iterPos (w.heap.size + 1))
      case atStart =>
        refine ⟨0, Nat.zero_le _, ?_, rfl, (Chg.refl No (w.alloc (.cells #[.int .i64 0, .int .i64 0] 155))).alloc _ |>.heap (heap_alloc_new w _) (fun x => x), ((Chg.refl No w).alloc _).alloc _⟩
        have := World.iter_heap (w.alloc (.cells #[.int .i64 0, .int .i64 0] 155)) s 0
        rwa [World.size_alloc] at this
      case round =>
        obtain ⟨pos, hpos, HI, HU, HX, HC⟩ := hrel
        by_cases hp : pos < s.size
        · have hl := drop_ne hp
          obtain ⟨f1, f2, f3⟩ := decL_facts _ hl
          have HPC := Lib.hid (wrong_cons pos _ hl)
          have hnx := fun ty => Lib.run_next_any_at (P := Try.prog) wr (w.heap.size + 1) s pos ty HI.out hp
          rw [decode_drop] at hnx
          have HFF := Lib.hid (fun h w => fffd_calls s pos h w)
          have HBR : Hid ((decL (s.data.toList.drop pos)).1 ≠ 65533 → brk (s.data.toList.drop pos) = false) := fun h => by unfold brk; simp [h]
          rw [List.length_drop, HS.out] at f2
          rw [List.drop_drop] at HPC
          generalize decL (s.data.toList.drop pos) = D at *
          obtain ⟨r, k⟩ := D
          simp only at f1 f2 f3 hnx HPC HFF HBR
          have HC1 : Hid (Chg No w (wr.iterAt (w.heap.size + 1) s (pos + k))) := Chg.iterAt HC.out (by omega) _ _
          have HI1 : Hid ((wr.iterAt (w.heap.size + 1) s (pos + k)).heap[(w.heap.size + 1)]? = some (.stringIter s (pos + k))) := Lib.iterAt_heap wr (w.heap.size + 1) s pos (pos + k) HI.out
          have hip : wr.iterPos (w.heap.size + 1) = pos := iterPos_of HI.out
          have hip2 : (wr.iterAt (w.heap.size + 1) s (pos + k)).iterPos (w.heap.size + 1) = pos + k := iterPos_of HI1.out
          have HX1 : Hid ((wr.iterAt (w.heap.size + 1) s (pos + k)).heap[w.heap.size]? = some (.cells #[.int .i64 0, .int .i64 0] 155)) := (Chg.iterOne wr (w.heap.size + 1) s (pos + k)).heap HX.out (fun h => by have h : w.heap.size = w.heap.size + 1 := h; omega)
          generalize brk (s.data.toList.drop pos) = bk at *
          generalize (s.data.toList.drop pos).take k = bs at *
          clear hl
          generalize wr.iterAt (w.heap.size + 1) s (pos + k) = wn at *
          have hps : (pos : Int) ≤ (s.size : Int) := by omega
          have c0 := cellAt HX1.out 0 _ rfl
          have c1 := cellAt HX1.out 1 _ rfl
          have f0 := frzAt HX1.out 0
          have f1' := frzAt HX1.out 1
          by_cases hr : r = 65533
          · have hb2 : ((r : Int) == 65533) = true := by rw [hr]; rfl
            have HFR := Lib.hid (fun w => HFF.out hr w)
            have HR := Lib.hid hr
            have hb3 : ¬ (r : Int) < 32 := by omega
            have hb4 : ((r : Int) == 127) = false := by rw [hr]; rfl
            have hb5 : ((r : Int) == 47) = false := by rw [hr]; rfl
            clear hr HFF HBR
            cases bk with
            | true =>
              go_wp2_with fail
              refine (HFR.out _).mono ?_
              rintro e w' ⟨rfl, rfl⟩
              have HW : Hid (wrongAt 0 (pcs s.data.toList) = some pos) := by rw [Hid, HU.out, HPC.out]; simp [badN]
              have e0 := World.cell?_setCell_same wn ⟨w.heap.size, 0, none⟩ (.int .i64 140) c0
              go_wp2
              exact bodyPost_ret (v := spotV (140, (pos : Int))) (by simp [results, Try.results96, go_sem, spotV, c0, c1]) rfl ⟨by rw [HF.out, HW.out], (HC1.out.setCell (.inl (Nat.le_refl _)) _).setCell (.inl (Nat.le_refl _)) _⟩
            | false =>
              go_wp2_with fail
              refine (HFR.out _).mono ?_
              rintro e w' ⟨rfl, rfl⟩
              have HN : Hid (wrongAt 0 (pcs s.data.toList) = wrongAt (pos + k) (pcs (s.data.toList.drop (pos + k)))) := by rw [Hid, HU.out, HPC.out]; simp [badN, ctlN, HR.out]
              go_wp2
              go_roundw
              case rel => exact ⟨pos + k, by omega, HI1.out, HN.out, HX1.out, HC1.out⟩
              case measure => rw [hip, hip2]; omega
          · have hb2 : ((r : Int) == 65533) = false := by simp; omega
            have HBK := Lib.hid (HBR.out hr)
            clear HFF HBR
            by_cases hc : ctlN r = true
            · have HCT := Lib.hid hc
              by_cases h32 : r < 32
              · have hb3 : (r : Int) < 32 := by omega
                clear hc hr
                have HW : Hid (wrongAt 0 (pcs s.data.toList) = some pos) := by rw [Hid, HU.out, HPC.out]; simp [badN, HCT.out]
                have e0 := World.cell?_setCell_same wn ⟨w.heap.size, 0, none⟩ (.int .i64 140) c0
                go_wp2
                exact bodyPost_ret (v := spotV (140, (pos : Int))) (by simp [results, Try.results96, go_sem, spotV, c0, c1]) rfl ⟨by rw [HF.out, HW.out], (HC1.out.setCell (.inl (Nat.le_refl _)) _).setCell (.inl (Nat.le_refl _)) _⟩
              · have hb3 : ¬ (r : Int) < 32 := by omega
                by_cases h127 : r = 127
                · have hb4 : ((r : Int) == 127) = true := by rw [h127]; rfl
                  clear hc hr
                  have HW : Hid (wrongAt 0 (pcs s.data.toList) = some pos) := by rw [Hid, HU.out, HPC.out]; simp [badN, HCT.out]
                  have e0 := World.cell?_setCell_same wn ⟨w.heap.size, 0, none⟩ (.int .i64 140) c0
                  go_wp2
                  exact bodyPost_ret (v := spotV (140, (pos : Int))) (by simp [results, Try.results96, go_sem, spotV, c0, c1]) rfl ⟨by rw [HF.out, HW.out], (HC1.out.setCell (.inl (Nat.le_refl _)) _).setCell (.inl (Nat.le_refl _)) _⟩
                · have hb4 : ((r : Int) == 127) = false := by simp; omega
                  have hb5 : ((r : Int) == 47) = true := by
                    simp only [ctlN, Bool.or_eq_true, decide_eq_true_eq, beq_iff_eq] at hc
                    rw [beq_iff_eq]; omega
                  clear hc hr h127
                  have HW : Hid (wrongAt 0 (pcs s.data.toList) = some pos) := by rw [Hid, HU.out, HPC.out]; simp [badN, HCT.out]
                  have e0 := World.cell?_setCell_same wn ⟨w.heap.size, 0, none⟩ (.int .i64 140) c0
                  go_wp2
                  exact bodyPost_ret (v := spotV (140, (pos : Int))) (by simp [results, Try.results96, go_sem, spotV, c0, c1]) rfl ⟨by rw [HF.out, HW.out], (HC1.out.setCell (.inl (Nat.le_refl _)) _).setCell (.inl (Nat.le_refl _)) _⟩
            · have HCT : Hid (ctlN r = false) := by simpa [Hid] using hc
              simp only [ctlN, Bool.or_eq_true, decide_eq_true_eq, beq_iff_eq, not_or] at hc
              have hb3 : ¬ (r : Int) < 32 := by omega
              have hb4 : ((r : Int) == 127) = false := by rw [beq_eq_false_iff_ne]; omega
              have hb5 : ((r : Int) == 47) = false := by rw [beq_eq_false_iff_ne]; omega
              clear hc hr
              have HN : Hid (wrongAt 0 (pcs s.data.toList) = wrongAt (pos + k) (pcs (s.data.toList.drop (pos + k)))) := by rw [Hid, HU.out, HPC.out]; simp [badN, HCT.out, HBK.out]
              go_wp2
              go_roundw
              case rel => exact ⟨pos + k, by omega, HI1.out, HN.out, HX1.out, HC1.out⟩
              case measure => rw [hip, hip2]; omega
        · have hnx := fun ty => Lib.run_next_end_at (P := Try.prog) wr (w.heap.size + 1) s pos ty HI.out hp
          have HE : Hid (s.data.toList.drop pos = []) := by rw [Hid]; exact List.drop_of_length_le (by rw [HS.out]; omega)
          have c0 := cellAt HX.out 0 _ rfl
          have c1 := cellAt HX.out 1 _ rfl
          have f0 := frzAt HX.out 0
          have f1 := frzAt HX.out 1
          have HW : Hid (wrongAt 0 (pcs s.data.toList) = none) := by rw [Hid, HU.out, HE.out]; rfl
          go_wp2
          exact bodyPost_ret (v := spotV (0, 0)) (by simp [results, Try.results96, go_sem, spotV, c0, c1]) rfl ⟨by rw [HF.out, HW.out], (HC.out.setCell (.inl (Nat.le_refl _)) _).setCell (.inl (Nat.le_refl _)) _⟩
end Go.Proofs.Ytccphnkdnifpfaa

namespace Go.Proofs.Ytccphnkdnifpfaa
set_option linter.unnecessarySimpa false
open Go.RowKit
set_option linter.unusedVariables false
set_option linter.unusedSimpArgs false
set_option maxRecDepth 100000

set_option maxHeartbeats 1600000 in
theorem reftext6_calls (w : World) (s : ByteArray) (hs : s.size ≤ 9223372036854775807) :
    Calls Try.prog 97 #[.string s] w fun e w' => e = .returned (.bool (rightF s.data.toList)) ∧ Chg No w w' := by
  have HS := Lib.hid (size_list s)
  go_enter Try.func97, Try.ntmps97
  go_wp2
  go_loopw [] (fun wr => ∃ pos : Nat, pos ≤ s.size ∧ Hid (wr.heap[w.heap.size]? = some (.stringIter s pos)) ∧ Hid (rightF s.data.toList = (pcs (s.data.toList.drop pos)).all okP) ∧ Hid (Chg No w wr)) (fun wr => s.size - wr.iterPos w.heap.size)
  case atStart => exact ⟨0, Nat.zero_le _, World.iter_heap _ _ _, rfl, (Chg.refl No w).alloc _⟩
  case round =>
    obtain ⟨pos, hpos, HI, HU, HC⟩ := hrel
    by_cases hp : pos < s.size
    · have hl := drop_ne hp
      obtain ⟨f1, f2, f3⟩ := decL_facts _ hl
      have HPC := Lib.hid (pcs_cons _ hl)
      have hnx := fun ty => Lib.run_next_any_at (P := Try.prog) wr w.heap.size s pos ty HI.out hp
      rw [decode_drop] at hnx
      have HFF := Lib.hid (fun h w => fffd_calls s pos h w)
      have HBR : Hid ((decL (s.data.toList.drop pos)).1 ≠ 65533 → brk (s.data.toList.drop pos) = false) := fun h => by unfold brk; simp [h]
      rw [List.length_drop, HS.out] at f2
      rw [List.drop_drop] at HPC
      generalize decL (s.data.toList.drop pos) = D at *
      obtain ⟨r, k⟩ := D
      simp only at f1 f2 f3 hnx HPC HFF HBR
      have HC1 : Hid (Chg No w (wr.iterAt w.heap.size s (pos + k))) := Chg.iterAt HC.out (by omega) _ _
      have HI1 : Hid ((wr.iterAt w.heap.size s (pos + k)).heap[w.heap.size]? = some (.stringIter s (pos + k))) := Lib.iterAt_heap wr w.heap.size s pos (pos + k) HI.out
      have hip : wr.iterPos w.heap.size = pos := iterPos_of HI.out
      have hip2 : (wr.iterAt w.heap.size s (pos + k)).iterPos w.heap.size = pos + k := iterPos_of HI1.out
      generalize brk (s.data.toList.drop pos) = bk at *
      generalize (s.data.toList.drop pos).take k = bs at *
      clear hl
      generalize wr.iterAt w.heap.size s (pos + k) = wn at *
      have hps : (pos : Int) ≤ (s.size : Int) := by omega
      by_cases hr0 : r = 0
      · have hb : ((r : Int) == 0) = true := by rw [hr0]; rfl
        have H0 := Lib.hid hr0
        clear hr0
        go_wp2
        go_ret
        exact ⟨by rw [HU.out, HPC.out]; simp [okP, H0.out], HC1.out⟩
      · have hb : ((r : Int) == 0) = false := by simp; omega
        have hbn : (r != 0) = true := by simpa using hr0
        by_cases hr : r = 65533
        · have hb2 : ((r : Int) == 65533) = true := by rw [hr]; rfl
          have HFR := Lib.hid (fun w => HFF.out hr w)
          have HR := Lib.hid hr
          clear hr HFF HBR
          cases bk with
          | true =>
            go_wp2_with fail
            refine (HFR.out _).mono ?_
            rintro e w' ⟨rfl, rfl⟩
            go_wp2
            go_ret
            exact ⟨by rw [HU.out, HPC.out]; simp [okP], HC1.out⟩
          | false =>
            go_wp2_with fail
            refine (HFR.out _).mono ?_
            rintro e w' ⟨rfl, rfl⟩
            have HN : Hid (rightF s.data.toList = (pcs (s.data.toList.drop (pos + k))).all okP) := by rw [Hid, HU.out, HPC.out]; simp [okP, hbn]
            go_wp2
            go_roundw
            case rel => exact ⟨pos + k, by omega, HI1.out, HN.out, HC1.out⟩
            case measure => rw [hip, hip2]; omega
        · have hb2 : ((r : Int) == 65533) = false := by simp; omega
          have HBK := Lib.hid (HBR.out hr)
          clear HFF HBR
          clear hr
          have HN : Hid (rightF s.data.toList = (pcs (s.data.toList.drop (pos + k))).all okP) := by rw [Hid, HU.out, HPC.out]; simp [okP, hbn, HBK.out]
          go_wp2
          go_roundw
          case rel => exact ⟨pos + k, by omega, HI1.out, HN.out, HC1.out⟩
          case measure => rw [hip, hip2]; omega
    · have hnx := fun ty => Lib.run_next_end_at (P := Try.prog) wr w.heap.size s pos ty HI.out hp
      have HE : Hid (s.data.toList.drop pos = []) := by rw [Hid]; exact List.drop_of_length_le (by rw [HS.out]; omega)
      go_wp2
      go_ret
      exact ⟨by rw [HU.out, HE.out]; rfl, HC.out⟩
end Go.Proofs.Ytccphnkdnifpfaa

namespace Go.Proofs.Ytccphnkdnifpfaa
set_option linter.unnecessarySimpa false
open Go.Joins Go.ChangeShapes Go.WideShapes Go.ChangeAt Go.RowKit Go.Deep
set_option linter.unusedVariables false
set_option linter.unusedSimpArgs false
set_option maxRecDepth 100000

/-- An entry by value, as three cells. -/
theorem read_ent {H : Type} {enc : TypeId × Value → H} {W : World} {fuel : Nat} {cs : List Value} {y : DataW H × List MemPlace}
    (hf : DataW.trod enc Try.prog W 0 (fun _ => true) true fuel 130 cs = some y) :
    ∃ x : Ent, cs = encE x ∧ x.1.size ≤ maxLen ∧ x.2.2 < 18446744073709551616 := by
  obtain ⟨ys, n, -, -, hlen, hyl, hfd⟩ := DataW.trod_struct Try.underlying130 hf
  have hl3 : cs.length = 3 := hlen.trans (by kernel_rfl)
  match cs, hl3 with
  | [u0, u1, u2], _ =>
    have g0 := hfd 0 _ rfl
    have g1 := hfd 1 _ rfl
    have g2 := hfd 2 _ rfl
    have y3 : ys.length = 3 := hyl
    rw [List.getElem?_eq_getElem (by omega)] at g0 g1 g2
    have g0 : DataW.trod enc Try.prog W 0 (fun _ => true) true n 9 [u0] = _ := g0
    have g1 : DataW.trod enc Try.prog W 0 (fun _ => true) true n 4 [u1] = _ := g1
    have g2 : DataW.trod enc Try.prog W 0 (fun _ => true) true n 32 [u2] = _ := g2
    obtain ⟨s, q0, -, w0⟩ := DataW.trod_string Try.underlying9 g0
    obtain ⟨f, q1, -⟩ := DataW.trod_bool Try.underlying4 g1
    obtain ⟨t, q2, -, w2⟩ := DataW.trod_int Try.underlying32 g2
    cases q0
    cases q1
    cases q2
    have hw : 0 ≤ t ∧ t ≤ 18446744073709551615 := by simpa [Lit.wf, IntKind.min, IntKind.max, IntKind.signed, IntKind.bits] using w2
    have ht : ((t.toNat : Nat) : Int) = t := by omega
    exact ⟨(s, f, t.toNat), by simp [encE, ht], w0, by show t.toNat < _; omega⟩

theorem open_ents {H : Type} {enc : TypeId × Value → H} {W : World} {v : Value} {d : DataW H} {p : List MemPlace} {r : Reach} {b0 : Nat}
    (hval : Value.okWide Try.prog W r b0 53 v) (h : DataW.Trod enc Try.prog W 0 (fun _ => true) true 53 v d p) :
    ∃ (A : Option Addr) (n c : Nat) (xs : List Ent), v = .slice A n c ∧ Es W (.slice A n c) xs ∧ (∀ x ∈ xs, x.1.size ≤ maxLen ∧ x.2.2 < 18446744073709551616) ∧ n ≤ maxLen := by
  obtain ⟨A0, n0, c0, rfl⟩ := okWide_slice Try.underlying53 hval
  obtain ⟨fuel, hf⟩ := h
  rcases DataW.trod_slice Try.underlying53 hf with ⟨hcs, _⟩ | ⟨a, len, cap, elems, rest, n, _, hcs, _, hb, hl, hm, hlen, hel, -, -⟩
  · simp [Value.cells] at hcs
    obtain ⟨rfl, rfl, rfl⟩ := hcs
    exact ⟨_, _, _, [], rfl, Holds.nil W, (fun x hx => by cases hx), by unfold maxLen; omega⟩
  · simp [Value.cells] at hcs
    obtain ⟨rfl, rfl, rfl⟩ := hcs
    have each : ∀ i, i < n0 → ∃ x : Ent, (∀ j u, (encE x)[j]? = some u → W.cell? (a.add (i * 3 + j)) = some u) ∧ x.1.size ≤ maxLen ∧ x.2.2 < 18446744073709551616 := by
      intro i hi
      have h1 := hel i hi
      rw [List.getElem?_eq_getElem (by omega), Option.bind_eq_some_iff] at h1
      obtain ⟨us, h2, h3⟩ := h1
      obtain ⟨x, rfl, x1, x2⟩ := read_ent h3
      refine ⟨x, fun j u hj => ?_, x1, x2⟩
      have h4 := (World.cells?_some h2).2.2 j (List.getElem?_eq_some_iff.1 hj).1
      rw [hj, Go.Deep.add_add] at h4
      exact h4
    obtain ⟨f, hfn⟩ := choose_lt each
    have hlen2 : ((List.range n0).map f).length = n0 := by simp
    refine ⟨_, _, _, (List.range n0).map f, rfl, ⟨some a, c0, by rw [hlen2], by rw [hlen2]; exact hl, hm, fun hp => ?_⟩, ?_, by omega⟩
    · rw [encE_len, hlen2] at hp
      obtain ⟨b, off, spot⟩ := a
      have hc0 := (hfn 0 (by omega)).1 0 _ rfl
      have hspot : spot = none := by simpa [Addr.add] using World.cell?_spot hc0
      subst hspot
      refine ⟨b, off, rfl, fun j u hj => ?_⟩
      have hjl : j < n0 * 3 := by
        have := (List.getElem?_eq_some_iff.1 hj).1
        rwa [encE_len, hlen2] at this
      have hk : j / 3 < n0 := by omega
      have hj3 : j = j / 3 * 3 + j % 3 := by omega
      have := (hfn (j / 3) hk).1 (j % 3) u (by
        rw [hj3, encE_get _ (j / 3) (j % 3) (by rw [hlen2]; exact hk) (by omega)] at hj
        simpa using hj)
      rw [← hj3, Addr.add_lit] at this
      exact this
    · intro x hx
      obtain ⟨i, hi, rfl⟩ := List.mem_map.1 hx
      exact (hfn i (List.mem_range.1 hi)).2

theorem ent_guard (w : World) (x y : Operand) (xs ys : Array Value) : (eqGuard .neq 130 x y (.agg xs) (.agg ys)).run Try.prog w = .ok () w := run_eqGuard_agg w _ _ _ _ _ _ (by kernel_rfl)
theorem ent_neq (w : World) (s s' : ByteArray) (f f' : Bool) (i i' : Nat) : (binOp .neq 130 (.agg #[.string s, .bool f, .int .u64 (i : Int)]) (.agg #[.string s', .bool f', .int .u64 (i' : Int)])).run Try.prog w = .ok (.bool (!decide (s = s' ∧ f = f' ∧ i = i'))) w := by
  have hs := beq_bytes s s'
  rw [run_neq_struct, run_equalIn_agg w _ _ _ _ Try.underlying130 (by kernel_rfl)]
  go_simp
  by_cases h1 : s = s'
  · by_cases h2 : f = f'
    · by_cases h3 : i = i'
      · simp [h1, h2, h3]
      · simp [h1, h2, h3]
        omega
    · simp [h1, h2]
  · simp [h1]
end Go.Proofs.Ytccphnkdnifpfaa

namespace Go.Proofs.Ytccphnkdnifpfaa
set_option linter.unnecessarySimpa false
open Go.RowKit
set_option linter.unusedVariables false
set_option linter.unusedSimpArgs false
set_option maxRecDepth 100000

/-- A type assertion that panics. -/
def TaFalls (o : Value) (t : TypeId) : Prop := ∃ (u : TypeId) (ob : Obj), ∀ w : World, Sem.run Try.prog (Instr.typeAssert o 38 t false) w = .halt (.panic (.iface u (.pointer (some ⟨w.heap.size, 0, none⟩)))) (w.alloc ob)
theorem falls_blob_tree (v : Value) : TaFalls (.iface 36 v) 55 := ⟨_, _, fun w => rfl⟩
theorem falls_blob_commit (v : Value) : TaFalls (.iface 36 v) 44 := ⟨_, _, fun w => rfl⟩
theorem falls_tree_commit (v : Value) : TaFalls (.iface 55 v) 44 := ⟨_, _, fun w => rfl⟩
theorem falls_commit_tree (v : Value) : TaFalls (.iface 44 v) 55 := ⟨_, _, fun w => rfl⟩
theorem falls_nil_tree : TaFalls .nilIface 55 := ⟨_, _, fun w => rfl⟩
theorem falls_nil_commit : TaFalls .nilIface 44 := ⟨_, _, fun w => rfl⟩


/-- A call that panics. -/
def Falls (w : World) (f : FuncId) (o : Value) : Prop := ∀ W, Chg No w W → Calls Try.prog f #[o] W fun e w' => (∃ u pv, e = .panicked [{ v := .iface u pv, recovered := false }]) ∧ Chg No W w'
end Go.Proofs.Ytccphnkdnifpfaa

namespace Go.Proofs.Ytccphnkdnifpfaa
set_option linter.unnecessarySimpa false
open Go.RowKit
set_option linter.unusedVariables false
set_option linter.unusedSimpArgs false
set_option maxRecDepth 100000

structure Odd (o : Value) : Prop where
  tb : ∀ w, Sem.run Try.prog (Instr.typeAssert o 38 36 true) w = .ok (.tuple #[.agg #[.slice none 0 0], .bool false]) w
  tt : ∀ w, Sem.run Try.prog (Instr.typeAssert o 38 55 true) w = .ok (.tuple #[.agg #[.slice none 0 0], .bool false]) w
  tc : ∀ w, Sem.run Try.prog (Instr.typeAssert o 38 44 true) w = .ok (.tuple #[.agg #[.int .u64 0, .slice none 0 0, .string ⟨#[]⟩, .int .i64 0, .string ⟨#[]⟩], .bool false]) w
  ft : TaFalls o 55
  fc : TaFalls o 44
theorem odd_nil : Odd .nilIface := ⟨fun w => ta_nil_blob w, fun w => ta_nil_tree w, fun w => ta_nil_commit w, falls_nil_tree, falls_nil_commit⟩
theorem check_odd (w : World) (o : Value) (h : Odd o) : Calls Try.prog 70 #[o] w fun e w' => e = .returned (.int .i64 160) ∧ Chg No w w' := by
  obtain ⟨fb, ft, fc, -, -⟩ := h
  go_enter Try.func70, Try.ntmps70
  go_wp2
  go_ret
  exact ⟨rfl, Chg.refl _ _⟩
theorem kind_odd (w : World) (o : Value) (h : Odd o) : Calls Try.prog 47 #[o] w fun e w' => e = .returned (.int .i64 0) ∧ Chg No w w' := by
  obtain ⟨fb, ft, fc, -, -⟩ := h
  go_enter Try.func47, Try.ntmps47
  go_wp2
  go_ret
  exact ⟨rfl, Chg.refl _ _⟩
theorem encodes_odd (w : World) (o : Value) (h : Odd o) : Encodes w o 160 [] := Encodes.ofRefused (k := 160) (by decide) (fun W _ => check_odd W o h)
end Go.Proofs.Ytccphnkdnifpfaa

namespace Go.Proofs.Ytccphnkdnifpfaa
set_option linter.unnecessarySimpa false
open Go.RowKit
set_option linter.unusedVariables false
set_option linter.unusedSimpArgs false
set_option maxRecDepth 100000

/-- A store into a row of one's own. -/
theorem own_put {w : World} {base n c size : Nat} {e : TypeId} {A : Option Addr} {xs : List Value} (h : w.ownsRow base e size (.slice A n c) n xs) (hp : 0 < n) :
    ∃ g, A = some ⟨g, 0, none⟩ ∧ base ≤ g ∧ g < w.heap.size ∧ ∀ i, i < n * size → (∃ u, w.cell? ⟨g, i, none⟩ = some u ∧ xs[i]? = some u) ∧ w.frozen? ⟨g, i, none⟩ = false ∧ ∀ v, (w.setCell ⟨g, i, none⟩ v).ownsRow base e size (.slice A n c) n (xs.set i v) := by
  obtain ⟨h1, h2⟩ := h
  rcases h2 with ⟨he, h0⟩ | ⟨g, cap, cur, he, hg, hh, hnn, hm, hcs, ht⟩
  · omega
  · simp only [Value.slice.injEq, true_and] at he
    obtain ⟨rfl, rfl⟩ := he
    have hgl := (Array.getElem?_eq_some_iff.1 hh).1
    refine ⟨g, rfl, hg, hgl, fun i hi => ?_⟩
    have hic : i < cur.size := by rw [hcs]; exact Nat.lt_of_lt_of_le hi (Nat.mul_le_mul_right _ hnn)
    refine ⟨⟨cur[i], by simp [World.cell?, hh, hic], ?_⟩, by simp [World.frozen?, hh], fun v => ?_⟩
    · rw [← ht, List.getElem?_take_of_lt hi]
      simp [hic]
    · refine ⟨by rw [List.length_set]; exact h1, .inr ⟨g, c, cur.setIfInBounds i v, rfl, hg, ?_, hnn, hm, by simpa using hcs, ?_⟩⟩
      · unfold World.setCell
        simp [Array.getElem?_modify, hh]
      · rw [Array.toList_setIfInBounds, List.take_set, ht]

theorem srcIds {W : World} {A : Option Addr} {n c : Nat} {ps : List Nat} (h : Sl u64v W (.slice A n c) ps) : Src Try.prog 1 42 (.slice A n c) n (ps.map u64v) W := by
  have hl := h.len
  refine Src.ofHolds W (size := 1) (m := n) (cs := ps.map u64v) Try.underlying42 ?_ (by rw [List.length_map]; omega) (by decide) ?_
  · subst hl; exact h
  · intro v hv
    obtain ⟨q, _, rfl⟩ := List.mem_map.1 hv
    rfl
theorem srcEnts {W : World} {A : Option Addr} {n c : Nat} {xs : List Ent} (h : Es W (.slice A n c) xs) : Src Try.prog 3 53 (.slice A n c) n (xs.flatMap encE) W := by
  have hl := h.len
  refine Src.ofHolds W (size := 3) (m := n) (cs := xs.flatMap encE) Try.underlying53 ?_ (by rw [encE_len]; omega) (by decide) ?_
  · subst hl; exact h
  · intro v hv
    obtain ⟨q, _, hv⟩ := List.mem_flatMap.1 hv
    simp only [encE, List.mem_cons, List.not_mem_nil, or_false] at hv
    rcases hv with rfl | rfl | rfl <;> rfl
end Go.Proofs.Ytccphnkdnifpfaa

namespace Go.Proofs.Ytccphnkdnifpfaa
set_option linter.unnecessarySimpa false
open Go.RowKit
set_option linter.unusedVariables false
set_option linter.unusedSimpArgs false
set_option maxRecDepth 100000

end Go.Proofs.Ytccphnkdnifpfaa

namespace Go.Proofs.Ytccphnkdnifpfaa
set_option linter.unnecessarySimpa false
open Go.RowKit
set_option linter.unusedVariables false
set_option linter.unusedSimpArgs false
set_option maxRecDepth 100000

theorem slOwn {w : World} {base n c : Nat} {A : Option Addr} {L : List Nat} (h : w.ownsRow base 32 1 (.slice A n c) n (L.map u64v)) (hl : L.length = n) : Sl u64v w (.slice A n c) L := by
  subst hl; exact Holds.ofOwn h
theorem store_rows {w w' : World} {base g i : Nat} {v : Value} (h : Chg No w w') (hb : w.heap.size ≤ base) (hg : base ≤ g) : Chg No w (w'.setCell ⟨g, i, none⟩ v) := h.setCell (.inl (Nat.le_trans hb hg)) _


end Go.Proofs.Ytccphnkdnifpfaa

