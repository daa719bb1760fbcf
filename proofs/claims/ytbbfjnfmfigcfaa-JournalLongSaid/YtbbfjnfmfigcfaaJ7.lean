/-
  A journal's cells; add.
-/
import Derived.Test.YtbbfjnfmfigcfaaJ6
import Derived.Deep.RegionLaw
namespace Go.Proofs.Ytbbfjnfmfigcfaa
open Go.RowKit Go.Shelf
set_option linter.unusedVariables false
set_option linter.unusedSimpArgs false
set_option maxRecDepth 100000

/-- A journal's cells. -/
def JCells (w : World) (j d : Nat) (k : ByteArray) (va vp : Value) (sz : Nat) (cut : Bool) : Prop :=
  w.heap[j]? = some (.cells #[.pointer (some ⟨d, 0, none⟩), .string k, va, vp, .int .i64 (sz : Int), .bool cut] 55 (0, 0))
section
variable {w : World} {j d : Nat} {k : ByteArray} {va vp : Value} {sz : Nat} {cut : Bool}
theorem JCells.lt (h : JCells w j d k va vp sz cut) : j < w.heap.size := (Array.getElem?_eq_some_iff.1 h).1
theorem JCells.c0 (h : JCells w j d k va vp sz cut) : w.cell? ⟨j, 0, none⟩ = some (.pointer (some ⟨d, 0, none⟩)) := by simp [World.cell?, show w.heap[j]? = _ from h]
theorem JCells.c1 (h : JCells w j d k va vp sz cut) : w.cell? ⟨j, 1, none⟩ = some (.string k) := by simp [World.cell?, show w.heap[j]? = _ from h]
theorem JCells.c2 (h : JCells w j d k va vp sz cut) : w.cell? ⟨j, 2, none⟩ = some va := by simp [World.cell?, show w.heap[j]? = _ from h]
theorem JCells.c3 (h : JCells w j d k va vp sz cut) : w.cell? ⟨j, 3, none⟩ = some vp := by simp [World.cell?, show w.heap[j]? = _ from h]
theorem JCells.c4 (h : JCells w j d k va vp sz cut) : w.cell? ⟨j, 4, none⟩ = some (.int .i64 (sz : Int)) := by simp [World.cell?, show w.heap[j]? = _ from h]
theorem JCells.c5 (h : JCells w j d k va vp sz cut) : w.cell? ⟨j, 5, none⟩ = some (.bool cut) := by simp [World.cell?, show w.heap[j]? = _ from h]
theorem JCells.fr (h : JCells w j d k va vp sz cut) (i : Nat) : w.frozen? ⟨j, i, none⟩ = false := by simp [World.frozen?, show w.heap[j]? = _ from h]
theorem JCells.set (h : JCells w j d k va vp sz cut) (i : Nat) (u : Value) : (w.setCell ⟨j, i, none⟩ u).heap[j]? = some (.cells (#[.pointer (some ⟨d, 0, none⟩), .string k, va, vp, .int .i64 (sz : Int), .bool cut].setIfInBounds i u) 55 (0, 0)) := by
  unfold World.setCell
  simp [Array.getElem?_modify, show w.heap[j]? = _ from h]
theorem JCells.set2 (h : JCells w j d k va vp sz cut) (u : Value) : JCells (w.setCell ⟨j, 2, none⟩ u) j d k u vp sz cut := h.set 2 u
theorem JCells.set3 (h : JCells w j d k va vp sz cut) (u : Value) : JCells (w.setCell ⟨j, 3, none⟩ u) j d k va u sz cut := h.set 3 u
theorem JCells.set4 (h : JCells w j d k va vp sz cut) (n : Nat) (x : Int) (hx : x = (n : Int)) : JCells (w.setCell ⟨j, 4, none⟩ (.int .i64 x)) j d k va vp n cut := by subst hx; exact h.set 4 _
end

/-- The cells of the parts of payloads, from a place on. -/
def partsC (o : Nat) : List (List UInt8) → List Value
  | [] => []
  | p :: ps => .int .i64 (o : Int) :: .int .i64 ((o + p.length : Nat) : Int) :: partsC (o + p.length) ps
theorem partsC_len : ∀ (ps : List (List UInt8)) (o : Nat), (partsC o ps).length = ps.length * 2
  | [], _ => rfl
  | p :: ps, o => by simp [partsC, partsC_len ps]; omega
theorem partsC_snoc : ∀ (ps : List (List UInt8)) (o : Nat) (p : List UInt8), partsC o (ps ++ [p]) = partsC o ps ++ [.int .i64 ((o + ps.flatten.length : Nat) : Int), .int .i64 ((o + ps.flatten.length + p.length : Nat) : Int)]
  | [], o, p => by simp [partsC]
  | q :: ps, o, p => by simp [partsC, partsC_snoc ps, Nat.add_assoc]
theorem infoPart : (Try.prog.info? 82).map (fun i => (i.zero, i.size, i.bytes)) = some (some (.agg #[.int .i64 0, .int .i64 0]), 2, 16) := by kernel_rfl
theorem Src.part {P : Program} {W : World} {tx e' t : TypeId} {g : Nat} (hk : P.underlying tx = some (.slice e')) (a b : Int) (hg : W.heap[g]? = some (.cells #[.int .i64 a, .int .i64 b] t (0, 0))) :
    Src P 2 tx (.slice (some ⟨g, 0, none⟩) 1 1) 1 [.int .i64 a, .int .i64 b] W :=
  Src.ofSlice _ hk _ _ _ [.int .i64 a, .int .i64 b] (by simp) (fun i v hj => by
    rw [Addr.add_lit, Nat.zero_add]
    match i, hj with
    | 0, hj => simpa [World.cell?, hg] using hj
    | 1, hj => simpa [World.cell?, hg] using hj
    | i + 2, hj => simp at hj) (fun v hv => by
      simp only [List.mem_cons, List.not_mem_nil, or_false] at hv
      rcases hv with rfl | rfl <;> rfl)
theorem ownsRow_cells {w : World} {base size n : Nat} {e : TypeId} {v : Value} {xs : List Value} (h : w.ownsRow base e size v n xs) : ∀ k, v.ownBlock = some k → ∃ c fz, w.heap[k]? = some (.cells c e fz) := by
  intro k hk
  rcases h.2 with ⟨rfl, _⟩ | ⟨g, cap, cur, rfl, _, hg, _⟩
  · simp [Value.ownBlock] at hk
  · simp [Value.ownBlock] at hk
    subst hk
    exact ⟨cur, _, hg⟩
theorem ownsRow_chg {S : Nat → Prop} {w w' : World} {base size n : Nat} {e : TypeId} {v : Value} {xs : List Value} (h : w.ownsRow base e size v n xs) (hc : Chg S w w') (hs : ∀ b, v.ownBlock = some b → ¬ S b) : w'.ownsRow base e size v n xs := by
  obtain ⟨h1, h2⟩ := h
  refine ⟨h1, h2.imp id ?_⟩
  rintro ⟨g, cap, cur, rfl, hg, hh, r⟩
  exact ⟨g, cap, cur, rfl, hg, hc.heap hh (hs g rfl), r⟩
theorem ownsRow_form {w : World} {base size n : Nat} {e : TypeId} {v : Value} {xs : List Value} (h : w.ownsRow base e size v n xs) : ∃ A c, v = .slice A n c := by
  rcases h.2 with ⟨rfl, rfl⟩ | ⟨g, cap, cur, rfl, _⟩
  · exact ⟨_, _, rfl⟩
  · exact ⟨_, _, rfl⟩
section
variable {P : Program} {w : World}
theorem wpList_app2 {ops : Array Oper} {rest : List Oper} {o : Oper} {a : Act} {Q : Exit → Act → World → Prop} (hgd : o.guard = none) (s x : Operand) (t tx : TypeId)
    (ho : o.op = .call { callee := .builtin .append, args := #[s, x], argTypes := #[t, tx] })
    (base : Nat) (e : TypeId) (z : Value) (size bytes : Nat) (hinfo : (P.info? e).map (fun i => (i.zero, i.size, i.bytes)) = some (some z, size, bytes)) (ht : P.underlying t = some (.slice e))
    (hzs : z.cells.size = size) (hsz : 0 < size)
    (v xv : Value) (n m : Nat) (xs news : List Value) (hs : a.eval s = v) (hx : a.eval x = xv)
    (hown : w.ownsRow base e size v n xs) (hsrc : Src P size tx xv m news w)
    (hbytes : (n + m) * bytes ≤ 140737488355328) (h63 : n + m ≤ maxLen) (hbase : base ≤ w.heap.size)
    (h : ∀ v' w', w'.ownsRow base e size v' (n + m) (xs ++ news) → w.grownBy w' v.ownBlock → (v'.ownBlock = v.ownBlock ∨ v'.ownBlock = some w.heap.size) → wpList P ops Q rest (a.put o.dst v') w') : wpList P ops Q (o :: rest) a w := by
  refine wpList_plain hgd fun _ hK => ?_
  exact wp_app2 s x t tx ho base e z size bytes hinfo ht hzs hsz v xv n m xs news hs hx hown hsrc hbytes h63 hbase (fun v' w' h1 h2 h3 => hK _ _ (h v' w' h1 h2 h3))
end

/-- The blocks that a journal itself is. -/
def JS (j : Nat) (va vp : Value) : Nat → Prop := fun i => i = j ∨ some i = va.ownBlock ∨ some i = vp.ownBlock

set_option maxHeartbeats 3200000 in
theorem add_calls (w : World) (base j d : Nat) (k : ByteArray) (A A2 AP : Option Addr) (n c n2 c2 np cp : Nat) (sz sz2 : Nat) (ps : List (List UInt8)) (p : List UInt8)
    (h : JCells w j d k (.slice A n c) (.slice AP np cp) sz false) (ho : OwnB w base (.slice A n c) ps.flatten) (hp : w.ownsRow base 82 2 (.slice AP np cp) np (partsC 0 ps))
    (hl : ps.flatten.length = n) (hb : Bytes w (.slice A2 n2 c2) p) (hl2 : p.length = n2) (hn : n + n2 ≤ 1099511627776) (hnp : np ≤ 1099511627776) (hsz : sz + sz2 ≤ 1099511627776) (hbase : base ≤ w.heap.size) :
    Calls Try.prog 30 #[.pointer (some ⟨j, 0, none⟩), .slice A2 n2 c2, .int .i64 (sz2 : Int)] w fun e w' => e = .returned (.tuple #[]) ∧ ∃ va' vp', JCells w' j d k va' vp' (sz + sz2) false ∧ OwnB w' base va' (ps ++ [p]).flatten ∧ w'.ownsRow base 82 2 vp' (np + 1) (partsC 0 (ps ++ [p])) ∧
      Chg (JS j (.slice A n c) (.slice AP np cp)) w w' ∧ From w (.slice A n c) va' ∧ From w (.slice AP np cp) vp' := by
  have HJ := Lib.hid h
  have HO := Lib.hid ho
  have HP := Lib.hid hp
  have HB := Lib.hid hb
  have HL := Lib.hid hl
  have HL2 := Lib.hid hl2
  have c2' := h.c2
  have hjn : ∀ {e : TypeId} {size m : Nat} {v : Value} {xs : List Value}, e ≠ 55 → w.ownsRow base e size v m xs → ¬ some j = v.ownBlock := by
    intro e size m v xs he ho hx
    obtain ⟨cc, fz, hcc⟩ := ownsRow_cells ho j hx.symm
    have := (show w.heap[j]? = _ from HJ.out).symm.trans hcc
    cases this
    exact he rfl
  have hja : ¬ some j = (Value.slice A n c).ownBlock := hjn (by decide) HO.out
  have hjp : ¬ some j = (Value.slice AP np cp).ownBlock := hjn (by decide) HP.out
  have hap : ∀ b, (Value.slice AP np cp).ownBlock = some b → ¬ some b = (Value.slice A n c).ownBlock := by
    intro b hb hx
    obtain ⟨cc, fz, hcc⟩ := ownsRow_cells HP.out b hb
    obtain ⟨cc2, fz2, hcc2⟩ := ownsRow_cells HO.out b hx.symm
    have := hcc.symm.trans hcc2
    cases this
  clear h ho hp hb hl hl2
  go_enter Try.func30, Try.ntmps30
  go_wp2_with (at_builtin; (refine wpList_app2 rfl (.tmp 16) (.tmp 17) 22 22 rfl base 5 (.int .u8 0) 1 1 infoU8 Try.underlying22 rfl (by decide) (.slice A n c) (.slice A2 n2 c2) n n2 (u8s ps.flatten) (u8s p) rfl rfl ?own ?src ?b1 ?b2 ?b3 ?_; (case own => exact OwnB.n HO.out HL.out); (case src => exact Src.ofBytes Try.underlying22 HB.out HL2.out); (case b1 => omega); (case b2 => unfold maxLen; omega); (case b3 => exact hbase); intro va' w0 howna hga hfroma; refine Hid.out ?_))
  refine Lib.hid ?_
  have hc0 : Chg (fun i => some i = (Value.slice A n c).ownBlock) w w0 := ⟨hga.os, hga.tape, hga.output, hga.size, fun i hi hn => hga.block i hi hn⟩
  have hj0 : JCells w0 j d k (.slice A n c) (.slice AP np cp) sz false := hc0.heap HJ.out hja
  have hO0 : OwnB w0 base va' (ps ++ [p]).flatten := .of howna (by rw [List.flatten_append, u8s_append]; simp)
  have f20 := hj0.fr 2
  have e20 := hj0.c2
  have hP0 := ownsRow_chg HP.out hc0 hap
  have hf0 : From w (.slice A n c) va' := From.ofApp hfroma
  obtain ⟨A3, n3, c3, rfl, HL3, HO3⟩ := hO0.form
  have hja0 : ¬ some j = (Value.slice A3 n3 c3).ownBlock := by
    intro e
    rcases hf0 j e.symm with e2 | e2
    · exact hja e2.symm
    · have := HJ.out.lt; omega
  have hpa0 : ∀ b, (Value.slice AP np cp).ownBlock = some b → ¬ some b = (Value.slice A3 n3 c3).ownBlock := by
    intro b hb hx
    obtain ⟨cc, fz, hcc⟩ := ownsRow_cells hP0 b hb
    obtain ⟨cc2, fz2, hcc2⟩ := ownsRow_cells HO3.out b hx.symm
    have := hcc.symm.trans hcc2
    cases this
  have hn3 : n3 = n + n2 := by have := HL3.out; have h1 := HL.out; have h2 := HL2.out; simp only [List.flatten_append, List.length_append, List.flatten_cons, List.flatten_nil, List.append_nil] at this; omega
  subst hn3
  have hc1 : Chg (JS j (.slice A n c) (.slice AP np cp)) w (w0.setCell ⟨j, 2, none⟩ (.slice A3 (n + n2) c3)) := (hc0.mono (S' := JS j (.slice A n c) (.slice AP np cp)) (fun i _ hi => .inr (.inl hi))).setCell (p := ⟨j, 2, none⟩) (.inr (.inl rfl)) _
  have hcs : Chg (One j) w0 (w0.setCell ⟨j, 2, none⟩ (.slice A3 (n + n2) c3)) := Chg.put _ _ _ _
  have hj1' := hj0.set2 (.slice A3 (n + n2) c3)
  have hP1 := ownsRow_chg hP0 hcs (fun b hb e => by have e : b = j := e; subst e; exact hjp hb.symm)
  have hO1 := HO3.out.chg hcs (fun b hb e => by have e : b = j := e; subst e; exact hja0 hb.symm)
  clear hga howna hc0 hj0 hO0 hcs hP0 HO3
  have HC1 := Lib.hid hc1
  have HJ1 := Lib.hid hj1'
  have HP1 := Lib.hid hP1
  have HO1 := Lib.hid hO1
  have HF := Lib.hid hf0
  clear hc1 hj1' hP1 hO1 hf0 c2'
  go_wp2
  clear e20 f20
  have hs01 : w.heap.size ≤ (w0.setCell ⟨j, 2, none⟩ (.slice A3 (n + n2) c3)).heap.size := HC1.out.size
  generalize w0.setCell ⟨j, 2, none⟩ (.slice A3 (n + n2) c3) = w1 at *
  have e2 := HJ1.out.c2
  have e3 := HJ1.out.c3
  have f3 := HJ1.out.fr 3
  have hj1 := HJ1.out.lt
  have e2a := fun o => ((Chg.refl No w1).alloc o).cell e2 (fun x => x)
  have e3a := fun o => ((Chg.refl No w1).alloc o).cell e3 (fun x => x)
  go_region_law (rw [if_pos (by rfl)]; refine wp_app2 (.tmp 25) (.tmp 33) 53 53 (by rfl) base 82 (.agg #[.int .i64 0, .int .i64 0]) 2 16 infoPart Try.underlying53 (by rfl) (by decide) (.slice AP np cp) (.slice (some ⟨w1.heap.size, 0, none⟩) 1 1) np 1 (partsC 0 ps) [.int .i64 (n : Int), .int .i64 ((n : Int) + (n2 : Int))] (by rfl) (by rfl) (by exact World.ownsRow.alloc HP1.out _) (by exact Src.part Try.underlying53 _ _ (heap_alloc_new w1 _)) (by omega) (by unfold maxLen; omega) (by simp; omega) ?_; intro vp' w2 hownp hgp hfromp; obtain ⟨AQ, cQ, rfl⟩ := ownsRow_form hownp; have hc2 : Chg (fun i => some i = (Value.slice AP np cp).ownBlock) w1 w2 := Chg.grown (((Chg.refl _ w1).alloc _).drew) hgp (fun k hk => .inr hk.symm); have hjc2 : JCells w2 j d k (.slice A3 (n + n2) c3) (.slice AP np cp) sz false := hc2.heap HJ1.out hjp; have cc2 := hjc2.c3; have fr2 := hjc2.fr 3)
  all_goals (
    have hO2 := HO1.out.chg hc2 (fun b hb e => hpa0 b e.symm hb.symm)
    have hcs3 : Chg (One j) w2 (w2.setCell ⟨j, 3, none⟩ (.slice AQ (np + 1) cQ)) := Chg.put _ _ _ _
    have hjc3 := hjc2.set3 (.slice AQ (np + 1) cQ)
    have hfp : From w (.slice AP np cp) (.slice AQ (np + 1) cQ) := fun b hb => (From.ofApp hfromp b hb).imp id (fun e => by simp at e; omega)
    have hjq : ¬ some j = (Value.slice AQ (np + 1) cQ).ownBlock := by
      intro e
      rcases hfp j e.symm with e2 | e2
      · exact hjp e2.symm
      · have := HJ.out.lt; omega
    have hO3 := hO2.chg hcs3 (fun b hb e => by have e : b = j := e; subst e; exact hja0 hb.symm)
    have hP3 := ownsRow_chg hownp hcs3 (fun b hb e => by have e : b = j := e; subst e; exact hjq hb.symm)
    have hc3 : Chg (JS j (.slice A n c) (.slice AP np cp)) w (w2.setCell ⟨j, 3, none⟩ (.slice AQ (np + 1) cQ)) := (HC1.out.trans hc2 (fun i _ hi => .inr (.inr hi))).trans hcs3 (fun i _ hi => .inl hi)
    clear hgp hownp hc2 hjc2 cc2 fr2 hO2 hcs3 hfromp e2a e3a e2 e3 f3
    have HO3 := Lib.hid hO3
    have HP3 := Lib.hid hP3
    have HC3 := Lib.hid hc3
    have HJ3 := Lib.hid hjc3
    clear hO3 hP3 hc3 hjc3
    generalize w2.setCell ⟨j, 3, none⟩ (.slice AQ (np + 1) cQ) = w3 at *
    have e4 := HJ3.out.c4
    have f4 := HJ3.out.fr 4
    have hw1 : IntKind.i64.wrap ((sz : Int) + (sz2 : Int)) = (sz : Int) + (sz2 : Int) := by rw [IntKind.wrap_i64]; omega
    go_wp2
    go_end0
    have hcs4 : Chg (One j) w3 (w3.setCell ⟨j, 4, none⟩ (.int .i64 ((sz : Int) + (sz2 : Int)))) := Chg.put _ _ _ _
    refine ⟨rfl, _, _, HJ3.out.set4 (sz + sz2) _ (by omega), HO3.out.chg hcs4 (fun b hb e => by have e : b = j := e; subst e; exact hja0 hb.symm), ?_, HC3.out.trans hcs4 (fun i _ hi => .inl hi), HF.out, hfp⟩
    have h := ownsRow_chg HP3.out hcs4 (fun b hb e => by have e : b = j := e; subst e; exact hjq hb.symm)
    rw [partsC_snoc]
    have e1 : (0 + ps.flatten.length : Nat) = n := by have := HL.out; omega
    have e2 : p.length = n2 := HL2.out
    rw [e1, e2]
    exact h)

theorem len_calls (w : World) (j d : Nat) (k : ByteArray) (va : Value) (AP : Option Addr) (np cp sz : Nat) (cut : Bool) (h : JCells w j d k va (.slice AP np cp) sz cut) :
    Calls Try.prog 20 #[.pointer (some ⟨j, 0, none⟩)] w fun e w' => e = .returned (.int .i64 (np : Int)) ∧ w' = w := by
  have e3 := h.c3
  go_enter Try.func20, Try.ntmps20
  go_wp2
  go_ret
  exact ⟨rfl, rfl⟩
theorem len_none (w : World) : Calls Try.prog 20 #[.pointer none] w fun e w' => e = .returned (.int .i64 0) ∧ w' = w := by
  go_enter Try.func20, Try.ntmps20
  go_wp2
  go_ret
  exact ⟨rfl, rfl⟩
theorem size_calls (w : World) (j d : Nat) (k : ByteArray) (va vp : Value) (sz : Nat) (cut : Bool) (h : JCells w j d k va vp sz cut) :
    Calls Try.prog 13 #[.pointer (some ⟨j, 0, none⟩)] w fun e w' => e = .returned (.int .i64 (sz : Int)) ∧ w' = w := by
  have e4 := h.c4
  go_enter Try.func13, Try.ntmps13
  go_wp2
  go_ret
  exact ⟨rfl, rfl⟩
theorem size_none (w : World) : Calls Try.prog 13 #[.pointer none] w fun e w' => e = .returned (.int .i64 0) ∧ w' = w := by
  go_enter Try.func13, Try.ntmps13
  go_wp2
  go_ret
  exact ⟨rfl, rfl⟩
end Go.Proofs.Ytbbfjnfmfigcfaa
