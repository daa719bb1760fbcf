/-
  StoreCuts, StoreCutsClose: in one text.
-/
import Derived.Test.YtccphnkdnifpfaaBa17
import Derived.Test.YtccphnkdnifpfaaBa10
import Derived.Test.YtccphnkdnifpfaaBa14
import Derived.Test.YtccphnkdnifpfaaRows
import Derived.Test.YtccphnkdnifpfaaBa1
namespace Go.Proofs.Ytccphnkdnifpfaa
set_option linter.unnecessarySimpa false
open Go.RowKit Go.Shelf
set_option linter.unusedVariables false
set_option linter.unusedSimpArgs false
set_option maxRecDepth 100000

attribute [local go_sem] Oper.semAt_some

section
variable {F : Fence} {nF : Nat} {P : Program} {w : World}
theorem wpListIn_app2 {ops : Array Oper} {rest : List Oper} {o : Oper} {a : Act} {Q : Exit → Act → World → Prop} (hgd : o.guard = none) (s x : Operand) (t tx : TypeId)
    (ho : o.op = .call { callee := .builtin .append, args := #[s, x], argTypes := #[t, tx] })
    (base : Nat) (e : TypeId) (z : Value) (size bytes : Nat) (hinfo : (P.info? e).map (fun i => (i.zero, i.size, i.bytes)) = some (some z, size, bytes)) (ht : P.underlying t = some (.slice e))
    (hzs : z.cells.size = size) (hsz : 0 < size)
    (v xv : Value) (n m : Nat) (xs news : List Value) (hs : a.eval s = v) (hx : a.eval x = xv)
    (hown : w.ownsRow base e size v n xs) (hsrc : Src P size tx xv m news w)
    (hbytes : (n + m) * bytes ≤ 140737488355328) (h63 : n + m ≤ maxLen) (hbase : base ≤ w.heap.size)
    (h : ∀ v' w', w'.ownsRow base e size v' (n + m) (xs ++ news) → w.grownBy w' v.ownBlock → (v'.ownBlock = v.ownBlock ∨ v'.ownBlock = some w.heap.size) → wpListIn F nF P ops Q rest (a.put o.dst v') w') : wpListIn F nF P ops Q (o :: rest) a w := by
  obtain ⟨i, hi, hz0, hz1, hz2⟩ := info_parts hinfo
  refine wpListIn_plain hgd fun K hK => ?_
  obtain ⟨v', w', hr, h2, h3, h4⟩ := run_append_own_src2 (P := P) (w := w) base t tx o.type e i z size bytes ht hi hz0 hz1 hz2 hzs hsz v n xs hown xv m news hsrc hbytes h63 hbase
  unfold Oper.wpIn
  refine ⟨by simp [Oper.about, ho, resolve, Target.leads, Sem.run_pure], ?_⟩
  rw [Oper.semAt_plain F _ _ (by rw [ho]; intro c hc'; cases hc')]
  simp [execOp, ho, resolve, invoke, builtin, hs, hx, hr, Result.andThen]
  exact hK _ _ (h v' w' h2 h3 h4)
end
theorem SG.dm {lf : Nat} {x : List UInt8} {jc : Bool} {w : World} {S : Nat → Prop} {base s mp j d m wr : Nat} {th : Bool} {ps : List (List UInt8)} (h : SG lf x jc w S base s mp j d m wr th ps) : S d ∧ S m := by
  obtain ⟨v, SJ, g1, g2, g3, -⟩ := h
  obtain ⟨A, n, c, AP, np, cp, AF, nf, cf, h1, h2, h3, h4, h5, h6, h7, h8, h9, h10, h11, h12, h13, h14, h15, h16, -⟩ := g2
  exact ⟨(g3 d h15).1, (g3 m h16).1⟩
theorem SG.len {lf : Nat} {x : List UInt8} {jc : Bool} {w : World} {S : Nat → Prop} {base s mp j d m wr : Nat} {th : Bool} {ps : List (List UInt8)} (h : SG lf x jc w S base s mp j d m wr th ps) :
    Calls Try.prog 21 #[.pointer (some ⟨s, 0, none⟩)] w fun e w' => e = .returned (.int .i64 (ps.length : Int)) ∧ w' = w := by
  obtain ⟨v, hsc⟩ := h.ids
  have h := slen_calls w base s mp j v _ hsc
  rw [List.length_map] at h
  exact h.mono fun e w' ⟨a, b⟩ => ⟨a, b.symm⟩
/-- Mend. -/
theorem sg_mend (lf : Nat) (x : List UInt8) (jc : Bool) (w : World) (S : Nat → Prop) (base s mp j d m wr : Nat) (th : Bool) (ps : List (List UInt8)) (h : SG lf x jc w S base s mp j d m wr th ps) :
    Calls Try.prog 23 #[.pointer (some ⟨d, 0, none⟩)] w fun e w' => e = .returned (.int .i64 0) ∧ (∀ f, DiskC lf w d m wr f → DiskAt w' d m wr f) ∧ Chg (One d) w w' := by
  obtain ⟨f, hf⟩ := h.mend
  refine (dmend_calls lf w d m wr f hf).mono ?_
  rintro e w' ⟨he, hD, hc⟩
  exact ⟨he, fun g hg => ⟨hD.1, by rw [← hf.one hg]; exact hD.2⟩, hc⟩
theorem gone_bytes (w : World) (c : Nat) (hc : 7 ≤ c) (hm : c ≤ maxLen) (t : TypeId) (z : Nat × Nat) : True := trivial
set_option maxHeartbeats 25600000 in
theorem storeCuts_core (n : Nat) (hn : 3 ≤ n) (w : World) (L : Option Addr) (nl cl : Nat) (ls : List (List UInt8)) (hL : Sl2 w (.slice L nl cl) ls) (hl : ls.length = nl) (x : Int) (hx1 : -9223372036854775808 ≤ x) (hx2 : x ≤ 9223372036854775807) :
    CallsIn Fence.wide n Try.prog 5 #[.slice L nl cl, .int .i64 x] w fun e W' => e = .returned (.bool true) ∧ Below w.heap.size w W' := by
  have h1 : 1 ≤ n := by omega
  have kc := fun (w : World) (C : Array Value) (n c : Nat) => Lib.run_convert_bytes_const (P := Try.prog) w 30 5 C n c Try.underlying30 Try.underlying5
  have HL := Lib.hid hl
  have HSL := Lib.hid hL
  obtain ⟨lf, hlf⟩ : ∃ lf : Nat, max x 0 = (lf : Int) := ⟨(max x 0).toNat, by omega⟩
  have hlf2 : lf ≤ 9223372036854775807 := by omega
  clear hL hl
  refine callsIn_of_wp_marks Try.func5 rfl trivial ?_ rfl
  simp only [Try.ntmps5, List.size_toArray, List.length_cons, List.length_nil, Nat.reduceAdd, Nat.reduceSub, Array.replicate_succ, Array.replicate_zero, List.push_toArray, List.append_toArray, List.nil_append, List.cons_append]
  gi_wp2_with fail
  refine ⟨trivial, ?_⟩
  refine (callsIn_wide.2 (swakes_calls _)).mono ?_
  rintro e w1 ⟨rfl, hc1⟩
  have HR1 : Hid (Boxed w1 w.heap.size 4 (.bool false)) := hc1.heap (Boxed.new w 4 (.bool false)) (fun x => x)
  have HC1 : Hid (Chg No w w1) := ((Chg.refl No w).alloc _).no hc1
  have hg4 : w.heap.size < w1.heap.size := HR1.out.lt
  clear hc1
  gi_wp2_with fail
  refine ⟨trivial, ?_⟩
  refine (callsIn_wide.2 (new_calls w1)).mono ?_
  rintro e w2 ⟨rfl, hD, hc2⟩
  have HMO := Lib.hid (made_open w1 w2 hc2 hD (by have := hD.cells; have h1 := (Array.getElem?_eq_some_iff.1 hD.1).1; omega))
  clear hD hc2
  generalize hd : w1.heap.size + 1 = d at *
  generalize hm : w1.heap.size = m at *
  gi_wp2_with fail
  refine ⟨trivial, ?_⟩
  refine (callsIn_wide.2 HMO.out).mono ?_
  rintro e w3 ⟨s, mp, j, S, rfl, hS, hc3⟩
  have HCU := Lib.hid (sd_cut w3 S m s mp j d m 0 false [] hS lf)
  have HC3 := Lib.hid (HC1.out.no hc3)
  have HR3 : Hid (Boxed w3 w.heap.size 4 (.bool false)) := hc3.heap HR1.out (fun x => x)
  have HSl := Lib.hid hS.lt
  clear hS hc3 HMO HC1 HR1 hd hm
  gi_wp2_with fail
  refine ⟨trivial, ?_⟩
  refine (callsIn_wide.2 HCU.out).mono ?_
  rintro e w4 ⟨rfl, hS4, hc4⟩
  have HC4 := Lib.hid (HC3.out.newer hc4 (fun i hi => by have := (HSl.out i hi).1; omega))
  have HR4 : Hid (Boxed w4 w.heap.size 4 (.bool false)) := hc4.heap HR3.out (fun hi => by have := (HSl.out _ hi).1; omega)
  have HS4 := Lib.hid hS4
  clear hS4 hc4 HCU HC3 HR3
  gi_wp2_with fail
  refine ⟨trivial, ?_⟩
  refine (callsIn_wide.2 (swakes_calls w4)).mono ?_
  rintro e w5 ⟨rfl, hc5⟩
  have HC5 := Lib.hid (HC4.out.no hc5)
  have HR5 : Hid (Boxed w5 w.heap.size 4 (.bool false)) := hc5.heap HR4.out (fun x => x)
  have HS5 := Lib.hid (HS4.out.no hc5)
  clear hc5 HC4 HR4 HS4 HSl
  have X6 := (Chg.refl No w5).alloc (.cells #[.slice none 0 0] 42)
  have HC6 := Lib.hid (HC5.out.no X6)
  have HR6 : Hid (Boxed (w5.alloc (.cells #[.slice none 0 0] 42)) w.heap.size 4 (.bool false)) := X6.heap HR5.out (fun x => x)
  have HG6 := Lib.hid (Boxed.new w5 42 (.slice none 0 0))
  have HS6 := Lib.hid (HS5.out.no X6)
  have hz6 : Hid ((w5.alloc (.cells #[.slice none 0 0] 42)).heap.size = w5.heap.size + 1) := World.size_alloc _ _
  have hwz : w.heap.size < w5.heap.size := HR5.out.lt
  have HLT5 : Hid (∀ i, S i → i < w5.heap.size) := fun i hi => (HS5.out.lt i hi).2
  clear X6
  gi_wp2
  generalize w5.alloc (.cells #[.slice none 0 0] 42) = w6 at *
  generalize w5.heap.size = g8 at *
  clear HC5 HR5 HS5
  have hzz := hz6.out
  have HZZ := Lib.hid hzz
  clear hzz hz6
  gi_loopw [45] (fun i wr => ∃ (k : Nat) (ps : List (List UInt8)) (S : Nat → Prop) (lf : Nat) (y : List UInt8) (jc : Bool) (nw : Nat) (th : Bool) (A8 : Option Addr) (c8 : Nat), k ≤ nl ∧ k ≤ 40 ∧ i = .int .i64 (k : Int) ∧ nw ≤ 200 * k ∧ lf ≤ 9223372036854775807 ∧ Hid (jc = false → y = []) ∧ Hid (stepF y = none) ∧ Hid (y.length ≤ 5000) ∧
      Hid (okF [] ps = true) ∧ Hid (ps.length ≤ k) ∧ Hid ((encF ps).length ≤ 4200 * k) ∧ Hid (∀ r ∈ ps, r.length ≤ 4097) ∧ Hid (SG lf y jc wr S m s mp j d m nw th ps) ∧ Hid (Boxed wr w.heap.size 4 (.bool false)) ∧ Hid (Boxed wr g8 42 (.slice A8 ps.length c8)) ∧ Hid (wr.ownsRow (g8 + 1) 32 1 (.slice A8 ps.length c8) ps.length ((ps.map idF).map u64v)) ∧
      Hid (¬ S g8) ∧ Hid (¬ S w.heap.size) ∧ Hid (∀ b, (Value.slice A8 ps.length c8).ownBlock = some b → ¬ S b) ∧ g8 < wr.heap.size ∧ Hid (Chg No w wr))
    (fun i _ => nl - (intOf i).toNat)
  case atStart =>
    exact ⟨0, [], S, lf, [], false, 0, false, none, 0, by omega, by omega, rfl, by omega, hlf2, fun _ => rfl, by simp [Hid, stepF], Nat.zero_le _, rfl, Nat.le_refl _, by simp [Hid, encF], (fun r h => by cases h), HS6.out, HR6.out, HG6.out, World.ownsRow_nil _ _ _ _, (fun h => by have := HLT5.out _ h; omega), (fun h => by have := (HS6.out.lt _ h).1; omega), (fun b hb => by cases hb), by have := HZZ.out; omega, HC6.out⟩
  case round =>
    obtain ⟨k, ps, S', lf', y, jc, nw, th, A8, c8, hk, hk40, rfl, hnw, hlf', HJY, HST, HYL, HOK, HPL, HPE, HPR, HSr, HR, HG, HRW, HNG, HN0, HNB, hg8, HC⟩ := hrel
    have hwr := HC.out.size
    rcases Nat.lt_or_ge k nl with hlt | hge
    · have i1 : (k : Int) < (nl : Int) := by omega
      have hkl : k < ls.length := by have := HL.out; omega
      obtain ⟨lb, lo, rfl, hget⟩ := HSL.out.get (by omega)
      obtain ⟨A2, q2, c2, hcell, hby, HQ2⟩ := hget k hkl
      have hcell := HC.out.cell hcell (fun x => x)
      have HBP := Lib.hid hby
      obtain ⟨p, hp⟩ : ∃ p, ls[k] = p := ⟨_, rfl⟩
      rw [hp] at HBP HQ2
      clear hp hby hget
      by_cases h40 : k = 40
      · have i2 : ((k : Int) == 40) = true := by rw [beq_iff_eq]; omega
        clear h40
        generalize wr = wt at *
        have HMD := Lib.hid (sg_mend lf' y jc wt S' m s mp j d m nw th ps HSr.out)
        have HDM := Lib.hid HSr.out.dm
        have HSLT := Lib.hid HSr.out.lt
        have hen2 : (encF ps).length ≤ 1000000 := by have := HPE.out; omega
        have hpl40 : ps.length ≤ 40 := by have := HPL.out; omega
        have hnw9 : nw ≤ 8000 := by omega
        clear HSL HL
        gi_wp2_with fail
        refine ⟨trivial, ?_⟩
        refine (callsIn_wide.2 HMD.out).mono ?_
        rintro e w1' ⟨rfl, hDm, hcm⟩
        have HSO := Lib.hid (sg_open lf' y jc w1' wt S' m s mp j d m nw th ps HSr.out hcm hDm HST.out (by have := HYL.out; omega) (fun p hp => Nat.le_trans (HPR.out p hp) (by omega)) hen2 (by omega) (by omega) HOK.out)
        have HCM := Lib.hid hcm
        have hsm := hcm.size
        clear hcm hDm HMD
        gi_wp2_with fail
        refine ⟨trivial, ?_⟩
        refine (callsIn_wide.2 HSO.out).mono ?_
        rintro e w2' ⟨s2, mp2, j2, S2, nw2, rfl, hnw2, hS2, hc2', hb1, hb2, hb3, hb4⟩
        have hdS : S' d := HDM.out.1
        have hmS : S' m := HDM.out.2
        have HC2' : Hid (Chg S' wt w2') := ((HCM.out.mono (S' := S') (fun i _ e => by have e : i = d := e; rw [e]; exact hdS)).trans (hc2'.mono (S' := S') (fun i _ e => by rcases e with e | e; rw [e]; exact hdS; rw [e]; exact hmS)) (fun i _ x => x))
        have HS2 := Lib.hid hS2
        have HR2 : Hid (Boxed w2' w.heap.size 4 (.bool false)) := HC2'.out.heap HR.out HN0.out
        have HG2 : Hid (Boxed w2' g8 42 (.slice A8 ps.length c8)) := HC2'.out.heap HG.out HNG.out
        have HRW2 := Lib.hid (ownsRow_chg HRW.out HC2'.out (fun b hb hs => HNB.out b hb hs))
        have HCw2 := Lib.hid (HC.out.newer HC2'.out (fun i hi => by have := (HSLT.out i hi).1; omega))
        have hsz2 := HC2'.out.size
        have hw2s := HCw2.out.size
        have HS2L := Lib.hid hS2.lt
        have HLEN := Lib.hid (fun V (hV : Chg No w2' V) => show Calls Try.prog 21 #[.pointer (some ⟨s2, 0, none⟩)] V (fun e w' => e = .returned (.int .i64 (ps.length : Int)) ∧ w' = V) from by
          obtain ⟨sv', hsc'⟩ := (HS2.out.no hV).ids
          have h := slen_calls V m s2 mp2 j2 sv' _ hsc'
          rw [List.length_map] at h
          exact h.mono fun e w' ⟨a, b⟩ => ⟨a, b.symm⟩)
        have hne0 : ((ps.length : Int) != (ps.length : Int)) = false := by simp
        have c8' := HG2.out.cell
        clear hS2 hc2' HSO HSr HR HG HRW HC HCM HDM
        gi_wp2
        refine wpIn_wide.2 ?_
        go_quiet ((go_at_call 21; exact Calls.quiet_of_same (HLEN.out _ ((Chg.refl No w2').drewN _))))
        have HS3 : Hid (SD (w2'.drewN nq) S2 m s2 mp2 j2 d m nw2 th ps) := HS2.out.no ((Chg.refl No w2').drewN nq)
        have HR3 : Hid (Boxed (w2'.drewN nq) w.heap.size 4 (.bool false)) := HR2.out
        have HG3 : Hid (Boxed (w2'.drewN nq) g8 42 (.slice A8 ps.length c8)) := HG2.out
        have HRW3 : Hid ((w2'.drewN nq).ownsRow (g8 + 1) 32 1 (.slice A8 ps.length c8) ps.length ((ps.map idF).map u64v)) := HRW2.out
        have HC3 : Hid (Chg No w (w2'.drewN nq)) := HCw2.out.drewN nq
        have hz3 : (w2'.drewN nq).heap.size = w2'.heap.size := rfl
        have HZ3 := Lib.hid hz3
        clear HS2 HR2 HG2 HRW2 HCw2 HLEN c8' hz3
        generalize w2'.drewN nq = w3' at *
        obtain ⟨sv3, hsc3⟩ := HS3.out.ids
        have X4 := (Chg.refl No w3').alloc (.cells #[.int .i64 0] 3)
        have HSI := Lib.hid (since_calls (w3'.alloc (.cells #[.int .i64 0] 3)) m s2 mp2 j2 sv3 _ (hsc3.chg X4 (fun x => x) (fun x => x) (fun _ _ x => x)) 0 (by omega) (by omega) (by rw [List.length_map]; omega))
        have HX4 := Lib.hid X4
        have hz4 : Hid ((w3'.alloc (.cells #[.int .i64 0] 3)).heap.size = w3'.heap.size + 1) := World.size_alloc _ _
        have HI4 := Lib.hid (Boxed.new w3' 3 (.int .i64 0))
        clear hsc3 X4
        gi_wp2_with (refine ⟨trivial, ?_⟩; gi_at_call 19; refine (callsIn_wide.2 HSI.out).mono ?_; rintro e w5' ⟨A5, m5, c5, rfl, rfl, hsl5, hm5, hob5⟩)
        have hdz : List.drop (Int.toNat 0) (ps.map idF) = ps.map idF := rfl
        rw [hdz] at hsl5
        clear hdz HSI
        have hg15 := HZ3.out
        obtain ⟨g15, hg15e⟩ : ∃ g, w3'.heap.size = g := ⟨_, rfl⟩
        have HG15 := Lib.hid hg15e
        have hg8g : g8 < g15 := by have := HZ3.out; omega
        have hwg : w.heap.size < g15 := by omega
        have hob6 : ∀ b, (Value.slice A5 m5 c5).ownBlock = some b → b < g15 := fun b hb => by
          obtain ⟨cc, fz, hcc⟩ := hob5 b hb
          have hl := (Array.getElem?_eq_some_iff.1 hcc).1
          rw [hz4.out] at hl
          rcases Nat.lt_or_ge b g15 with h | h
          · exact h
          · have hbe : b = w3'.heap.size := by have := HG15.out; omega
            rw [hbe, heap_alloc_new] at hcc
            simp at hcc
        have hob7 : ∀ b, (Value.slice A8 ps.length c8).ownBlock = some b → b < g15 := fun b hb => by have := (World.ownsRow.lt HRW3.out b hb).2; have := HG15.out; omega
        have hz45 := hz4.out
        rw [HG15.out] at hz45 ⊢
        have X5 := HX4.out.alloc (.cells #[.slice A5 m5 c5] 42)
        have G5 := Boxed.new (w3'.alloc (.cells #[.int .i64 0] 3)) 42 (.slice A5 m5 c5)
        rw [hz45] at G5
        have G15 : Boxed ((w3'.alloc (.cells #[.int .i64 0] 3)).alloc (.cells #[.slice A5 m5 c5] 42)) g15 3 (.int .i64 0) := by
          have := HI4.out.alloc (.cells #[.slice A5 m5 c5] 42)
          rw [HG15.out] at this
          exact this
        have hsl6 := hsl5.no ((Chg.refl No (w3'.alloc (.cells #[.int .i64 0] 3))).alloc (.cells #[.slice A5 m5 c5] 42))
        have G8 : Boxed ((w3'.alloc (.cells #[.int .i64 0] 3)).alloc (.cells #[.slice A5 m5 c5] 42)) g8 42 (.slice A8 ps.length c8) := X5.heap HG3.out (fun x => x)
        have GR : Boxed ((w3'.alloc (.cells #[.int .i64 0] 3)).alloc (.cells #[.slice A5 m5 c5] 42)) w.heap.size 4 (.bool false) := X5.heap HR3.out (fun x => x)
        have HRW5 := Lib.hid (ownsRow_chg HRW3.out X5 (fun _ _ x => x))
        have HS5 := Lib.hid (HS3.out.no X5)
        have HC5 := Lib.hid (HC3.out.no X5)
        have hz5 : ((w3'.alloc (.cells #[.int .i64 0] 3)).alloc (.cells #[.slice A5 m5 c5] 42)).heap.size = g15 + 2 := by rw [World.size_alloc, hz45]
        clear hsl5 hob5 X5 HX4 HI4 hz45 hz4 HS3 HR3 HG3 HRW3 HC3
        generalize (w3'.alloc (.cells #[.int .i64 0] 3)).alloc (.cells #[.slice A5 m5 c5] 42) = w5' at *
        clear hg15e hg15
        refine wpIn_rangeFunc_C rfl h1 (gf := 75) (lb := #[.pointer (some ⟨g15 + 1, 0, none⟩)]) rfl trivial (enters_of Try.func75 (by kernel_rfl) rfl)
          (values_seq (n - 1) (by omega) g15 w5' A5 m5 c5 (ps.map idF) hsl6 (g15 + 1) G5 hm5 (by omega) hob6) (fun h k => h.trans k) (fun W l o o' hl h hc hw => belowK_b (by omega) W l o o' hl h hc hw) (fun _ => rfl) (fun pre x X Y row h _ _ => h)
          (fun (pre : List Nat) W => Boxed W g15 3 (.int .i64 (pre.length : Int)) ∧ Chg (One g15) w5' W)
          (fun _ => False)
          ?own1b
          (fun _ _ _ _ hs _ _ => hs.elim)
          ⟨G15, Chg.refl _ _⟩ ?frameb ?assignb ?bodyb ?doneb ?stopb
        case own1b =>
          rintro pre X Y row ⟨hb, hch⟩ hg hr
          exact ⟨boxed_kept hb hg hr, hch.grown hg (fun k e => .inl (by have := (hr k e).1; omega))⟩
        case assignb =>
          intro l x W K hK
          gi_wp2
          exact hK
        case stopb =>
          rintro D W hD h hK
          exact h.elim
        case bodyb =>
          rintro l pre x0 W ⟨b15, hch⟩ ⟨hpre, hx⟩
          have hpl : pre.length < ps.length := by
            have := (List.getElem?_eq_some_iff.1 hx).1
            simpa using this
          have hxe := (List.getElem?_eq_some_iff.1 hx).2
          have HPL2 : Hid ((pre ++ [x0]).length = pre.length + 1) := by rw [Hid, List.length_append]; rfl
          have hrw := ownsRow_chg HRW5.out hch (fun b hb e => by have := hob7 b hb; have e : b = g15 := e; omega)
          have b8 : Boxed W g8 42 (.slice A8 ps.length c8) := hch.heap G8 (fun e => by have e : g8 = g15 := e; omega)
          obtain ⟨gr, hA8⟩ : ∃ gr, A8 = some ⟨gr, 0, none⟩ := by
            rcases hrw.2 with ⟨he, h0⟩ | ⟨g, cap, cur, he, _⟩
            · simp only [Value.slice.injEq] at he; omega
            · simp only [Value.slice.injEq] at he
              exact ⟨g, he.1⟩
          subst hA8
          have hcid := @World.ownsRow.cells W (g8 + 1) 32 1 (.slice (some ⟨gr, 0, none⟩) ps.length c8) ps.length ((ps.map idF).map u64v) hrw gr rfl pre.length (u64v x0) (by
            rw [List.getElem?_map, hx]; rfl)
          rw [Addr.add_lit, Nat.zero_add] at hcid
          unfold u64v at hcid
          have hnn : pre.length < ps.length := hpl
          generalize hkk : pre.length = k at *
          generalize hpp : ps.length = pl at *
          have hki : (k : Int) < (pl : Int) := by omega
          have hk0 : (0 : Int) ≤ (k : Int) := by omega
          have hkb : (k : Int) < 9223372036854775807 := by omega
          have hxx : ((x0 : Int) != (x0 : Int)) = false := by simp
          have c15 := b15.cell
          have f15 := b15.frozen
          have c8' := b8.cell
          have hWs := hch.size
          have HB15 := Lib.hid b15
          have HCH := Lib.hid hch
          clear hkk hpp hpre hx hxe hrw b15 b8 hch
          gi_wp2
          try (refine wpIn_wide.2 ?_; go_quiet (skip); gi_wp2)
          have hcd : Chg (One g15) W (W.setCell ⟨g15, 0, none⟩ (.int .i64 ((k : Int) + 1))) := (Chg.refl (One g15) W).setCell (p := ⟨g15, 0, none⟩) (.inr rfl) _
          have hbl : Below g15 W (W.setCell ⟨g15, 0, none⟩ (.int .i64 ((k : Int) + 1))) := ⟨hcd.os, hcd.tape, hcd.output, hcd.size, fun q hq => hcd.block q (by omega) (fun e => by have e : q = g15 := e; omega)⟩
          refine ⟨(KeepsOthers.setCell _ _ _).from _, hbl, ?_, HCH.out.trans hcd (fun i _ x => x)⟩
          rw [HPL2.out]
          exact HB15.out.set _
        case doneb =>
          rintro D xs W hD hxs ⟨b15, hch⟩ hK
          have hWs := hch.size
          have bR : Boxed W w.heap.size 4 (.bool false) := hch.heap GR (fun e => by have e : w.heap.size = g15 := e; omega)
          have HBR := Lib.hid bR
          have HCW : Hid (Chg No w W) := HC5.out.trans hch (fun i hi e => by have e : i = g15 := e; omega)
          have hS2lt : ∀ i, S2 i → i < g15 ∧ m ≤ i := fun i hi => ⟨by have := (HS2L.out i hi).2; have := HG15.out; have := HZ3.out; omega, (HS2L.out i hi).1⟩
          have HSW : Hid (SD W S2 m s2 mp2 j2 d m nw2 th ps) := HS5.out.chg hch (fun i hi e => by have := (hS2lt i hi).1; have e : i = g15 := e; omega)
          have HKD := Lib.hid hK
          have hcm7 := hch
          clear hch bR b15 hK G15 G8 GR G5 hsl6 hcm7 HS5 HC5 HRW5
          have X6 := (Chg.refl No W).alloc (.cells #[.int .u8 103, .int .u8 111, .int .u8 110, .int .u8 101, .int .u8 32, .int .u8 111, .int .u8 110] 5 (7, 8))
          have HX6 := Lib.hid X6
          have HEN : Hid (Encodes (W.alloc (.cells #[.int .u8 103, .int .u8 111, .int .u8 110, .int .u8 101, .int .u8 32, .int .u8 111, .int .u8 110] 5 (7, 8))) (blobV (.slice (some ⟨W.heap.size, 0, none⟩) 7 7)) 0 [98, 103, 111, 110, 101, 32, 111, 110]) := by
            show Encodes _ _ _ _
            exact enc_blob _ _ _ _ [103, 111, 110, 101, 32, 111, 110] (Bytes.litMark 7 7 rfl (Nat.le_refl _) (by unfold maxLen; omega)) rfl (by decide)
          have HS6' := Lib.hid (HSW.out.no X6)
          have HRE := Lib.hid (recF_len [98, 103, 111, 110, 101, 32, 111, 110] (by decide))
          have HPU : Hid (Calls Try.prog 11 #[.pointer (some ⟨s2, 0, none⟩), blobV (.slice (some ⟨W.heap.size, 0, none⟩) 7 7)] (W.alloc (.cells #[.int .u8 103, .int .u8 111, .int .u8 110, .int .u8 101, .int .u8 32, .int .u8 111, .int .u8 110] 5 (7, 8))) fun e w' => ((∃ i : Nat, e = .returned (.tuple #[.int .u64 (i : Int), .int .i64 0]) ∧ ∃ v ids, SC w' m s2 mp2 j2 v ids ∧ (findI i ids).isSome = true) ∨ e = .returned (.tuple #[.int .u64 0, .int .i64 7])) ∧ Chg S2 (W.alloc (.cells #[.int .u8 103, .int .u8 111, .int .u8 110, .int .u8 101, .int .u8 32, .int .u8 111, .int .u8 110] 5 (7, 8))) w') := by
            cases hfi : findI (idF [98, 103, 111, 110, 101, 32, 111, 110]) (ps.map idF) with
            | none =>
              refine (put_new _ S2 m s2 mp2 j2 d m nw2 th ps HS6'.out _ [98, 103, 111, 110, 101, 32, 111, 110] (by decide) HEN.out hfi (by have := HRE.out.1; simp only [List.length_cons, List.length_nil] at this; omega) (by omega) (by omega)).mono ?_
              rintro e w' ⟨he, hS', hc⟩
              obtain ⟨v, hsc⟩ := hS'.ids
              exact ⟨.inl ⟨_, he, v, _, hsc, by rw [List.map_append, List.map_cons, List.map_nil, findI_snoc hfi]; rfl⟩, hc⟩
            | some q =>
              refine (put_there _ S2 m s2 mp2 j2 d m nw2 th ps HS6'.out (by omega) _ [98, 103, 111, 110, 101, 32, 111, 110] (by decide) HEN.out q hfi).mono ?_
              rintro e w' ⟨he, hc⟩
              refine ⟨?_, hc.mono (fun _ _ x => x.elim)⟩
              split at he
              · obtain ⟨v, hsc⟩ := (HS6'.out.no hc).ids
                exact .inl ⟨_, he, v, _, hsc, by rw [hfi]; rfl⟩
              · exact .inr he
          have hz6 := HX6.out.size
          have HRX : Hid (Boxed (W.alloc (.cells #[.int .u8 103, .int .u8 111, .int .u8 110, .int .u8 101, .int .u8 32, .int .u8 111, .int .u8 110] 5 (7, 8))) w.heap.size 4 (.bool false)) := HX6.out.heap HBR.out (fun x => x)
          have HKX : Hid ((W.alloc (.cells #[.int .u8 103, .int .u8 111, .int .u8 110, .int .u8 101, .int .u8 32, .int .u8 111, .int .u8 110] 5 (7, 8))).heap[D]? = some (.deferred (some []))) := HX6.out.heap HKD.out (fun x => x)
          clear X6 HEN HSW HS6'
          gi_wp2_with fail
          refine ⟨trivial, ?_⟩
          refine (callsIn_wide.2 HPU.out).mono ?_
          rintro e w7' ⟨hr, hc7⟩
          have hnS : ∀ i, S2 i → i ≠ w.heap.size ∧ i ≠ D := fun i hi => by have := hS2lt i hi; exact ⟨by omega, by omega⟩
          have hR7 : Boxed w7' w.heap.size 4 (.bool false) := hc7.heap HRX.out (fun h => (hnS _ h).1 rfl)
          have hK7 : w7'.heap[D]? = some (.deferred (some [])) := hc7.heap HKX.out (fun h => (hnS _ h).2 rfl)
          have HC7 : Hid (Chg No w w7') := (HCW.out.no HX6.out).newer hc7 (fun i hi => by have := hS2lt i hi; omega)
          have HR7 := Lib.hid hR7
          have HK7 := Lib.hid hK7
          clear hc7 hR7 hK7 HPU HRX HKX HX6 HCW HBR HKD
          rcases hr with ⟨ii, rfl, v7, ids7, hsc7, hfs⟩ | rfl
          · have HHS := Lib.hid (shas_calls w7' m s2 mp2 j2 v7 ids7 hsc7 ii)
            rw [hfs] at HHS
            clear hsc7 hfs
            gi_wp2_with fail
            refine ⟨trivial, ?_⟩
            refine (callsIn_wide.2 HHS.out).mono ?_
            rintro e w8' ⟨rfl, hw8⟩
            subst hw8
            have cR := HR7.out.cell
            have fR := HR7.out.frozen
            gi_wp2
            have E2 := (show Boxed w7' w.heap.size 4 (.bool false) from HR7.out).set (.bool true)
            have hK' := (KeepsOthers.setCell w7' ⟨w.heap.size, 0, none⟩ (.bool true)).same D _ HK7.out rfl
            have d2 := cell_kept E2.cell (grownBy_putObj' _ D (.deferred none)) (fun r e => by cases e; exact ⟨_, hK', rfl⟩)
            refine ⟨by simp, .inl ⟨_, _, rfl, run_takeDeferred hK', ?_⟩⟩
            refine ⟨.bool true, ?_, rfl, ((HC7.out.below).setCell (p := ⟨w.heap.size, 0, none⟩) (by show w.heap.size ≤ w.heap.size; omega) _).trans (belowK_b (w := w) (Nat.le_refl _) _ D _ _ (by omega) hK' rfl rfl)⟩
            simp [results, Try.f5, go_sem, d2]
          · have cR := HR7.out.cell
            have fR := HR7.out.frozen
            gi_wp2
            refine ⟨trivial, ?_⟩
            gi_wp2
            have E2 := (show Boxed w7' w.heap.size 4 (.bool false) from HR7.out).set (.bool true)
            have hK' := (KeepsOthers.setCell w7' ⟨w.heap.size, 0, none⟩ (.bool true)).same D _ HK7.out rfl
            have d2 := cell_kept E2.cell (grownBy_putObj' _ D (.deferred none)) (fun r e => by cases e; exact ⟨_, hK', rfl⟩)
            refine ⟨by simp, .inl ⟨_, _, rfl, run_takeDeferred hK', ?_⟩⟩
            refine ⟨.bool true, ?_, rfl, ((HC7.out.below).setCell (p := ⟨w.heap.size, 0, none⟩) (by show w.heap.size ≤ w.heap.size; omega) _).trans (belowK_b (w := w) (Nat.le_refl _) _ D _ _ (by omega) hK' rfl rfl)⟩
            simp [results, Try.f5, go_sem, d2]
      · have i2 : ((k : Int) == 40) = false := by rw [beq_eq_false_iff_ne]; omega
        by_cases hbig : 4096 < q2
        · have i3 : (4096 : Int) < (q2 : Int) := by omega
          generalize wr = wt at *
          have HMD := Lib.hid (sg_mend lf' y jc wt S' m s mp j d m nw th ps HSr.out)
          have HDM := Lib.hid HSr.out.dm
          have HSLT := Lib.hid HSr.out.lt
          have hen2 : (encF ps).length ≤ 1000000 := by have := HPE.out; omega
          have hpl40 : ps.length ≤ 40 := by have := HPL.out; omega
          have hnw9 : nw ≤ 8000 := by omega
          clear HSL HL
          gi_wp2_with fail
          refine ⟨trivial, ?_⟩
          refine (callsIn_wide.2 HMD.out).mono ?_
          rintro e w1' ⟨rfl, hDm, hcm⟩
          have HSO := Lib.hid (sg_open lf' y jc w1' wt S' m s mp j d m nw th ps HSr.out hcm hDm HST.out (by have := HYL.out; omega) (fun p hp => Nat.le_trans (HPR.out p hp) (by omega)) hen2 (by omega) (by omega) HOK.out)
          have HCM := Lib.hid hcm
          have hsm := hcm.size
          clear hcm hDm HMD
          gi_wp2_with fail
          refine ⟨trivial, ?_⟩
          refine (callsIn_wide.2 HSO.out).mono ?_
          rintro e w2' ⟨s2, mp2, j2, S2, nw2, rfl, hnw2, hS2, hc2', hb1, hb2, hb3, hb4⟩
          have hdS : S' d := HDM.out.1
          have hmS : S' m := HDM.out.2
          have HC2' : Hid (Chg S' wt w2') := ((HCM.out.mono (S' := S') (fun i _ e => by have e : i = d := e; rw [e]; exact hdS)).trans (hc2'.mono (S' := S') (fun i _ e => by rcases e with e | e; rw [e]; exact hdS; rw [e]; exact hmS)) (fun i _ x => x))
          have HS2 := Lib.hid hS2
          have HR2 : Hid (Boxed w2' w.heap.size 4 (.bool false)) := HC2'.out.heap HR.out HN0.out
          have HG2 : Hid (Boxed w2' g8 42 (.slice A8 ps.length c8)) := HC2'.out.heap HG.out HNG.out
          have HRW2 := Lib.hid (ownsRow_chg HRW.out HC2'.out (fun b hb hs => HNB.out b hb hs))
          have HCw2 := Lib.hid (HC.out.newer HC2'.out (fun i hi => by have := (HSLT.out i hi).1; omega))
          have hsz2 := HC2'.out.size
          have hw2s := HCw2.out.size
          have HS2L := Lib.hid hS2.lt
          have HLEN := Lib.hid (fun V (hV : Chg No w2' V) => show Calls Try.prog 21 #[.pointer (some ⟨s2, 0, none⟩)] V (fun e w' => e = .returned (.int .i64 (ps.length : Int)) ∧ w' = V) from by
            obtain ⟨sv', hsc'⟩ := (HS2.out.no hV).ids
            have h := slen_calls V m s2 mp2 j2 sv' _ hsc'
            rw [List.length_map] at h
            exact h.mono fun e w' ⟨a, b⟩ => ⟨a, b.symm⟩)
          have hne0 : ((ps.length : Int) != (ps.length : Int)) = false := by simp
          have c8' := HG2.out.cell
          clear hS2 hc2' HSO HSr HR HG HRW HC HCM HDM
          gi_wp2
          refine wpIn_wide.2 ?_
          go_quiet ((go_at_call 21; exact Calls.quiet_of_same (HLEN.out _ ((Chg.refl No w2').drewN _))))
          have HS3 : Hid (SD (w2'.drewN nq) S2 m s2 mp2 j2 d m nw2 th ps) := HS2.out.no ((Chg.refl No w2').drewN nq)
          have HR3 : Hid (Boxed (w2'.drewN nq) w.heap.size 4 (.bool false)) := HR2.out
          have HG3 : Hid (Boxed (w2'.drewN nq) g8 42 (.slice A8 ps.length c8)) := HG2.out
          have HRW3 : Hid ((w2'.drewN nq).ownsRow (g8 + 1) 32 1 (.slice A8 ps.length c8) ps.length ((ps.map idF).map u64v)) := HRW2.out
          have HC3 : Hid (Chg No w (w2'.drewN nq)) := HCw2.out.drewN nq
          have hz3 : (w2'.drewN nq).heap.size = w2'.heap.size := rfl
          have HZ3 := Lib.hid hz3
          clear HS2 HR2 HG2 HRW2 HCw2 HLEN c8' hz3
          generalize w2'.drewN nq = w3' at *
          obtain ⟨sv3, hsc3⟩ := HS3.out.ids
          have X4 := (Chg.refl No w3').alloc (.cells #[.int .i64 0] 3)
          have HSI := Lib.hid (since_calls (w3'.alloc (.cells #[.int .i64 0] 3)) m s2 mp2 j2 sv3 _ (hsc3.chg X4 (fun x => x) (fun x => x) (fun _ _ x => x)) 0 (by omega) (by omega) (by rw [List.length_map]; omega))
          have HX4 := Lib.hid X4
          have hz4 : Hid ((w3'.alloc (.cells #[.int .i64 0] 3)).heap.size = w3'.heap.size + 1) := World.size_alloc _ _
          have HI4 := Lib.hid (Boxed.new w3' 3 (.int .i64 0))
          clear hsc3 X4
          gi_wp2_with (refine ⟨trivial, ?_⟩; gi_at_call 19; refine (callsIn_wide.2 HSI.out).mono ?_; rintro e w5' ⟨A5, m5, c5, rfl, rfl, hsl5, hm5, hob5⟩)
          have hdz : List.drop (Int.toNat 0) (ps.map idF) = ps.map idF := rfl
          rw [hdz] at hsl5
          clear hdz HSI
          have hg15 := HZ3.out
          obtain ⟨g15, hg15e⟩ : ∃ g, w3'.heap.size = g := ⟨_, rfl⟩
          have HG15 := Lib.hid hg15e
          have hg8g : g8 < g15 := by have := HZ3.out; omega
          have hwg : w.heap.size < g15 := by omega
          have hob6 : ∀ b, (Value.slice A5 m5 c5).ownBlock = some b → b < g15 := fun b hb => by
            obtain ⟨cc, fz, hcc⟩ := hob5 b hb
            have hl := (Array.getElem?_eq_some_iff.1 hcc).1
            rw [hz4.out] at hl
            rcases Nat.lt_or_ge b g15 with h | h
            · exact h
            · have hbe : b = w3'.heap.size := by have := HG15.out; omega
              rw [hbe, heap_alloc_new] at hcc
              simp at hcc
          have hob7 : ∀ b, (Value.slice A8 ps.length c8).ownBlock = some b → b < g15 := fun b hb => by have := (World.ownsRow.lt HRW3.out b hb).2; have := HG15.out; omega
          have hz45 := hz4.out
          rw [HG15.out] at hz45 ⊢
          have X5 := HX4.out.alloc (.cells #[.slice A5 m5 c5] 42)
          have G5 := Boxed.new (w3'.alloc (.cells #[.int .i64 0] 3)) 42 (.slice A5 m5 c5)
          rw [hz45] at G5
          have G15 : Boxed ((w3'.alloc (.cells #[.int .i64 0] 3)).alloc (.cells #[.slice A5 m5 c5] 42)) g15 3 (.int .i64 0) := by
            have := HI4.out.alloc (.cells #[.slice A5 m5 c5] 42)
            rw [HG15.out] at this
            exact this
          have hsl6 := hsl5.no ((Chg.refl No (w3'.alloc (.cells #[.int .i64 0] 3))).alloc (.cells #[.slice A5 m5 c5] 42))
          have G8 : Boxed ((w3'.alloc (.cells #[.int .i64 0] 3)).alloc (.cells #[.slice A5 m5 c5] 42)) g8 42 (.slice A8 ps.length c8) := X5.heap HG3.out (fun x => x)
          have GR : Boxed ((w3'.alloc (.cells #[.int .i64 0] 3)).alloc (.cells #[.slice A5 m5 c5] 42)) w.heap.size 4 (.bool false) := X5.heap HR3.out (fun x => x)
          have HRW5 := Lib.hid (ownsRow_chg HRW3.out X5 (fun _ _ x => x))
          have HS5 := Lib.hid (HS3.out.no X5)
          have HC5 := Lib.hid (HC3.out.no X5)
          have hz5 : ((w3'.alloc (.cells #[.int .i64 0] 3)).alloc (.cells #[.slice A5 m5 c5] 42)).heap.size = g15 + 2 := by rw [World.size_alloc, hz45]
          clear hsl5 hob5 X5 HX4 HI4 hz45 hz4 HS3 HR3 HG3 HRW3 HC3
          generalize (w3'.alloc (.cells #[.int .i64 0] 3)).alloc (.cells #[.slice A5 m5 c5] 42) = w5' at *
          clear hg15e hg15
          refine wpIn_rangeFunc_C rfl h1 (gf := 75) (lb := #[.pointer (some ⟨g15 + 1, 0, none⟩)]) rfl trivial (enters_of Try.func75 (by kernel_rfl) rfl)
            (values_seq (n - 1) (by omega) g15 w5' A5 m5 c5 (ps.map idF) hsl6 (g15 + 1) G5 hm5 (by omega) hob6) (fun h k => h.trans k) (fun W l o o' hl h hc hw => belowK_b (by omega) W l o o' hl h hc hw) (fun _ => rfl) (fun pre x X Y row h _ _ => h)
            (fun (pre : List Nat) W => Boxed W g15 3 (.int .i64 (pre.length : Int)) ∧ Chg (One g15) w5' W)
            (fun _ => False)
            ?own1c
            (fun _ _ _ _ hs _ _ => hs.elim)
            ⟨G15, Chg.refl _ _⟩ ?framec ?assignc ?bodyc ?donec ?stopc
          case own1c =>
            rintro pre X Y row ⟨hb, hch⟩ hg hr
            exact ⟨boxed_kept hb hg hr, hch.grown hg (fun k e => .inl (by have := (hr k e).1; omega))⟩
          case assignc =>
            intro l x W K hK
            gi_wp2
            exact hK
          case stopc =>
            rintro D W hD h hK
            exact h.elim
          case bodyc =>
            rintro l pre x0 W ⟨b15, hch⟩ ⟨hpre, hx⟩
            have hpl : pre.length < ps.length := by
              have := (List.getElem?_eq_some_iff.1 hx).1
              simpa using this
            have hxe := (List.getElem?_eq_some_iff.1 hx).2
            have HPL2 : Hid ((pre ++ [x0]).length = pre.length + 1) := by rw [Hid, List.length_append]; rfl
            have hrw := ownsRow_chg HRW5.out hch (fun b hb e => by have := hob7 b hb; have e : b = g15 := e; omega)
            have b8 : Boxed W g8 42 (.slice A8 ps.length c8) := hch.heap G8 (fun e => by have e : g8 = g15 := e; omega)
            obtain ⟨gr, hA8⟩ : ∃ gr, A8 = some ⟨gr, 0, none⟩ := by
              rcases hrw.2 with ⟨he, h0⟩ | ⟨g, cap, cur, he, _⟩
              · simp only [Value.slice.injEq] at he; omega
              · simp only [Value.slice.injEq] at he
                exact ⟨g, he.1⟩
            subst hA8
            have hcid := @World.ownsRow.cells W (g8 + 1) 32 1 (.slice (some ⟨gr, 0, none⟩) ps.length c8) ps.length ((ps.map idF).map u64v) hrw gr rfl pre.length (u64v x0) (by
              rw [List.getElem?_map, hx]; rfl)
            rw [Addr.add_lit, Nat.zero_add] at hcid
            unfold u64v at hcid
            have hnn : pre.length < ps.length := hpl
            generalize hkk : pre.length = k at *
            generalize hpp : ps.length = pl at *
            have hki : (k : Int) < (pl : Int) := by omega
            have hk0 : (0 : Int) ≤ (k : Int) := by omega
            have hkb : (k : Int) < 9223372036854775807 := by omega
            have hxx : ((x0 : Int) != (x0 : Int)) = false := by simp
            have c15 := b15.cell
            have f15 := b15.frozen
            have c8' := b8.cell
            have hWs := hch.size
            have HB15 := Lib.hid b15
            have HCH := Lib.hid hch
            clear hkk hpp hpre hx hxe hrw b15 b8 hch
            gi_wp2
            try (refine wpIn_wide.2 ?_; go_quiet (skip); gi_wp2)
            have hcd : Chg (One g15) W (W.setCell ⟨g15, 0, none⟩ (.int .i64 ((k : Int) + 1))) := (Chg.refl (One g15) W).setCell (p := ⟨g15, 0, none⟩) (.inr rfl) _
            have hbl : Below g15 W (W.setCell ⟨g15, 0, none⟩ (.int .i64 ((k : Int) + 1))) := ⟨hcd.os, hcd.tape, hcd.output, hcd.size, fun q hq => hcd.block q (by omega) (fun e => by have e : q = g15 := e; omega)⟩
            refine ⟨(KeepsOthers.setCell _ _ _).from _, hbl, ?_, HCH.out.trans hcd (fun i _ x => x)⟩
            rw [HPL2.out]
            exact HB15.out.set _
          case donec =>
            rintro D xs W hD hxs ⟨b15, hch⟩ hK
            have hWs := hch.size
            have bR : Boxed W w.heap.size 4 (.bool false) := hch.heap GR (fun e => by have e : w.heap.size = g15 := e; omega)
            have HBR := Lib.hid bR
            have HCW : Hid (Chg No w W) := HC5.out.trans hch (fun i hi e => by have e : i = g15 := e; omega)
            have hS2lt : ∀ i, S2 i → i < g15 ∧ m ≤ i := fun i hi => ⟨by have := (HS2L.out i hi).2; have := HG15.out; have := HZ3.out; omega, (HS2L.out i hi).1⟩
            have HSW : Hid (SD W S2 m s2 mp2 j2 d m nw2 th ps) := HS5.out.chg hch (fun i hi e => by have := (hS2lt i hi).1; have e : i = g15 := e; omega)
            have HKD := Lib.hid hK
            have hcm7 := hch
            clear hch bR b15 hK G15 G8 GR G5 hsl6 hcm7 HS5 HC5 HRW5
            have X6 := (Chg.refl No W).alloc (.cells #[.int .u8 103, .int .u8 111, .int .u8 110, .int .u8 101, .int .u8 32, .int .u8 111, .int .u8 110] 5 (7, 8))
            have HX6 := Lib.hid X6
            have HEN : Hid (Encodes (W.alloc (.cells #[.int .u8 103, .int .u8 111, .int .u8 110, .int .u8 101, .int .u8 32, .int .u8 111, .int .u8 110] 5 (7, 8))) (blobV (.slice (some ⟨W.heap.size, 0, none⟩) 7 7)) 0 [98, 103, 111, 110, 101, 32, 111, 110]) := by
              show Encodes _ _ _ _
              exact enc_blob _ _ _ _ [103, 111, 110, 101, 32, 111, 110] (Bytes.litMark 7 7 rfl (Nat.le_refl _) (by unfold maxLen; omega)) rfl (by decide)
            have HS6' := Lib.hid (HSW.out.no X6)
            have HRE := Lib.hid (recF_len [98, 103, 111, 110, 101, 32, 111, 110] (by decide))
            have HPU : Hid (Calls Try.prog 11 #[.pointer (some ⟨s2, 0, none⟩), blobV (.slice (some ⟨W.heap.size, 0, none⟩) 7 7)] (W.alloc (.cells #[.int .u8 103, .int .u8 111, .int .u8 110, .int .u8 101, .int .u8 32, .int .u8 111, .int .u8 110] 5 (7, 8))) fun e w' => ((∃ i : Nat, e = .returned (.tuple #[.int .u64 (i : Int), .int .i64 0]) ∧ ∃ v ids, SC w' m s2 mp2 j2 v ids ∧ (findI i ids).isSome = true) ∨ e = .returned (.tuple #[.int .u64 0, .int .i64 7])) ∧ Chg S2 (W.alloc (.cells #[.int .u8 103, .int .u8 111, .int .u8 110, .int .u8 101, .int .u8 32, .int .u8 111, .int .u8 110] 5 (7, 8))) w') := by
              cases hfi : findI (idF [98, 103, 111, 110, 101, 32, 111, 110]) (ps.map idF) with
              | none =>
                refine (put_new _ S2 m s2 mp2 j2 d m nw2 th ps HS6'.out _ [98, 103, 111, 110, 101, 32, 111, 110] (by decide) HEN.out hfi (by have := HRE.out.1; simp only [List.length_cons, List.length_nil] at this; omega) (by omega) (by omega)).mono ?_
                rintro e w' ⟨he, hS', hc⟩
                obtain ⟨v, hsc⟩ := hS'.ids
                exact ⟨.inl ⟨_, he, v, _, hsc, by rw [List.map_append, List.map_cons, List.map_nil, findI_snoc hfi]; rfl⟩, hc⟩
              | some q =>
                refine (put_there _ S2 m s2 mp2 j2 d m nw2 th ps HS6'.out (by omega) _ [98, 103, 111, 110, 101, 32, 111, 110] (by decide) HEN.out q hfi).mono ?_
                rintro e w' ⟨he, hc⟩
                refine ⟨?_, hc.mono (fun _ _ x => x.elim)⟩
                split at he
                · obtain ⟨v, hsc⟩ := (HS6'.out.no hc).ids
                  exact .inl ⟨_, he, v, _, hsc, by rw [hfi]; rfl⟩
                · exact .inr he
            have hz6 := HX6.out.size
            have HRX : Hid (Boxed (W.alloc (.cells #[.int .u8 103, .int .u8 111, .int .u8 110, .int .u8 101, .int .u8 32, .int .u8 111, .int .u8 110] 5 (7, 8))) w.heap.size 4 (.bool false)) := HX6.out.heap HBR.out (fun x => x)
            have HKX : Hid ((W.alloc (.cells #[.int .u8 103, .int .u8 111, .int .u8 110, .int .u8 101, .int .u8 32, .int .u8 111, .int .u8 110] 5 (7, 8))).heap[D]? = some (.deferred (some []))) := HX6.out.heap HKD.out (fun x => x)
            clear X6 HEN HSW HS6'
            gi_wp2_with fail
            refine ⟨trivial, ?_⟩
            refine (callsIn_wide.2 HPU.out).mono ?_
            rintro e w7' ⟨hr, hc7⟩
            have hnS : ∀ i, S2 i → i ≠ w.heap.size ∧ i ≠ D := fun i hi => by have := hS2lt i hi; exact ⟨by omega, by omega⟩
            have hR7 : Boxed w7' w.heap.size 4 (.bool false) := hc7.heap HRX.out (fun h => (hnS _ h).1 rfl)
            have hK7 : w7'.heap[D]? = some (.deferred (some [])) := hc7.heap HKX.out (fun h => (hnS _ h).2 rfl)
            have HC7 : Hid (Chg No w w7') := (HCW.out.no HX6.out).newer hc7 (fun i hi => by have := hS2lt i hi; omega)
            have HR7 := Lib.hid hR7
            have HK7 := Lib.hid hK7
            clear hc7 hR7 hK7 HPU HRX HKX HX6 HCW HBR HKD
            rcases hr with ⟨ii, rfl, v7, ids7, hsc7, hfs⟩ | rfl
            · have HHS := Lib.hid (shas_calls w7' m s2 mp2 j2 v7 ids7 hsc7 ii)
              rw [hfs] at HHS
              clear hsc7 hfs
              gi_wp2_with fail
              refine ⟨trivial, ?_⟩
              refine (callsIn_wide.2 HHS.out).mono ?_
              rintro e w8' ⟨rfl, hw8⟩
              subst hw8
              have cR := HR7.out.cell
              have fR := HR7.out.frozen
              gi_wp2
              have E2 := (show Boxed w7' w.heap.size 4 (.bool false) from HR7.out).set (.bool true)
              have hK' := (KeepsOthers.setCell w7' ⟨w.heap.size, 0, none⟩ (.bool true)).same D _ HK7.out rfl
              have d2 := cell_kept E2.cell (grownBy_putObj' _ D (.deferred none)) (fun r e => by cases e; exact ⟨_, hK', rfl⟩)
              refine ⟨by simp, .inl ⟨_, _, rfl, run_takeDeferred hK', ?_⟩⟩
              refine ⟨.bool true, ?_, rfl, ((HC7.out.below).setCell (p := ⟨w.heap.size, 0, none⟩) (by show w.heap.size ≤ w.heap.size; omega) _).trans (belowK_b (w := w) (Nat.le_refl _) _ D _ _ (by omega) hK' rfl rfl)⟩
              simp [results, Try.f5, go_sem, d2]
            · have cR := HR7.out.cell
              have fR := HR7.out.frozen
              gi_wp2
              refine ⟨trivial, ?_⟩
              gi_wp2
              have E2 := (show Boxed w7' w.heap.size 4 (.bool false) from HR7.out).set (.bool true)
              have hK' := (KeepsOthers.setCell w7' ⟨w.heap.size, 0, none⟩ (.bool true)).same D _ HK7.out rfl
              have d2 := cell_kept E2.cell (grownBy_putObj' _ D (.deferred none)) (fun r e => by cases e; exact ⟨_, hK', rfl⟩)
              refine ⟨by simp, .inl ⟨_, _, rfl, run_takeDeferred hK', ?_⟩⟩
              refine ⟨.bool true, ?_, rfl, ((HC7.out.below).setCell (p := ⟨w.heap.size, 0, none⟩) (by show w.heap.size ≤ w.heap.size; omega) _).trans (belowK_b (w := w) (Nat.le_refl _) _ D _ _ (by omega) hK' rfl rfl)⟩
              simp [results, Try.f5, go_sem, d2]
        · have i3 : ¬ (4096 : Int) < (q2 : Int) := by omega
          gi_wp2_with fail
          refine ⟨trivial, ?_⟩
          refine (callsIn_wide.2 HSr.out.len).mono ?_
          rintro e w7 ⟨rfl, hw7⟩
          subst hw7
          gi_wp2_with (gi_at_builtin; (refine wpListIn_app2 rfl (.tmp 61) (.tmp 62) 30 30 rfl w7.heap.size 5 (.int .u8 0) 1 1 infoU8 Try.underlying30 rfl (by decide) (.slice (some ⟨w7.heap.size, 0, none⟩) 0 0) (.slice A2 q2 c2) 0 q2 (u8s []) (u8s p) rfl rfl ?own ?src ?b1 ?b2 ?b3 ?_; (case own => exact OwnB.n (OwnB.lit w7 [] (by decide)) rfl); (case src => exact Src.ofBytes Try.underlying30 (HBP.out.no (HC.out.alloc _)) HQ2.out); (case b1 => omega); (case b2 => unfold maxLen; omega); (case b3 => simp); intro vb w8 hown hg hfrom; refine Hid.out ?_))
          refine Lib.hid ?_
          obtain ⟨hob, hc8⟩ := scopy_own hown hg
          obtain ⟨AB, nb, cb, rfl, HLB, HOB⟩ := hob.form
          have hnb : nb = q2 := by have := HLB.out; have := HQ2.out; omega
          subst hnb
          have HC8 := Lib.hid hc8
          have hs8 := hc8.size
          have HCw := Lib.hid (HC.out.no hc8)
          have HS8 := Lib.hid (HSr.out.no hc8)
          have HR8 : Hid (Boxed w8 w.heap.size 4 (.bool false)) := hc8.heap HR.out (fun x => x)
          have HG8 : Hid (Boxed w8 g8 42 (.slice A8 ps.length c8)) := hc8.heap HG.out (fun x => x)
          have HRW8 := Lib.hid (ownsRow_chg HRW.out hc8 (fun _ _ x => x))
          have HRL : Hid ((98 :: p).length ≤ 4097) := by
            show _ ≤ _
            have := HQ2.out
            simp only [List.length_cons]
            omega
          have HE : Hid (Encodes w8 (blobV (.slice AB nb cb)) 0 (98 :: p)) := by
            show Encodes _ _ _ _
            exact enc_blob _ _ _ _ p HOB.out.bytes HLB.out (by have := HQ2.out; omega)
          have HDC := Lib.hid (dec_blob p (by have := HQ2.out; omega))
          have HRE := Lib.hid (recF_len (98 :: p) (by have := HRL.out; omega))
          have HN8 : Hid ((encF ps).length ≤ 4194304) := by show _ ≤ _; have := HPE.out; omega
          clear hob hown hg hfrom hc8 hcell HSr HR HG HRW HC HOB
          cases hfq : findI (idF (98 :: p)) (ps.map idF) with
          | some q =>
            have HPT := Lib.hid (put_thereC lf' y jc w8 S' m s mp j d m nw th ps HS8.out HN8.out _ (98 :: p) (by have := HRL.out; omega) HE.out q hfq)
            clear hfq
            generalize idF (98 :: p) = ib at *
            by_cases hsame : ps.getD q [] = 98 :: p
            · rw [if_pos hsame] at HPT
              clear hsame
              gi_wp2_with fail
              refine ⟨trivial, ?_⟩
              refine (callsIn_wide.2 HPT.out).mono ?_
              rintro e w9 ⟨rfl, hc9⟩
              have HC9 := Lib.hid hc9
              have HS9 := Lib.hid (HS8.out.no hc9)
              clear hc9 HPT
              gi_wp2_with fail
              refine ⟨trivial, ?_⟩
              refine (callsIn_wide.2 HS9.out.len).mono ?_
              rintro e w10 ⟨rfl, hw10⟩
              subst hw10
              gi_wp2
              go_roundw
              case rel => exact ⟨k + 1, ps, S', lf', y, jc, nw, th, A8, c8, by omega, by omega, by go_num, by omega, hlf', HJY.out, HST.out, HYL.out, HOK.out, (by show _ ≤ _; have := HPL.out; omega), (by show _ ≤ _; have := HPE.out; omega), HPR.out, HS9.out, HC9.out.heap HR8.out (fun x => x), HC9.out.heap HG8.out (fun x => x), ownsRow_chg HRW8.out HC9.out (fun _ _ x => x), HNG.out, HN0.out, HNB.out, Nat.lt_of_lt_of_le (Nat.lt_of_lt_of_le hg8 hs8) HC9.out.size, HCw.out.no HC9.out⟩
              case measure => simp only [intOf]; omega
            · rw [if_neg hsame] at HPT
              clear hsame
              gi_wp2_with fail
              refine ⟨trivial, ?_⟩
              refine (callsIn_wide.2 HPT.out).mono ?_
              rintro e w10 ⟨rfl, hc9⟩
              have HC9 := Lib.hid hc9
              have HS9 := Lib.hid (HS8.out.no hc9)
              clear hc9 HPT
              gi_wp2
              refine ⟨trivial, ?_⟩
              gi_wp2
              go_roundw
              case rel => exact ⟨k + 1, ps, S', lf', y, jc, nw, th, A8, c8, by omega, by omega, by go_num, by omega, hlf', HJY.out, HST.out, HYL.out, HOK.out, (by show _ ≤ _; have := HPL.out; omega), (by show _ ≤ _; have := HPE.out; omega), HPR.out, HS9.out, HC9.out.heap HR8.out (fun x => x), HC9.out.heap HG8.out (fun x => x), ownsRow_chg HRW8.out HC9.out (fun _ _ x => x), HNG.out, HN0.out, HNB.out, Nat.lt_of_lt_of_le (Nat.lt_of_lt_of_le hg8 hs8) HC9.out.size, HCw.out.no HC9.out⟩
              case measure => simp only [intOf]; omega
          | none =>
            cases jc with
            | true =>
              have HPT := Lib.hid (put_cut lf' y w8 S' m s mp j d m nw th ps HS8.out _ (98 :: p) (by have := HRL.out; omega) HE.out hfq (by have := HPE.out; have := HRE.out.1; have := HRL.out; omega) (by have := HPL.out; omega) (by omega))
              clear hfq
              gi_wp2_with fail
              refine ⟨trivial, ?_⟩
              refine (callsIn_wide.2 HPT.out).mono ?_
              rintro e w10 ⟨rfl, hc9⟩
              have HC9 := Lib.hid hc9
              have HS9 := Lib.hid (HS8.out.no hc9)
              clear hc9 HPT
              gi_wp2
              refine ⟨trivial, ?_⟩
              gi_wp2
              go_roundw
              case rel => exact ⟨k + 1, ps, S', lf', y, true, nw, th, A8, c8, by omega, by omega, by go_num, by omega, hlf', HJY.out, HST.out, HYL.out, HOK.out, (by show _ ≤ _; have := HPL.out; omega), (by show _ ≤ _; have := HPE.out; omega), HPR.out, HS9.out, HC9.out.heap HR8.out (fun x => x), HC9.out.heap HG8.out (fun x => x), ownsRow_chg HRW8.out HC9.out (fun _ _ x => x), HNG.out, HN0.out, HNB.out, Nat.lt_of_lt_of_le (Nat.lt_of_lt_of_le hg8 hs8) HC9.out.size, HCw.out.no HC9.out⟩
              case measure => simp only [intOf]; omega
            | false =>
              have hy := HJY.out rfl
              subst hy
              have HPN := Lib.hid (put_newC lf' hlf' w8 S' m s mp j d m nw th ps HS8.out _ (98 :: p) (by have := HRL.out; omega) HE.out hfq (by have := HPE.out; have := HRE.out.1; have := HRL.out; omega) (by have := HPL.out; omega) (by omega))
              have HOKN : Hid (okF [] (ps ++ [98 :: p]) = true) := by rw [Hid, okF_snoc, HOK.out, HDC.out, hfq]; rfl
              have HPRN : Hid (∀ r ∈ ps ++ [98 :: p], r.length ≤ 4097) := fun r hr => by
                rcases List.mem_append.1 hr with h | h
                · exact HPR.out r h
                · rw [List.mem_singleton.1 h]; exact HRL.out
              have HPEN : Hid ((encF (ps ++ [98 :: p])).length ≤ 4200 * (k + 1)) := by
                show _ ≤ _
                rw [encF_snoc, List.length_append]
                have := HPE.out; have := HRE.out.1; have := HRL.out
                omega
              have HLN : Hid ((ps ++ [98 :: p]).length = ps.length + 1) := by rw [Hid, List.length_append]; rfl
              have HMN : Hid (((ps ++ [98 :: p]).map idF).map u64v = (ps.map idF).map u64v ++ [.int .u64 ((idF (98 :: p) : Nat) : Int)]) := by rw [Hid, List.map_append, List.map_append]; rfl
              clear hfq
              have HSLT := Lib.hid HS8.out.lt
              gi_wp2_with fail
              refine ⟨trivial, ?_⟩
              refine (callsIn_wide.2 HPN.out).mono ?_
              rintro e w9 ⟨hr, hc9⟩
              have HC9 := Lib.hid hc9
              have hs9 := hc9.size
              have HR9 : Hid (Boxed w9 w.heap.size 4 (.bool false)) := hc9.heap HR8.out HN0.out
              have HG9 : Hid (Boxed w9 g8 42 (.slice A8 ps.length c8)) := hc9.heap HG8.out HNG.out
              have HRW9 := Lib.hid (ownsRow_chg HRW8.out hc9 (fun b hb hs => HNB.out b hb hs))
              have HCw9 := Lib.hid (HCw.out.newer hc9 (fun i hi => by have := (HSLT.out i hi).1; omega))
              have HNG9 : Hid (¬ Grow S' w8 w9 g8) := by
                rintro (h | h)
                · exact HNG.out h
                · omega
              have HN09 : Hid (¬ Grow S' w8 w9 w.heap.size) := by
                rintro (h | h)
                · exact HN0.out h
                · have := HR8.out.lt; omega
              have HNB9 : Hid (∀ b, (Value.slice A8 ps.length c8).ownBlock = some b → ¬ Grow S' w8 w9 b) := fun b hb => by
                have h8 := (World.ownsRow.lt HRW8.out b hb).2
                rintro (h | h)
                · exact HNB.out b hb h
                · omega
              clear hc9 HPN HR8 HG8 HRW8 HE HS8
              rcases hr with ⟨rfl, hpl, hS9⟩ | ⟨rfl, hpl, th', hS9⟩
              · have HS9 := Lib.hid hS9
                have hlen9 := hS9.len
                rw [HLN.out] at hlen9
                have HLEN9 := Lib.hid hlen9
                have hlt9 : ((ps.length : Nat) : Int) < (((ps.length + 1 : Nat)) : Int) := by omega
                have HGL := Lib.hid hS9.lt
                have hpl40 : ps.length ≤ 40 := by have := HPL.out; omega
                clear hS9 hlen9
                generalize hibe : idF (98 :: p) = ib at *
                clear hibe
                generalize hpn : ps.length = pl at *
                have HPN9 := Lib.hid hpn
                clear hpn
                generalize Grow S' w8 w9 = S9 at *
                gi_wp2_with fail
                refine ⟨trivial, ?_⟩
                refine (callsIn_wide.2 HLEN9.out).mono ?_
                rintro e w10 ⟨rfl, hw10⟩
                subst hw10
                have cg := HG9.out.cell
                have HGA : Hid (∀ o, Boxed (w10.alloc o) g8 42 (.slice A8 pl c8)) := fun o => HG9.out.alloc o
                gi_wp2_with (gi_at_builtin; (refine wpListIn_app2 rfl (.tmp 78) (.tmp 80) 42 42 rfl (g8 + 1) 32 (.int .u64 0) 1 8 infoId Try.underlying42 rfl (by decide) (.slice A8 pl c8) (.slice (some ⟨w10.heap.size, 0, none⟩) 1 1) pl 1 ((ps.map idF).map u64v) [.int .u64 (ib : Int)] rfl rfl ?own ?src ?b1 ?b2 ?b3 ?_; (case own => exact World.ownsRow.alloc HRW9.out _); (case src => exact Src.one Try.underlying42 _ rfl); (case b1 => omega); (case b2 => unfold maxLen; omega); (case b3 => rw [World.size_alloc]; omega); intro v1 w11 hown1 hg1 hfrom1; obtain ⟨A1, c1, rfl⟩ := ownsRow_form hown1; have hbx := (HGA.out (.cells #[.int .u64 (ib : Int)] 32)).kept hg1 ((HGA.out (.cells #[.int .u64 (ib : Int)] 32)).not_row (by decide) (World.ownsRow.alloc HRW9.out (.cells #[.int .u64 (ib : Int)] 32))); have c3 := hbx.cell; have f3 := hbx.frozen; refine Hid.out ?_))
                refine Lib.hid ?_
                have hc11 : Chg (fun i => some i = (Value.slice A8 pl c8).ownBlock) w10 w11 := ((Chg.refl _ w10).alloc _).grown hg1 (fun k hk => .inr hk.symm)
                have HC11 := Lib.hid hc11
                have HBX := Lib.hid hbx
                have HO1 := Lib.hid hown1
                have HF1 := Lib.hid hfrom1
                have hs11 := hc11.size
                clear hc11 hbx hown1 hg1 hfrom1 cg
                gi_wp2
                obtain ⟨w12, hw12⟩ : ∃ w12, w12 = w11.setCell ⟨g8, 0, none⟩ (.slice A1 (pl + 1) c1) := ⟨_, rfl⟩
                have hc12 : Chg (One g8) w11 w12 := by rw [hw12]; exact Chg.put _ _ _ _
                have hs12 := hc12.size
                have hrow : ∀ i, some i = (Value.slice A8 pl c8).ownBlock → g8 + 1 ≤ i := fun i hi => (World.ownsRow.lt HRW9.out i hi.symm).1
                have hS12 := (HS9.out.chg HC11.out (fun i hi e => HNB9.out i e.symm hi)).chg hc12 (fun i hi e => HNG9.out (by have e : i = g8 := e; rw [← e]; exact hi))
                have hR12 : Boxed w12 w.heap.size 4 (.bool false) := hc12.heap (HC11.out.heap HR9.out (fun e => by have := hrow _ e; omega)) (fun e => by have e : _ = g8 := e; omega)
                have hG12 : Boxed w12 g8 42 (.slice A1 (pl + 1) c1) := by rw [hw12]; exact HBX.out.set _
                have hO12 := ownsRow_chg HO1.out hc12 (fun b hb e => by have := (World.ownsRow.lt HO1.out b hb).1; have e : b = g8 := e; omega)
                have hC12 := (HCw9.out.trans HC11.out (fun i hi e => by have := hrow i e; omega)).trans hc12 (fun i hi e => by have e : i = g8 := e; omega)
                have hNB12 : ∀ b, (Value.slice A1 (pl + 1) c1).ownBlock = some b → ¬ S9 b := fun b hb hs => by
                  rcases HF1.out with e | e
                  · exact HNB9.out b (by rw [← e]; exact hb) hs
                  · rw [hb, World.size_alloc] at e
                    have e := Option.some.inj e
                    have := (HGL.out b hs).2
                    omega
                rw [← hw12]
                go_roundw
                case rel =>
                  have e1 : (ps ++ [98 :: p]).length = pl + 1 := HLN.out
                  refine ⟨k + 1, ps ++ [98 :: p], S9, _, [], false, _, true, A1, c1, by omega, by omega, by go_num, ?_, ?_, (fun _ => rfl), (by simp [Hid, stepF]), Nat.zero_le _, HOKN.out, ?_, HPEN.out, HPRN.out, hS12, hR12, ?_, ?_, HNG9.out, HN09.out, ?_, by omega, hC12⟩
                  · have := HRE.out.1; have := HRL.out; omega
                  · omega
                  · show _ ≤ _; have := HPL.out; have := HPN9.out; omega
                  · rw [e1]; exact hG12
                  · rw [e1, HMN.out]; exact hO12
                  · rw [e1]; exact hNB12
                case measure => simp only [intOf]; omega
              · have HS9 := Lib.hid hS9
                clear hS9
                gi_wp2
                refine ⟨trivial, ?_⟩
                gi_wp2
                go_roundw
                case rel =>
                  refine ⟨k + 1, ps, Grow S' w8 w9, 0, (recF (98 :: p)).take (32 * lf'), true, nw + lf', th', A8, c8, by omega, by omega, by go_num, ?_, by omega, (fun h => by cases h), ?_, ?_, HOK.out, ?_, ?_, HPR.out, HS9.out, HR9.out, HG9.out, HRW9.out, HNG9.out, HN09.out, HNB9.out, by omega, HCw9.out⟩
                  · have := HRE.out.1; have := HRL.out; omega
                  · refine step_part (98 :: p) (32 * lf') (by have := HRL.out; omega) (by omega) (by omega)
                  · show _ ≤ _; rw [List.length_take]; have := HRE.out.1; have := HRL.out; omega
                  · show _ ≤ _; have := HPL.out; omega
                  · show _ ≤ _; have := HPE.out; omega
                case measure => simp only [intOf]; omega
    · have i1 : ¬ (k : Int) < (nl : Int) := by omega
      generalize wr = wt at *
      have HMD := Lib.hid (sg_mend lf' y jc wt S' m s mp j d m nw th ps HSr.out)
      have HDM := Lib.hid HSr.out.dm
      have HSLT := Lib.hid HSr.out.lt
      have hen2 : (encF ps).length ≤ 1000000 := by have := HPE.out; omega
      have hpl40 : ps.length ≤ 40 := by have := HPL.out; omega
      have hnw9 : nw ≤ 8000 := by omega
      clear HSL HL
      gi_wp2_with fail
      refine ⟨trivial, ?_⟩
      refine (callsIn_wide.2 HMD.out).mono ?_
      rintro e w1' ⟨rfl, hDm, hcm⟩
      have HSO := Lib.hid (sg_open lf' y jc w1' wt S' m s mp j d m nw th ps HSr.out hcm hDm HST.out (by have := HYL.out; omega) (fun p hp => Nat.le_trans (HPR.out p hp) (by omega)) hen2 (by omega) (by omega) HOK.out)
      have HCM := Lib.hid hcm
      have hsm := hcm.size
      clear hcm hDm HMD
      gi_wp2_with fail
      refine ⟨trivial, ?_⟩
      refine (callsIn_wide.2 HSO.out).mono ?_
      rintro e w2' ⟨s2, mp2, j2, S2, nw2, rfl, hnw2, hS2, hc2', hb1, hb2, hb3, hb4⟩
      have hdS : S' d := HDM.out.1
      have hmS : S' m := HDM.out.2
      have HC2' : Hid (Chg S' wt w2') := ((HCM.out.mono (S' := S') (fun i _ e => by have e : i = d := e; rw [e]; exact hdS)).trans (hc2'.mono (S' := S') (fun i _ e => by rcases e with e | e; rw [e]; exact hdS; rw [e]; exact hmS)) (fun i _ x => x))
      have HS2 := Lib.hid hS2
      have HR2 : Hid (Boxed w2' w.heap.size 4 (.bool false)) := HC2'.out.heap HR.out HN0.out
      have HG2 : Hid (Boxed w2' g8 42 (.slice A8 ps.length c8)) := HC2'.out.heap HG.out HNG.out
      have HRW2 := Lib.hid (ownsRow_chg HRW.out HC2'.out (fun b hb hs => HNB.out b hb hs))
      have HCw2 := Lib.hid (HC.out.newer HC2'.out (fun i hi => by have := (HSLT.out i hi).1; omega))
      have hsz2 := HC2'.out.size
      have hw2s := HCw2.out.size
      have HS2L := Lib.hid hS2.lt
      have HLEN := Lib.hid (fun V (hV : Chg No w2' V) => show Calls Try.prog 21 #[.pointer (some ⟨s2, 0, none⟩)] V (fun e w' => e = .returned (.int .i64 (ps.length : Int)) ∧ w' = V) from by
        obtain ⟨sv', hsc'⟩ := (HS2.out.no hV).ids
        have h := slen_calls V m s2 mp2 j2 sv' _ hsc'
        rw [List.length_map] at h
        exact h.mono fun e w' ⟨a, b⟩ => ⟨a, b.symm⟩)
      have hne0 : ((ps.length : Int) != (ps.length : Int)) = false := by simp
      have c8' := HG2.out.cell
      clear hS2 hc2' HSO HSr HR HG HRW HC HCM HDM
      gi_wp2
      refine wpIn_wide.2 ?_
      go_quiet ((go_at_call 21; exact Calls.quiet_of_same (HLEN.out _ ((Chg.refl No w2').drewN _))))
      have HS3 : Hid (SD (w2'.drewN nq) S2 m s2 mp2 j2 d m nw2 th ps) := HS2.out.no ((Chg.refl No w2').drewN nq)
      have HR3 : Hid (Boxed (w2'.drewN nq) w.heap.size 4 (.bool false)) := HR2.out
      have HG3 : Hid (Boxed (w2'.drewN nq) g8 42 (.slice A8 ps.length c8)) := HG2.out
      have HRW3 : Hid ((w2'.drewN nq).ownsRow (g8 + 1) 32 1 (.slice A8 ps.length c8) ps.length ((ps.map idF).map u64v)) := HRW2.out
      have HC3 : Hid (Chg No w (w2'.drewN nq)) := HCw2.out.drewN nq
      have hz3 : (w2'.drewN nq).heap.size = w2'.heap.size := rfl
      have HZ3 := Lib.hid hz3
      clear HS2 HR2 HG2 HRW2 HCw2 HLEN c8' hz3
      generalize w2'.drewN nq = w3' at *
      obtain ⟨sv3, hsc3⟩ := HS3.out.ids
      have X4 := (Chg.refl No w3').alloc (.cells #[.int .i64 0] 3)
      have HSI := Lib.hid (since_calls (w3'.alloc (.cells #[.int .i64 0] 3)) m s2 mp2 j2 sv3 _ (hsc3.chg X4 (fun x => x) (fun x => x) (fun _ _ x => x)) 0 (by omega) (by omega) (by rw [List.length_map]; omega))
      have HX4 := Lib.hid X4
      have hz4 : Hid ((w3'.alloc (.cells #[.int .i64 0] 3)).heap.size = w3'.heap.size + 1) := World.size_alloc _ _
      have HI4 := Lib.hid (Boxed.new w3' 3 (.int .i64 0))
      clear hsc3 X4
      gi_wp2_with (refine ⟨trivial, ?_⟩; gi_at_call 19; refine (callsIn_wide.2 HSI.out).mono ?_; rintro e w5' ⟨A5, m5, c5, rfl, rfl, hsl5, hm5, hob5⟩)
      have hdz : List.drop (Int.toNat 0) (ps.map idF) = ps.map idF := rfl
      rw [hdz] at hsl5
      clear hdz HSI
      have hg15 := HZ3.out
      obtain ⟨g15, hg15e⟩ : ∃ g, w3'.heap.size = g := ⟨_, rfl⟩
      have HG15 := Lib.hid hg15e
      have hg8g : g8 < g15 := by have := HZ3.out; omega
      have hwg : w.heap.size < g15 := by omega
      have hob6 : ∀ b, (Value.slice A5 m5 c5).ownBlock = some b → b < g15 := fun b hb => by
        obtain ⟨cc, fz, hcc⟩ := hob5 b hb
        have hl := (Array.getElem?_eq_some_iff.1 hcc).1
        rw [hz4.out] at hl
        rcases Nat.lt_or_ge b g15 with h | h
        · exact h
        · have hbe : b = w3'.heap.size := by have := HG15.out; omega
          rw [hbe, heap_alloc_new] at hcc
          simp at hcc
      have hob7 : ∀ b, (Value.slice A8 ps.length c8).ownBlock = some b → b < g15 := fun b hb => by have := (World.ownsRow.lt HRW3.out b hb).2; have := HG15.out; omega
      have hz45 := hz4.out
      rw [HG15.out] at hz45 ⊢
      have X5 := HX4.out.alloc (.cells #[.slice A5 m5 c5] 42)
      have G5 := Boxed.new (w3'.alloc (.cells #[.int .i64 0] 3)) 42 (.slice A5 m5 c5)
      rw [hz45] at G5
      have G15 : Boxed ((w3'.alloc (.cells #[.int .i64 0] 3)).alloc (.cells #[.slice A5 m5 c5] 42)) g15 3 (.int .i64 0) := by
        have := HI4.out.alloc (.cells #[.slice A5 m5 c5] 42)
        rw [HG15.out] at this
        exact this
      have hsl6 := hsl5.no ((Chg.refl No (w3'.alloc (.cells #[.int .i64 0] 3))).alloc (.cells #[.slice A5 m5 c5] 42))
      have G8 : Boxed ((w3'.alloc (.cells #[.int .i64 0] 3)).alloc (.cells #[.slice A5 m5 c5] 42)) g8 42 (.slice A8 ps.length c8) := X5.heap HG3.out (fun x => x)
      have GR : Boxed ((w3'.alloc (.cells #[.int .i64 0] 3)).alloc (.cells #[.slice A5 m5 c5] 42)) w.heap.size 4 (.bool false) := X5.heap HR3.out (fun x => x)
      have HRW5 := Lib.hid (ownsRow_chg HRW3.out X5 (fun _ _ x => x))
      have HS5 := Lib.hid (HS3.out.no X5)
      have HC5 := Lib.hid (HC3.out.no X5)
      have hz5 : ((w3'.alloc (.cells #[.int .i64 0] 3)).alloc (.cells #[.slice A5 m5 c5] 42)).heap.size = g15 + 2 := by rw [World.size_alloc, hz45]
      clear hsl5 hob5 X5 HX4 HI4 hz45 hz4 HS3 HR3 HG3 HRW3 HC3
      generalize (w3'.alloc (.cells #[.int .i64 0] 3)).alloc (.cells #[.slice A5 m5 c5] 42) = w5' at *
      clear hg15e hg15
      refine wpIn_rangeFunc_C rfl h1 (gf := 75) (lb := #[.pointer (some ⟨g15 + 1, 0, none⟩)]) rfl trivial (enters_of Try.func75 (by kernel_rfl) rfl)
        (values_seq (n - 1) (by omega) g15 w5' A5 m5 c5 (ps.map idF) hsl6 (g15 + 1) G5 hm5 (by omega) hob6) (fun h k => h.trans k) (fun W l o o' hl h hc hw => belowK_b (by omega) W l o o' hl h hc hw) (fun _ => rfl) (fun pre x X Y row h _ _ => h)
        (fun (pre : List Nat) W => Boxed W g15 3 (.int .i64 (pre.length : Int)) ∧ Chg (One g15) w5' W)
        (fun _ => False)
        ?own1a
        (fun _ _ _ _ hs _ _ => hs.elim)
        ⟨G15, Chg.refl _ _⟩ ?framea ?assigna ?bodya ?donea ?stopa
      case own1a =>
        rintro pre X Y row ⟨hb, hch⟩ hg hr
        exact ⟨boxed_kept hb hg hr, hch.grown hg (fun k e => .inl (by have := (hr k e).1; omega))⟩
      case assigna =>
        intro l x W K hK
        gi_wp2
        exact hK
      case stopa =>
        rintro D W hD h hK
        exact h.elim
      case bodya =>
        rintro l pre x0 W ⟨b15, hch⟩ ⟨hpre, hx⟩
        have hpl : pre.length < ps.length := by
          have := (List.getElem?_eq_some_iff.1 hx).1
          simpa using this
        have hxe := (List.getElem?_eq_some_iff.1 hx).2
        have HPL2 : Hid ((pre ++ [x0]).length = pre.length + 1) := by rw [Hid, List.length_append]; rfl
        have hrw := ownsRow_chg HRW5.out hch (fun b hb e => by have := hob7 b hb; have e : b = g15 := e; omega)
        have b8 : Boxed W g8 42 (.slice A8 ps.length c8) := hch.heap G8 (fun e => by have e : g8 = g15 := e; omega)
        obtain ⟨gr, hA8⟩ : ∃ gr, A8 = some ⟨gr, 0, none⟩ := by
          rcases hrw.2 with ⟨he, h0⟩ | ⟨g, cap, cur, he, _⟩
          · simp only [Value.slice.injEq] at he; omega
          · simp only [Value.slice.injEq] at he
            exact ⟨g, he.1⟩
        subst hA8
        have hcid := @World.ownsRow.cells W (g8 + 1) 32 1 (.slice (some ⟨gr, 0, none⟩) ps.length c8) ps.length ((ps.map idF).map u64v) hrw gr rfl pre.length (u64v x0) (by
          rw [List.getElem?_map, hx]; rfl)
        rw [Addr.add_lit, Nat.zero_add] at hcid
        unfold u64v at hcid
        have hnn : pre.length < ps.length := hpl
        generalize hkk : pre.length = k at *
        generalize hpp : ps.length = pl at *
        have hki : (k : Int) < (pl : Int) := by omega
        have hk0 : (0 : Int) ≤ (k : Int) := by omega
        have hkb : (k : Int) < 9223372036854775807 := by omega
        have hxx : ((x0 : Int) != (x0 : Int)) = false := by simp
        have c15 := b15.cell
        have f15 := b15.frozen
        have c8' := b8.cell
        have hWs := hch.size
        have HB15 := Lib.hid b15
        have HCH := Lib.hid hch
        clear hkk hpp hpre hx hxe hrw b15 b8 hch
        gi_wp2
        try (refine wpIn_wide.2 ?_; go_quiet (skip); gi_wp2)
        have hcd : Chg (One g15) W (W.setCell ⟨g15, 0, none⟩ (.int .i64 ((k : Int) + 1))) := (Chg.refl (One g15) W).setCell (p := ⟨g15, 0, none⟩) (.inr rfl) _
        have hbl : Below g15 W (W.setCell ⟨g15, 0, none⟩ (.int .i64 ((k : Int) + 1))) := ⟨hcd.os, hcd.tape, hcd.output, hcd.size, fun q hq => hcd.block q (by omega) (fun e => by have e : q = g15 := e; omega)⟩
        refine ⟨(KeepsOthers.setCell _ _ _).from _, hbl, ?_, HCH.out.trans hcd (fun i _ x => x)⟩
        rw [HPL2.out]
        exact HB15.out.set _
      case donea =>
        rintro D xs W hD hxs ⟨b15, hch⟩ hK
        have hWs := hch.size
        have bR : Boxed W w.heap.size 4 (.bool false) := hch.heap GR (fun e => by have e : w.heap.size = g15 := e; omega)
        have HBR := Lib.hid bR
        have HCW : Hid (Chg No w W) := HC5.out.trans hch (fun i hi e => by have e : i = g15 := e; omega)
        have hS2lt : ∀ i, S2 i → i < g15 ∧ m ≤ i := fun i hi => ⟨by have := (HS2L.out i hi).2; have := HG15.out; have := HZ3.out; omega, (HS2L.out i hi).1⟩
        have HSW : Hid (SD W S2 m s2 mp2 j2 d m nw2 th ps) := HS5.out.chg hch (fun i hi e => by have := (hS2lt i hi).1; have e : i = g15 := e; omega)
        have HKD := Lib.hid hK
        have hcm7 := hch
        clear hch bR b15 hK G15 G8 GR G5 hsl6 hcm7 HS5 HC5 HRW5
        have X6 := (Chg.refl No W).alloc (.cells #[.int .u8 103, .int .u8 111, .int .u8 110, .int .u8 101, .int .u8 32, .int .u8 111, .int .u8 110] 5 (7, 8))
        have HX6 := Lib.hid X6
        have HEN : Hid (Encodes (W.alloc (.cells #[.int .u8 103, .int .u8 111, .int .u8 110, .int .u8 101, .int .u8 32, .int .u8 111, .int .u8 110] 5 (7, 8))) (blobV (.slice (some ⟨W.heap.size, 0, none⟩) 7 7)) 0 [98, 103, 111, 110, 101, 32, 111, 110]) := by
          show Encodes _ _ _ _
          exact enc_blob _ _ _ _ [103, 111, 110, 101, 32, 111, 110] (Bytes.litMark 7 7 rfl (Nat.le_refl _) (by unfold maxLen; omega)) rfl (by decide)
        have HS6' := Lib.hid (HSW.out.no X6)
        have HRE := Lib.hid (recF_len [98, 103, 111, 110, 101, 32, 111, 110] (by decide))
        have HPU : Hid (Calls Try.prog 11 #[.pointer (some ⟨s2, 0, none⟩), blobV (.slice (some ⟨W.heap.size, 0, none⟩) 7 7)] (W.alloc (.cells #[.int .u8 103, .int .u8 111, .int .u8 110, .int .u8 101, .int .u8 32, .int .u8 111, .int .u8 110] 5 (7, 8))) fun e w' => ((∃ i : Nat, e = .returned (.tuple #[.int .u64 (i : Int), .int .i64 0]) ∧ ∃ v ids, SC w' m s2 mp2 j2 v ids ∧ (findI i ids).isSome = true) ∨ e = .returned (.tuple #[.int .u64 0, .int .i64 7])) ∧ Chg S2 (W.alloc (.cells #[.int .u8 103, .int .u8 111, .int .u8 110, .int .u8 101, .int .u8 32, .int .u8 111, .int .u8 110] 5 (7, 8))) w') := by
          cases hfi : findI (idF [98, 103, 111, 110, 101, 32, 111, 110]) (ps.map idF) with
          | none =>
            refine (put_new _ S2 m s2 mp2 j2 d m nw2 th ps HS6'.out _ [98, 103, 111, 110, 101, 32, 111, 110] (by decide) HEN.out hfi (by have := HRE.out.1; simp only [List.length_cons, List.length_nil] at this; omega) (by omega) (by omega)).mono ?_
            rintro e w' ⟨he, hS', hc⟩
            obtain ⟨v, hsc⟩ := hS'.ids
            exact ⟨.inl ⟨_, he, v, _, hsc, by rw [List.map_append, List.map_cons, List.map_nil, findI_snoc hfi]; rfl⟩, hc⟩
          | some q =>
            refine (put_there _ S2 m s2 mp2 j2 d m nw2 th ps HS6'.out (by omega) _ [98, 103, 111, 110, 101, 32, 111, 110] (by decide) HEN.out q hfi).mono ?_
            rintro e w' ⟨he, hc⟩
            refine ⟨?_, hc.mono (fun _ _ x => x.elim)⟩
            split at he
            · obtain ⟨v, hsc⟩ := (HS6'.out.no hc).ids
              exact .inl ⟨_, he, v, _, hsc, by rw [hfi]; rfl⟩
            · exact .inr he
        have hz6 := HX6.out.size
        have HRX : Hid (Boxed (W.alloc (.cells #[.int .u8 103, .int .u8 111, .int .u8 110, .int .u8 101, .int .u8 32, .int .u8 111, .int .u8 110] 5 (7, 8))) w.heap.size 4 (.bool false)) := HX6.out.heap HBR.out (fun x => x)
        have HKX : Hid ((W.alloc (.cells #[.int .u8 103, .int .u8 111, .int .u8 110, .int .u8 101, .int .u8 32, .int .u8 111, .int .u8 110] 5 (7, 8))).heap[D]? = some (.deferred (some []))) := HX6.out.heap HKD.out (fun x => x)
        clear X6 HEN HSW HS6'
        gi_wp2_with fail
        refine ⟨trivial, ?_⟩
        refine (callsIn_wide.2 HPU.out).mono ?_
        rintro e w7' ⟨hr, hc7⟩
        have hnS : ∀ i, S2 i → i ≠ w.heap.size ∧ i ≠ D := fun i hi => by have := hS2lt i hi; exact ⟨by omega, by omega⟩
        have hR7 : Boxed w7' w.heap.size 4 (.bool false) := hc7.heap HRX.out (fun h => (hnS _ h).1 rfl)
        have hK7 : w7'.heap[D]? = some (.deferred (some [])) := hc7.heap HKX.out (fun h => (hnS _ h).2 rfl)
        have HC7 : Hid (Chg No w w7') := (HCW.out.no HX6.out).newer hc7 (fun i hi => by have := hS2lt i hi; omega)
        have HR7 := Lib.hid hR7
        have HK7 := Lib.hid hK7
        clear hc7 hR7 hK7 HPU HRX HKX HX6 HCW HBR HKD
        rcases hr with ⟨ii, rfl, v7, ids7, hsc7, hfs⟩ | rfl
        · have HHS := Lib.hid (shas_calls w7' m s2 mp2 j2 v7 ids7 hsc7 ii)
          rw [hfs] at HHS
          clear hsc7 hfs
          gi_wp2_with fail
          refine ⟨trivial, ?_⟩
          refine (callsIn_wide.2 HHS.out).mono ?_
          rintro e w8' ⟨rfl, hw8⟩
          subst hw8
          have cR := HR7.out.cell
          have fR := HR7.out.frozen
          gi_wp2
          have E2 := (show Boxed w7' w.heap.size 4 (.bool false) from HR7.out).set (.bool true)
          have hK' := (KeepsOthers.setCell w7' ⟨w.heap.size, 0, none⟩ (.bool true)).same D _ HK7.out rfl
          have d2 := cell_kept E2.cell (grownBy_putObj' _ D (.deferred none)) (fun r e => by cases e; exact ⟨_, hK', rfl⟩)
          refine ⟨by simp, .inl ⟨_, _, rfl, run_takeDeferred hK', ?_⟩⟩
          refine ⟨.bool true, ?_, rfl, ((HC7.out.below).setCell (p := ⟨w.heap.size, 0, none⟩) (by show w.heap.size ≤ w.heap.size; omega) _).trans (belowK_b (w := w) (Nat.le_refl _) _ D _ _ (by omega) hK' rfl rfl)⟩
          simp [results, Try.f5, go_sem, d2]
        · have cR := HR7.out.cell
          have fR := HR7.out.frozen
          gi_wp2
          refine ⟨trivial, ?_⟩
          gi_wp2
          have E2 := (show Boxed w7' w.heap.size 4 (.bool false) from HR7.out).set (.bool true)
          have hK' := (KeepsOthers.setCell w7' ⟨w.heap.size, 0, none⟩ (.bool true)).same D _ HK7.out rfl
          have d2 := cell_kept E2.cell (grownBy_putObj' _ D (.deferred none)) (fun r e => by cases e; exact ⟨_, hK', rfl⟩)
          refine ⟨by simp, .inl ⟨_, _, rfl, run_takeDeferred hK', ?_⟩⟩
          refine ⟨.bool true, ?_, rfl, ((HC7.out.below).setCell (p := ⟨w.heap.size, 0, none⟩) (by show w.heap.size ≤ w.heap.size; omega) _).trans (belowK_b (w := w) (Nat.le_refl _) _ D _ _ (by omega) hK' rfl rfl)⟩
          simp [results, Try.f5, go_sem, d2]
theorem storeCuts_walk (w : World) (L : Option Addr) (n c : Nat) (ls : List (List UInt8)) (hL : Sl2 w (.slice L n c) ls) (hl : ls.length = n) (a : Int) (ha : (Lit.int .i64 a).wf = true) :
    Calls Try.prog 5 #[.slice L n c, .int .i64 a] w fun e w' => e = .returned (.bool true) ∧ Below w.heap.size w w' := by
  have hb : -9223372036854775808 ≤ a ∧ a ≤ 9223372036854775807 := by simpa [Lit.wf, IntKind.min, IntKind.max, IntKind.signed, IntKind.bits] using ha
  exact callsIn_wide.1 (storeCuts_core 3 (Nat.le_refl _) w L n c ls hL hl a hb.1 hb.2)
end Go.Proofs.Ytccphnkdnifpfaa

namespace Go.Proofs.Ytccphnkdnifpfaa.storeCuts
set_option linter.unnecessarySimpa false
open Go.Proofs.Ytccphnkdnifpfaa
open Go.ChangeShapes Go.WideShapes Go.ChangeAt Go.RowKit
open Go.ChangeMaps (open_string shut_string)
set_option linter.unusedVariables false
set_option linter.unusedSimpArgs false

set_option maxRecDepth 100000 in
theorem lifted (os : Os) (started : os.Started) (H : Type) (enc : TypeId × Value → H) :
    ReturnsInHanded {} Try.checked os 5 .any (Rows.storeCutsSpec.pre6 enc Try.prog Try.f5 Rows.storeCutsRow.domain false) (Rows.storeCutsSpec.post enc Try.prog Try.f5 false true false false) := by
  refine returnsInHanded_of_change_sized (C := Try.checked) own started (by kernel_rfl) Try.func5
    (ChangeSpec.witness6 (enc := enc) (C := Try.checked) false ⟨#[], #[.slice none 0 0, .int .i64 0], []⟩ 8 (by kernel_rfl) (by kernel_rfl) (by kernel_rfl) (by kernel_rfl)) ?_
  intro W base args ds gs before hval0 hW hcnd hsz0 _
  have hval : ∀ (j : Nat) t v, Try.f5.params[j]? = some t → args[j]? = some v → Value.okWide Try.prog W .any base t v := hval0
  have hsz : (DataW.weightsEach Try.prog (Try.f5.params.toList ++ Rows.storeCutsSpec.plain.varTypes Try.prog) (ds ++ gs)).all (· ≤ reachBytes) = true := hsz0
  have hW' := hW
  obtain ⟨p, q, hA0, hV, rfl, hfz, hnd⟩ := hW
  have hA : DataW.TrodAll enc Try.prog W 0 (fun _ => true) true Try.f5.params.toList args.toList ds p := hA0
  rw [Try.params5] at hA hval
  rw [Try.params5] at hsz
  obtain ⟨v0, vs0, d0, ds0, p0, q0, hargs, rfl, rfl, h0, r0⟩ := trodAll_cons hA
  obtain ⟨v1, vs1, d1, ds1, p1, q1, rfl, rfl, rfl, h1, r1⟩ := trodAll_cons r0
  obtain ⟨rfl, rfl, rfl⟩ := trodAll_nil r1
  obtain rfl : args = #[v0, v1] := by cases args; simp_all
  obtain ⟨rfl, rfl⟩ := trodVars_none hV
  have k0 := h0
  have lt0 : ∀ x ∈ p0, x.block < W.heap.size := by obtain ⟨m, hm⟩ := k0; exact DataW.trod_lt m _ _ _ hm
  obtain ⟨A0, n0, c0, xs0, rfl, w0, l0, e0, f0⟩ := open_rows Try.underlying22 Try.underlying30 Try.underlying5 (by kernel_rfl) (by kernel_rfl) (hval 0 22 v0 rfl rfl) h0
  have k1 := h1
  have lt1 : ∀ x ∈ p1, x.block < W.heap.size := by obtain ⟨m, hm⟩ := k1; exact DataW.trod_lt m _ _ _ hm
  obtain ⟨a1, rfl, rfl, rfl, w1⟩ := open_int Try.underlying3 (hval 1 3 v1 rfl rfl) h1
  clear hA0 hval0
  refine (storeCuts_walk W A0 n0 c0 xs0 w0 l0 a1 w1).mono fun e W' ⟨he, bel⟩ => ?_
  subst he
  exact ⟨_, rfl, _, _, _, [], _, [], hW', trodAll_mk1 (shut_bool Try.underlying4 _), (trodAll_cons_mk (Below.trod laidOut (by kernel_rfl) (of_decide_eq_true (by kernel_rfl)) k0 bel lt0) (trodAll_cons_mk (Below.trod laidOut (by kernel_rfl) (of_decide_eq_true (by kernel_rfl)) k1 bel lt1) trodAll_mk0)), rfl, bel.frame _, fun h => by cases h⟩

theorem over : Rows.storeCutsRow.holds Try.pinned (OpenSpec.ofChange Rows.storeCutsSpec) :=
  OpenClaim.holds_of_wide 5 Try.f5 rfl rfl rfl rfl rfl rfl rfl ⟨rfl, rfl, rfl, rfl, rfl⟩ rfl rfl rfl rfl rfl (by kernel_rfl) Try.func5 (by kernel_rfl)
    (of_decide_eq_true (by kernel_rfl)) (by unfold Func.isWrapper; first | (rw [if_pos (by decide +kernel)]; kernel_rfl) | (rw [if_neg (by decide +kernel)]; exact ⟨rfl, rfl⟩))
    (fun os started H enc _ => lifted os started H enc)

theorem proved : Rows.StoreCutsSaid := over
#print axioms proved
end Go.Proofs.Ytccphnkdnifpfaa.storeCuts

