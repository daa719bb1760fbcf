/-
  The walk of JournalLong: a payload as long as may be goes, one more does not.
-/
import Derived.Test.YtbbfjnfmfigcfaaJ16
import Derived.Test.YtbbfjnfmfigcfaaJournalAgain
namespace Go.Proofs.Ytbbfjnfmfigcfaa
open Go.RowKit Go.Shelf
set_option linter.unusedVariables false
set_option linter.unusedSimpArgs false
set_option maxRecDepth 100000

def fillL (m : Nat) (f : UInt8) (k : Nat) : List UInt8 := List.replicate k f ++ List.replicate (m - k) 0
theorem fillL_len (m : Nat) (f : UInt8) (k : Nat) (h : k ≤ m) : (fillL m f k).length = m := by simp [fillL]; omega
theorem fillL_set (m : Nat) (f : UInt8) (k : Nat) (h : k < m) : (fillL m f k).set k f = fillL m f (k + 1) := by
  unfold fillL
  rw [List.set_append_right _ _ (by simp)]
  have e : m - k = (m - (k + 1)) + 1 := by omega
  rw [List.length_replicate, Nat.sub_self, e, List.replicate_succ, List.set_cons_zero, List.replicate_succ', List.append_assoc]
  rfl
theorem fillL_all (m : Nat) (f : UInt8) : fillL m f m = List.replicate m f := by simp [fillL]

theorem own_fill {w : World} {base g M k : Nat} {f : UInt8} (h : OwnB w base (.slice (some ⟨g, 0, none⟩) M M) (fillL M f k)) (hk : k < M) : (∃ u, w.cell? ⟨g, k, none⟩ = some u) ∧ w.frozen? ⟨g, k, none⟩ = false ∧ ∀ n : Int, n = (f.toNat : Int) → OwnB (w.setCell ⟨g, k, none⟩ (.int .u8 n)) base (.slice (some ⟨g, 0, none⟩) M M) (fillL M f (k + 1)) := by
  have hl := fillL_len M f k (by omega)
  obtain ⟨g', cap, he, _, _, _, _, hc, hf⟩ := h.open (by omega)
  simp only [Value.slice.injEq, Option.some.injEq, Addr.mk.injEq, and_true, true_and] at he
  obtain ⟨rfl, -, rfl⟩ := he
  refine ⟨⟨_, hc k (by omega)⟩, hf k, fun n hn => ?_⟩
  have h2 : OwnB w base (.slice (some ⟨g, 0, none⟩) (fillL M f k).length M) (fillL M f k) := by rw [hl]; exact h
  have h3 := h2.set k (by omega) f n hn
  rw [fillL_set M f k hk, hl] at h3
  exact h3
section
variable {P : Program} {w : World}
/-- append onto a row that is full: a new row. -/
theorem wpList_appfull {ops : Array Oper} {rest : List Oper} {o : Oper} {a : Act} {Q : Exit → Act → World → Prop} (hgd : o.guard = none) (s x : Operand) (t tx : TypeId)
    (ho : o.op = .call { callee := .builtin .append, args := #[s, x], argTypes := #[t, tx] })
    (base : Nat) (e : TypeId) (z : Value) (size bytes : Nat) (hinfo : (P.info? e).map (fun i => (i.zero, i.size, i.bytes)) = some (some z, size, bytes)) (ht : P.underlying t = some (.slice e))
    (hzs : z.cells.size = size) (hsz : 0 < size)
    (A : Option Addr) (xv : Value) (n m : Nat) (xs news : List Value) (hs : a.eval s = .slice A n n) (hx : a.eval x = xv)
    (hown : w.ownsRow base e size (.slice A n n) n xs) (hsrc : Src P size tx xv m news w)
    (hbytes : (n + m) * bytes ≤ 140737488355328) (h63 : n + m ≤ maxLen) (hm : 0 < m)
    (h : ∀ v' w', w'.ownsRow w.heap.size e size v' (n + m) (xs ++ news) → Chg No w w' → wpList P ops Q rest (a.put o.dst v') w') : wpList P ops Q (o :: rest) a w := by
  obtain ⟨i, hi, hz0, hz1, hz2⟩ := info_parts hinfo
  subst hz1
  subst hz2
  have hl := hsrc.newsLen
  have hlen : (xs ++ news).length = (n + m) * i.size := by rw [List.length_append, hown.1, hl, Nat.add_mul]
  have hsmall : n + m ≤ 9223372036854775807 := by simp only [maxLen] at h63; omega
  obtain ⟨A', c', hv, hfirst⟩ := ownsRow_first (P := P) w hown
  simp only [Value.slice.injEq] at hv
  obtain ⟨rfl, -, rfl⟩ := hv
  have hr := run_append_grow_src (P := P) w t tx o.type e i z ht hi hz0 A n n xs hfirst xv m news hsrc (by omega) (by omega) (growslice_fits (by omega) hbytes)
  refine wpList_plain hgd fun _ hK => ?_
  unfold Oper.wp execOp
  simp only [ho, resolve, invoke, builtin, Sem.run_bind, Sem.run_pure, Result.andThen_ok, List.map_toArray, List.map_cons, List.map_nil, hs, hx, hr]
  refine hK _ _ (h _ _ ?_ ((Chg.refl No w).drew.alloc _))
  have hge := grownCap_ge w (n + m) n e
  have hcm : grownCap w (n + m) n e ≤ maxLen := grownCap_le_maxLen w (n + m) n e h63
  refine ⟨hlen, .inr ⟨w.heap.size, _, _, rfl, Nat.le_refl _, heap_alloc_new w.drew _, hge, hcm, ?_, ?_⟩⟩
  · simp only [Array.size_append, List.size_toArray, size_zeroCells, hzs, hlen, ← Nat.add_mul]
    congr 1
    omega
  · simp only [Array.toList_append]
    rw [← hlen]
    exact List.take_left
end
/-- One slice as a slice of slices. -/
theorem Sl2.one {w w' : World} {A : Option Addr} {n c : Nat} {xs : List UInt8} {t : TypeId} (hb : Bytes w (.slice A n c) xs) (hc : Chg No (w.alloc (.cells #[.slice A n c] t)) w') : Sl2 w' (.slice (some ⟨w.heap.size, 0, none⟩) 1 1) [xs] := by
  refine ⟨[.slice A n c], rfl, ⟨_, _, rfl, Nat.le_refl _, by unfold maxLen; decide, fun _ => ⟨_, _, rfl, fun j u hj => ?_⟩⟩, fun i hi hi' => ?_⟩
  · match j, hj with
    | 0, hj =>
      have h0 := hc.heap (heap_alloc_new w (.cells #[.slice A n c] t)) (fun x => x)
      simp only [List.getElem?_cons_zero, Option.some.injEq] at hj
      subst hj
      simp [World.cell?, h0]
    | j + 1, hj => simp at hj
  · simp only [List.length_cons, List.length_nil] at hi
    have : i = 0 := by omega
    subst this
    exact hb.no (((Chg.refl No w).alloc _).no hc)

set_option maxHeartbeats 12800000 in
theorem journalLong_core (w : World) (f : UInt8) (M : Nat) (hM : M = 262144) (fv : Int) (hfv : fv = (f.toNat : Int)) :
    Calls Try.prog 6 #[.int .u8 fv] w fun e w' => e = .returned (.bool true) ∧ Chg No w w' := by
  have hmay := Lib.hid (fun w => may_one w 102 (by decide))
  have HM := Lib.hid hM
  have hM1 : M ≤ 262144 := by omega
  have hM2 : 262144 ≤ M := by omega
  have HFV := Lib.hid hfv
  clear hM hfv
  go_enter Try.func6, Try.ntmps6
  go_wp2_with fail
  refine (wakes_calls w).mono ?_
  rintro e w1 ⟨rfl, hc1⟩
  have HC1 := Lib.hid hc1
  clear hc1
  go_wp2_with fail
  refine (new_calls w1).mono ?_
  rintro e w2 ⟨rfl, hD, hc⟩
  have HD := Lib.hid hD
  have HC2 := Lib.hid (HC1.out.no hc)
  have hs1 := HC1.out.size
  have hs2 := hc.size
  have hdw : w1.heap.size ≤ w1.heap.size + 1 := by omega
  clear hD hc
  generalize w1.heap.size + 1 = d at *
  generalize w1.heap.size = m at *
  go_wp2_with fail
  refine (fresh_open w2 w.heap.size d m 0 ⟨#[102]⟩ HD.out (by omega) (by omega) (by omega) (by omega)).mono ?_
  rintro e w3 ⟨j, S, rfl, hJ, hc3, hj⟩
  have HC3 := Lib.hid (HC2.out.newer hc3 (fun i hi => by rcases hi with rfl | rfl <;> omega))
  have HJ := Lib.hid hJ
  clear hJ hc3
  obtain ⟨i0, hi, hz0, hz1, hz2⟩ := info_parts infoU8
  obtain ⟨wm, hmk, hown, hgm⟩ := run_makeSlice_full (P := Try.prog) w3 w.heap.size 22 5 i0 (.int .u8 0) 1 Try.underlying22 hi hz0 hz1 .i64 .i64 M (by omega) (by rw [hz2]; omega) (by unfold maxLen; omega) HC3.out.size
  have hMv : ((M : Nat) : Int) = 262144 := by omega
  rw [made_u8] at hown
  rw [hMv] at hmk
  clear hi hz0 hz1 hz2 hMv
  have hO0 : OwnB wm w.heap.size (.slice (some ⟨w3.heap.size, 0, none⟩) M M) (fillL M f 0) := OwnB.of hown (by simp [fillL])
  have hcm : Chg No w3 wm := Chg.ofGrown hgm (fun k hk => by cases hk)
  have HO0 := Lib.hid hO0
  have HCm := Lib.hid hcm
  clear hO0 hcm hown hgm
  have hg3 : w3.heap.size < wm.heap.size := by
    have := HO0.out.block w3.heap.size rfl
    exact this.2
  have HJm := Lib.hid (HJ.out.no HCm.out)
  have hgS : ¬ S w3.heap.size := HJ.out.boundary (Nat.le_refl _)
  have hgw : w.heap.size ≤ w3.heap.size := HC3.out.size
  go_wp2
  clear hmk
  generalize w3.heap.size = g at *
  go_loopw [30] (fun i wr => ∃ k : Nat, k ≤ M ∧ i = .int .i64 (k : Int) ∧ Hid (OwnB wr w.heap.size (.slice (some ⟨g, 0, none⟩) M M) (fillL M f k)) ∧ Hid (Chg (One g) wm wr)) (fun i _ => M - (intOf i).toNat)
  case atStart => exact ⟨0, Nat.zero_le _, rfl, HO0.out, Chg.refl _ _⟩
  case round =>
    obtain ⟨k, hk, rfl, HO, HC⟩ := hrel
    rcases Nat.lt_or_ge k M with hlt | hge
    · have i1 : (k : Int) < (M : Int) := by omega
      obtain ⟨⟨u, hu⟩, hfz, hset⟩ := own_fill HO.out hlt
      have HSET := Lib.hid (hset fv HFV.out)
      clear hset
      go_wp2
      go_roundw
      case rel => exact ⟨k + 1, by omega, by go_num, HSET.out, HC.out.trans (Chg.put wr g k (.int .u8 fv)) (fun _ _ x => x)⟩
      case measure => simp only [intOf]; omega
    · have i1 : ¬ (k : Int) < (M : Int) := by omega
      have hkM : k = M := by omega
      have hO1 := HO.out
      rw [hkM, fillL_all] at hO1
      have HO1 := Lib.hid hO1
      have HLR : Hid ((List.replicate M f).length = M) := List.length_replicate
      have HJr := Lib.hid (HJm.out.chg HC.out (fun i hi e => hgS (by have e : i = g := e; subst e; exact hi)))
      have HCw : Hid (Chg No w wr) := (HC3.out.no HCm.out).newer HC.out (fun i e => by have e : i = g := e; omega)
      clear hO1 hkM HO
      go_wp2_with (at_builtin; (refine wpList_appfull rfl (.tmp 39) (.tmp 40) 22 22 rfl w.heap.size 5 (.int .u8 0) 1 1 infoU8 Try.underlying22 rfl (by decide) (some ⟨g, 0, none⟩) (.slice (some ⟨wr.heap.size, 0, none⟩) 1 1) M 1 (u8s (List.replicate M f)) [.int .u8 1] rfl rfl ?own ?src ?b1 ?b2 ?b3 ?_; (case own => exact World.ownsRow.alloc (OwnB.n HO1.out HLR.out) _); (case src => exact Src.one Try.underlying22 _ rfl); (case b1 => omega); (case b2 => unfold maxLen; omega); (case b3 => omega); intro vb w4 hown4 hc4; refine Hid.out ?_))
      refine Lib.hid ?_
      have hO4 : OwnB w4 wr.heap.size vb (List.replicate M f ++ [1]) := OwnB.mono (OwnB.of hown4 (by rw [u8s_append]; rfl)) (by simp)
      have hc4' : Chg No wr w4 := ((Chg.refl No wr).alloc _).no hc4
      obtain ⟨AB, nb, cb, rfl, HLB, HOB⟩ := hO4.form
      have hnb : 262144 < nb := by have := HLB.out; rw [List.length_append, HLR.out] at this; simp at this; omega
      have HC4 := Lib.hid hc4'
      have HJ4 := Lib.hid (HJr.out.no hc4')
      clear hO4 hown4 hc4 hc4'
      go_wp2_with fail
      refine (jappend_over w4 S w.heap.size j d m 0 ⟨#[102]⟩ false [] AB nb cb HJ4.out hnb).mono ?_
      rintro e w5 ⟨rfl, rfl⟩
      go_wp2_with fail
      refine (jwrites_calls w5 _ _ j _ _ 0 _ _ [] HJ4.out).mono ?_
      rintro e w6 ⟨rfl, hc6⟩
      have HJ6 := Lib.hid (HJ4.out.no hc6)
      have HC6 := Lib.hid (HC4.out.no hc6)
      clear hc6
      go_wp2_with fail
      have hrl := recF_len (List.replicate M f) (by rw [HLR.out]; omega)
      rw [HLR.out] at hrl
      refine (jappend_calls w6 S w.heap.size j d m 0 ⟨#[102]⟩ hmay.out false [] (some ⟨g, 0, none⟩) M M (List.replicate M f) HJ6.out (HO1.out.bytes.no HC6.out) HLR.out (fun b hb => by cases hb; exact hgS) hM1 (by simp only [encF, List.flatMap_nil, List.length_nil]; omega) (by omega)).mono ?_
      rintro e w7 ⟨rfl, hJ7, hc7⟩
      have HJ7 := Lib.hid hJ7
      have HB7 := Lib.hid ((HO1.out.bytes.no HC6.out).chg hc7 (fun b hb => by cases hb; exact hgS))
      have HC7 := Lib.hid ((HCw.out.no HC6.out).newer hc7 (fun i hi => (HJ6.out.lt i hi).1))
      have hen : (encF ([] ++ [List.replicate M f])).length ≤ 4194304 := by
        simp only [List.nil_append, encF, List.flatMap_cons, List.flatMap_nil, List.append_nil]
        omega
      have hnw : 0 + ((recF (List.replicate M f)).length + 31) / 32 < 9223372036850000000 := by omega
      have hKp : ∀ p ∈ ([] ++ [List.replicate M f] : List (List UInt8)), p.length ≤ 262144 := by
        intro p hp
        simp only [List.nil_append, List.mem_singleton] at hp
        rw [hp, HLR.out]; exact hM1
      clear hJ7 hc7 hrl
      go_wp2_with fail
      refine (again_open w7 _ w.heap.size j d m _ ⟨#[102]⟩ true _ HJ7.out hKp hen hnw).mono ?_
      rintro e w8 ⟨j2, S2, rfl, hJ8, hc8⟩
      have HJ8 := Lib.hid hJ8
      have HB8 := Lib.hid (HB7.out.no hc8)
      have HC8 := Lib.hid (HC7.out.no hc8)
      clear hJ8 hc8
      go_wp2_with fail
      refine (holds_calls _ _ _ j2 _ _ _ _ _ [List.replicate M f] (HJ8.out.no ((Chg.refl No w8).alloc _)) hen _ 1 1 (Sl2.one HB8.out (Chg.refl No _)) rfl).mono ?_
      rintro e w9 ⟨rfl, hc9⟩
      have HC9 := Lib.hid ((HC8.out.alloc _).no hc9)
      clear hc9
      go_wp2_with fail
      refine (wakes_calls w9).mono ?_
      rintro e w10 ⟨rfl, hc10⟩
      go_wp2
      go_ret
      exact ⟨rfl, HC9.out.no hc10⟩

theorem journalLong_walk (w : World) (a : Int) (ha : (Lit.int .u8 a).wf = true) :
    Calls Try.prog 6 #[.int .u8 a] w fun e w' => e = .returned (.bool true) ∧ Below w.heap.size w w' := by
  have hb : 0 ≤ a ∧ a ≤ 255 := by simpa [Lit.wf, IntKind.min, IntKind.max, IntKind.signed, IntKind.bits] using ha
  exact (journalLong_core w (UInt8.ofNat a.toNat) 262144 rfl a (by rw [UInt8.toNat_ofNat']; omega)).mono fun _ _ h => ⟨h.1, h.2.below⟩
end Go.Proofs.Ytbbfjnfmfigcfaa
