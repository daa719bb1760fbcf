/-
  Open.
-/
import Derived.Test.YtbbfjnfmfigcfaaJp
import Derived.Test.YtbbfjnfmfigcfaaJ9
import Derived.Lib.ConvBytes
import Derived.Deep.LoopGhost
namespace Go.Proofs.Ytbbfjnfmfigcfaa
open Go.RowKit Go.Shelf
set_option linter.unusedVariables false
set_option linter.unusedSimpArgs false
set_option maxRecDepth 100000

theorem open_none (w : World) (k : ByteArray) :
    Calls Try.prog 11 #[.pointer none, .string k] w fun e w' => e = .returned (.tuple #[.pointer none, .int .i64 1]) ∧ Chg No w w' := by
  go_enter Try.func11, Try.ntmps11
  go_wp2
  go_step3
  go_wp2
  rw [Exit.noGoto_ret]
  go_ret2
  exact ⟨rfl, Chg.refl _ _⟩

/-- What Open reads, whether the file is there or not. -/
theorem dread_any (w : World) (base d m wr : Nat) (k : ByteArray) (th : Bool) (A : Option Addr) (n c : Nat) (xs : List UInt8) (h : DiskAt w d m wr (if th then some (k, .slice A n c) else none)) (ho : OwnB w base (.slice A n c) xs) (hl : xs.length = n) (hth : th = false → xs = []) (hx : n ≤ 140737488355328) :
    Calls Try.prog 12 #[.pointer (some ⟨d, 0, none⟩), .string k] w fun e w' => ∃ v er, e = .returned (.tuple #[v, .int .i64 er]) ∧ (er = 0 ∨ er = 4) ∧ OwnB w' w.heap.size v xs ∧ Chg No w w' := by
  cases th
  · obtain rfl := hth rfl
    refine (dread_none w d m wr k h).mono ?_
    rintro e w' ⟨rfl, hc⟩
    exact ⟨_, 4, rfl, .inr rfl, World.ownsRow_nil _ _ _ _, hc⟩
  · refine (dread_some w d m wr k A n c xs h ho.bytes hx).mono ?_
    rintro e w' ⟨v, rfl, ho', hc⟩
    exact ⟨v, 0, rfl, .inl rfl, ho', hc⟩

/-- A convert of a text to bytes. -/
theorem conv_bytes (w : World) (l : List UInt8) (hl : l.length ≤ 140737488355328) : ∃ c w', Sem.run Try.prog (convert 9 22 (.string (mkS l))) w = .ok (.slice (some ⟨w.heap.size, 0, none⟩) l.length c) w' ∧ Bytes w' (.slice (some ⟨w.heap.size, 0, none⟩) l.length c) l ∧ Chg No w w' ∧ w'.heap.size = w.heap.size + 1 := by
  have hr := Lib.run_convert_string_bytes (P := Try.prog) w 9 22 5 (mkS l) Try.underlying9 Try.underlying22 Try.underlying5
  have hs : (mkS l).size = l.length := mkS_size l
  rw [hs] at hr
  refine ⟨_, _, hr, ⟨_, _, rfl, grownCap_ge w _ _ _, grownCap_le_maxLen w _ _ _ (by unfold maxLen; omega), fun hp => ⟨_, _, rfl, fun j u hj => ?_⟩⟩, ⟨rfl, rfl, rfl, by rw [Lib.bytesWorld_size]; omega, fun k hk _ => Lib.bytesWorld_at_old w _ _ k hk⟩, Lib.bytesWorld_size _ _ _⟩
  have hjl : j < l.length := by have := (List.getElem?_eq_some_iff.1 hj).1; simpa using this
  rw [Nat.zero_add, Lib.bytesWorld_cell w _ _ j (by rw [hs]; exact hjl), ← hj, u8s_get l j hjl]
  simp [List.getD, hjl]


theorem ownsRow_base {w : World} {base base' size n : Nat} {e : TypeId} {v : Value} {xs : List Value} (h : w.ownsRow base e size v n xs) (hb : base' ≤ base) : w.ownsRow base' e size v n xs := by
  obtain ⟨h1, h2⟩ := h
  refine ⟨h1, h2.imp id ?_⟩
  rintro ⟨g, cap, cur, hv, hg, r⟩
  exact ⟨g, cap, cur, hv, Nat.le_trans hb hg, r⟩
theorem rText_len (most : Int) (r : Rd) : (rText most r).1.length ≤ r.rest.length := by
  unfold rText
  repeat' split
  all_goals first | simp; omega | simp
theorem JCells.ned {w : World} {j d d' m wr : Nat} {k : ByteArray} {va vp : Value} {sz : Nat} {cut : Bool} {f : Option (ByteArray × Value)} (h : JCells w j d k va vp sz cut) (hd : DiskAt w d' m wr f) : j ≠ d' ∧ j ≠ m := by
  constructor
  · rintro rfl
    have h1 := (show w.heap[j]? = _ from h).symm.trans hd.1
    cases h1
  · rintro rfl
    have h1 := (show w.heap[j]? = _ from h).symm.trans hd.2
    unfold mapObj at h1
    split at h1 <;> cases h1
theorem DiskAt.no {w w' : World} {d m wr : Nat} {f : Option (ByteArray × Value)} (h : DiskAt w d m wr f) (hc : Chg No w w') : DiskAt w' d m wr f := h.chg hc (fun x => x) (fun x => x)
theorem RdrAt.dlt {w : World} {g d : Nat} {r : Rd} (h : RdrAt w g d r) (hne : r.rest ≠ []) : d < w.heap.size := by
  obtain ⟨A, c, h1, h2, h3, h4⟩ := h
  obtain ⟨b, o, rfl, hc⟩ := h2.addr (List.length_pos_iff.2 hne)
  have := h3 _ rfl
  subst this
  exact World.block_lt_of_cell? w _ (hc 0 (List.length_pos_iff.2 hne))
theorem RdrAt.gobj {w : World} {g d : Nat} {r : Rd} (h : RdrAt w g d r) : ∃ v e, w.heap[g]? = some (.cells #[.bool true, v, .int .i64 e] 78 (0, 0)) := by
  obtain ⟨A, c, h1, h2, h3, h4⟩ := h
  exact ⟨_, _, h1⟩
theorem left_at (w : World) (g d n : Nat) (xs : List UInt8) (e : Int) (h : RdrAt w g d ⟨xs, e⟩) (hl : xs.length = n) :
    Calls Try.prog 25 #[.pointer (some ⟨g, 0, none⟩)] w fun r w' => r = .returned (.int .i64 (n : Int)) ∧ w = w' := by
  subst hl; exact left_calls w g d _ h
theorem text_at (w : World) (g d : Nat) (xs t1 t2 : List UInt8) (te : Int) (h : RdrAt w g d ⟨xs, 0⟩) (hx : xs.length ≤ 140737488355328) (hT : rText 262144 ⟨xs, 0⟩ = (t1, ⟨t2, te⟩)) :
    Calls Try.prog 26 #[.pointer (some ⟨g, 0, none⟩), .int .i64 262144] w fun e w' => e = .returned (.string (mkS t1)) ∧ RdrAt w' g d ⟨t2, te⟩ ∧ Chg (One g) w w' := by
  have := text_calls w g d ⟨xs, 0⟩ 262144 (by omega) h hx
  rw [hT] at this
  exact this
theorem word_at (w : World) (g d s1 : Nat) (t2 s2 : List UInt8) (te se : Int) (h : RdrAt w g d ⟨t2, te⟩) (hS : rWord ⟨t2, te⟩ = (s1, ⟨s2, se⟩)) :
    Calls Try.prog 27 #[.pointer (some ⟨g, 0, none⟩)] w fun e w' => e = .returned (.int .u64 (s1 : Int)) ∧ RdrAt w' g d ⟨s2, se⟩ ∧ Chg (One g) w w' := by
  have := word_calls w g d ⟨t2, te⟩ h
  rw [hS] at this
  exact this
/-- The blocks of an opened journal. -/
def OS (w w' : World) (d m : Nat) (v : Value) : Nat → Prop := fun i => (i = d ∨ i = m ∨ some i = v.ownBlock) ∨ (w.heap.size ≤ i ∧ i < w'.heap.size)

set_option maxHeartbeats 6400000 in
theorem open_calls (w : World) (base d m nw : Nat) (k : ByteArray) (th : Bool) (AF : Option Addr) (nf cf : Nat) (file : List UInt8) (ps : List (List UInt8)) (wrong : Bool) (hR : Rds file ps wrong)
    (h : DiskAt w d m nw (if th then some (k, .slice AF nf cf) else none)) (ho : OwnB w base (.slice AF nf cf) file) (hl : file.length = nf) (hth : th = false → AF = none ∧ nf = 0 ∧ cf = 0) (hn : nf ≤ 4194304) (hw : nw < 9223372036850000000) (hbd : base ≤ d ∧ base ≤ m) (hbase : base ≤ w.heap.size) :
    Calls Try.prog 11 #[.pointer (some ⟨d, 0, none⟩), .string k] w fun e w' =>
      (wrong = true → e = .returned (.tuple #[.pointer none, .int .i64 8]) ∧ Chg No w w') ∧
      (wrong = false → ∃ j, e = .returned (.tuple #[.pointer (some ⟨j, 0, none⟩), .int .i64 0]) ∧ ∃ nw', nw' ≤ nw + 1 ∧ (encF ps = file → nw' = nw ∧ Chg No w w') ∧ JD w' (OS w w' d m (.slice AF nf cf)) base j d m nw' k th ps ∧ Chg (DM d m) w w' ∧ w.heap.size ≤ j) := by
  have HD := Lib.hid h
  have HO := Lib.hid ho
  have HL := Lib.hid hl
  have HTH := Lib.hid hth
  have HR := Lib.hid hR
  have hth2 : th = false → file = [] := fun ht => List.eq_nil_of_length_eq_zero (by rw [hl, (hth ht).2.1])
  have HRD := Lib.hid (dread_any w base d m nw k th AF nf cf file h ho hl hth2 (by omega))
  clear h ho hl hth hR hth2
  go_enter Try.func11, Try.ntmps11
  go_wp2
  go_step3
  go_wp2_with fail
  refine HRD.out.mono ?_
  rintro e w1 ⟨v1, er, rfl, her, ho1, hc1⟩
  obtain ⟨A1, n1, c1, rfl, HL1, HO1⟩ := ho1.form
  have HC1 := Lib.hid hc1
  clear ho1 hc1
  rcases her with rfl | rfl
  all_goals (
    go_wp2_with fail
    refine (read_calls _ A1 n1 c1 file (HO1.out.bytes.no ((Chg.refl No _).alloc _)) (by have := HL1.out; have := HL.out; omega)).mono ?_
    rintro e w2 ⟨w3, v3, rfl, rfl, ho3, hc3⟩
    obtain ⟨gd, hgd, hr3⟩ := RdrAt.made ho3 (by have := hc3.size; simpa using this)
    have hszw := HC1.out.size
    have hsz3 := hc3.size
    simp only [World.size_alloc] at hgd hsz3
    have hJ4 : JCells (w3.alloc (.cells #[.bool true, v3, .int .i64 0] 78)) w1.heap.size d k (.slice none 0 0) (.slice none 0 0) (encF []).length false :=
      (Chg.alloc hc3 _).heap (heap_alloc_new w1 _) (fun x => x)
    have hC4 : Chg No w (w3.alloc (.cells #[.bool true, v3, .int .i64 0] 78)) := ((HC1.out.alloc _).no hc3).alloc _
    have hj : w.heap.size ≤ w1.heap.size := hszw
    have hgj : w1.heap.size < w3.heap.size := by omega
    clear ho3 hc3 hszw hsz3
    have HR3 := Lib.hid hr3
    have HJ4 := Lib.hid hJ4
    have HC4 := Lib.hid hC4
    clear hr3 hJ4 hC4
    generalize w3.alloc (.cells #[.bool true, v3, .int .i64 0] 78) = w4 at *
    generalize w1.heap.size = j at *
    generalize w3.heap.size = g at *
    go_wp2
    go_step3
    go_wp2
    go_loopg [10] nf (fun gk _ wr => ∃ (done : List (List UInt8)) (rest : List UInt8) (A : Option Addr) (n c : Nat) (AP : Option Addr) (np cp : Nat), rest.length ≤ gk ∧ Hid (file = encF done ++ rest) ∧ Hid (∀ qs v, Rds rest qs v → Rds file (done ++ qs) v) ∧ Hid (RdrAt wr g gd ⟨rest, 0⟩) ∧ Hid (JCells wr j d k (.slice A n c) (.slice AP np cp) (encF done).length false) ∧ Hid (OwnB wr w.heap.size (.slice A n c) done.flatten) ∧ Hid (wr.ownsRow w.heap.size 82 2 (.slice AP np cp) np (partsC 0 done)) ∧ Hid (done.flatten.length = n) ∧ Hid (done.length = np) ∧ Hid (Chg No w wr) ∧ Hid ((∀ b, (Value.slice A n c).ownBlock = some b → b ≠ gd) ∧ (∀ b, (Value.slice AP np cp).ownBlock = some b → b ≠ gd)))
    case atStart => exact ⟨[], file, none, 0, 0, none, 0, 0, by have := HL.out; omega, rfl, fun _ _ h => h, HR3.out, HJ4.out, World.ownsRow_nil _ _ _ _, World.ownsRow_nil _ _ _ _, rfl, rfl, HC4.out, (fun b hb => by cases hb), (fun b hb => by cases hb)⟩
    case round =>
      obtain ⟨done, rest, A, n, c, AP, np, cp, hgk, HX, HK, HRr, HJ, HOA, HOP, HLA, HLP, HC, HNG⟩ := hrel
      by_cases hne : rest = []
      · subst hne
        have hstop : stepF [] = none := by simp [stepF]
        go_wp2_with fail
        refine (left_at wr g gd 0 [] 0 HRr.out rfl).mono ?_
        rintro e w' ⟨rfl, rfl⟩
        have hps : ps = done ∧ wrong = false := by
          have h2 := HR.out.unique (HK.out [] false (.stop hstop))
          rw [List.append_nil] at h2
          exact h2
        obtain ⟨rfl, rfl⟩ := hps
        have henc := HR.out.enc
        have HENC := Lib.hid henc
        have HLe : Hid ((encF ps).length ≤ nf) := by have := henc.2; rw [HL.out] at this; exact this
        have e4 := HJ.out.c4
        have hDr := HD.out.no HC.out
        obtain ⟨sz, hsz⟩ : ∃ sz, (encF ps).length = sz := ⟨_, rfl⟩
        rw [hsz] at e4
        have HS := Lib.hid hsz
        have hsn : sz ≤ nf := by have := HLe.out; omega
        have hnf1 : n1 = nf := by have := HL1.out; have := HL.out; omega
        subst hnf1
        clear hsz henc
        have HFO := Lib.hid (HO.out.chg HC.out (fun _ _ x => x))
        have hO0 := HO.out
        have HNd := Lib.hid (fun (i : Nat) (h : i = d ∨ i = m ∨ some i = (Value.slice AF n1 cf).ownBlock) => show base ≤ i ∧ i < w.heap.size from by
          rcases h with rfl | rfl | e
          · exact ⟨hbd.1, (Array.getElem?_eq_some_iff.1 HD.out.1).1⟩
          · exact ⟨hbd.2, (Array.getElem?_eq_some_iff.1 HD.out.2).1⟩
          · exact hO0.block i e.symm)
        have HDr := Lib.hid hDr
        clear hDr hO0
        rcases Nat.lt_or_ge sz n1 with hlt | hge
        · have q1 : (sz : Int) < (n1 : Int) := by omega
          have hth1 : th = true := by
            cases th
            · have := (HTH.out rfl).2.1; omega
            · rfl
          subst hth1
          have HDt : Hid (DiskAt wr d m nw (some (k, .slice AF n1 cf))) := HDr.out
          have HT := Lib.hid (truncate_calls wr d m nw k AF n1 cf sz file HDt.out hw HFO.out.bytes HL.out hlt (by omega) (fun b hb e => HDt.out.nd HFO.out (by decide) (by rw [hb, e])))
          go_wp2_with fail
          refine HT.out.mono ?_
          rintro e w6 ⟨rfl, v6, hD6, hO6, hC6⟩
          obtain ⟨A6, n6, c6, rfl, HL6, HO6⟩ := hO6.form
          have HD6 := Lib.hid hD6
          have HC6 := Lib.hid hC6
          clear hD6 hO6 hC6 HT
          go_wp2
          all_goals (try rw [Exit.noGoto_ret])
          go_ret2
          have hsz6 := HC6.out.size
          have hszr := HC.out.size
          have e6 : file.take sz = encF ps := by rw [← HS.out]; exact HENC.out.1
          have hnd : ∀ {e : TypeId} {size n base' : Nat} {v : Value} {xs : List Value}, e ≠ 67 → wr.ownsRow base' e size v n xs → ∀ b, v.ownBlock = some b → ¬ DM d m b := by
            rintro e size n base' v xs he ho b hb (rfl | rfl)
            · exact HDt.out.nd ho he hb.symm
            · exact HDt.out.nm ho hb.symm
          have hcw : Chg (DM d m) w w6 := (HC.out.mono (fun _ _ x => x.elim)).trans HC6.out (fun _ _ x => x)
          refine ⟨(fun h => by cases h), fun _ => ⟨j, rfl, nw + 1, by omega, (fun he => ?_), ?_, hcw, hj⟩⟩
          · exfalso
            have h1 := HS.out
            have h2 := HL.out
            rw [he] at h1
            omega
          · have hO7 := HO6.out
            rw [e6] at hO7
            refine ⟨A, n, c, AP, np, cp, A6, n6, c6, ?_, HD6.out, (HOA.out.chg HC6.out (hnd (by decide) HOA.out)).mono hbase, ownsRow_base (ownsRow_chg HOP.out HC6.out (hnd (by decide) HOP.out)) hbase, hO7.mono (by omega), HLA.out, HLP.out, ?_, (fun h => by cases h), ?_, ?_, ?_, ?_, ?_, ?_, ?_, ?_, by omega⟩
            · refine HC6.out.heap HJ.out ?_
              rintro (e | e)
              · exact (HJ.out.ned HDt.out).1 e
              · exact (HJ.out.ned HDt.out).2 e
            · rw [← e6]; exact HL6.out
            · intro b hb hx
              have h1 := (HOA.out.block b hb).2
              have h2 := (HO6.out.block b hx).1
              omega
            · exact fun b hb => .inr ⟨(HOA.out.block b hb).1, Nat.lt_of_lt_of_le (HOA.out.block b hb).2 hsz6⟩
            · exact fun b hb => .inr ⟨(World.ownsRow.lt HOP.out b hb).1, Nat.lt_of_lt_of_le (World.ownsRow.lt HOP.out b hb).2 hsz6⟩
            · exact fun b hb => .inr ⟨Nat.le_trans hszr (HO6.out.block b hb).1, (HO6.out.block b hb).2⟩
            · exact .inr ⟨hj, Nat.lt_of_lt_of_le HJ.out.lt hsz6⟩
            · exact .inl (.inl rfl)
            · exact .inl (.inr (.inl rfl))
            · rintro i (hi | hi)
              · have := HNd.out i hi; omega
              · omega
        · have q1 : ¬ (sz : Int) < (n1 : Int) := by omega
          go_wp2_with fail
          all_goals (try rw [Exit.noGoto_ret])
          go_ret2
          have hszr := HC.out.size
          have e6 : encF ps = file := by
            have h1 := HENC.out.1
            rw [List.take_of_length_le (by have := HS.out; have := HL.out; omega)] at h1
            exact h1.symm
          refine ⟨(fun h => by cases h), fun _ => ⟨j, rfl, nw, by omega, (fun _ => ⟨rfl, HC.out⟩), ?_, HC.out.mono (fun _ _ x => x.elim), hj⟩⟩
          refine ⟨A, n, c, AP, np, cp, AF, n1, cf, HJ.out, HDr.out, HOA.out.mono hbase, ownsRow_base HOP.out hbase, by rw [e6]; exact HFO.out, HLA.out, HLP.out, by rw [e6]; exact HL.out, (fun ht => ?_), ?_, ?_, ?_, ?_, ?_, ?_, ?_, ?_, by omega⟩
          · refine ⟨(HTH.out ht).1, (HTH.out ht).2.1, (HTH.out ht).2.2, ?_⟩
            have h0 := (HTH.out ht).2.1
            have h1 := encF_len ps
            have h2 := HS.out
            cases ps with
            | nil => rfl
            | cons a b => simp at h1; omega
          · intro b hb hx
            have h1 := (HOA.out.block b hb).1
            have h2 := HNd.out b (.inr (.inr hx.symm))
            omega
          · exact fun b hb => .inr (HOA.out.block b hb)
          · exact fun b hb => .inr (World.ownsRow.lt HOP.out b hb)
          · exact fun b hb => .inl (.inr (.inr hb.symm))
          · exact .inr ⟨hj, HJ.out.lt⟩
          · exact .inl (.inl rfl)
          · exact .inl (.inr (.inl rfl))
          · rintro i (hi | hi)
            · have := HNd.out i hi; omega
            · omega

      · have hgd2 := HRr.out.dlt hne
        have hgo := HRr.out.gobj
        obtain ⟨rl, hrl⟩ : ∃ rl, rest.length = rl := ⟨_, rfl⟩
        have HRL := Lib.hid hrl
        have hrl0 : 0 < rl := by rw [← hrl]; exact List.length_pos_iff.2 hne
        have hrln : rl ≤ nf := by
          have h1 := congrArg List.length HX.out
          rw [List.length_append, HL.out] at h1; omega
        have h0 : (0 : Int) < (rl : Int) := by omega
        have hstep := reader_step rest hne
        obtain ⟨t1, t2, te, hT⟩ : ∃ t1 t2 te, rText 262144 ⟨rest, 0⟩ = (t1, ⟨t2, te⟩) := ⟨_, _, _, rfl⟩
        have ht1 : t1.length ≤ rl := by have := rText_len 262144 ⟨rest, 0⟩; rw [hT, hrl] at this; exact this
        obtain ⟨s1, s2, se, hS⟩ : ∃ s1 s2 se, rWord ⟨t2, te⟩ = (s1, ⟨s2, se⟩) := ⟨_, _, _, rfl⟩
        rw [hT] at hstep
        simp only [hS] at hstep
        have HT := Lib.hid hT
        have HS2 := Lib.hid hS
        have HSTEP := Lib.hid hstep
        clear hT hS hstep hrl
        go_wp2_with fail
        refine (left_at wr g gd rl rest 0 HRr.out HRL.out).mono ?_
        rintro e w' ⟨rfl, rfl⟩
        go_wp2_with fail
        refine (left_at wr g gd rl rest 0 HRr.out HRL.out).mono ?_
        rintro e w' ⟨rfl, rfl⟩
        go_wp2_with fail
        refine (text_at wr g gd rest t1 t2 te HRr.out (by have := HRL.out; omega) HT.out).mono ?_
        rintro e w5 ⟨rfl, hr5, hc5⟩
        obtain ⟨c6, w6, hcv, hb6, hc6, hs6⟩ := conv_bytes w5 t1 (by omega)
        have HR6 := Lib.hid (hr5.no hc6)
        have HB6 := Lib.hid hb6
        have HC6 : Hid (Chg (One g) wr w6) := hc5.no hc6
        have hs56 := hc5.size
        clear hr5 hb6 hc6 hc5
        go_wp2_with fail
        clear hcv
        refine (word_at w6 g gd s1 t2 s2 te se HR6.out HS2.out).mono ?_
        rintro e w7 ⟨rfl, hr7, hc7⟩
        have HR7 := Lib.hid hr7
        have HC7 : Hid (Chg (One g) wr w7) := HC6.out.trans hc7 (fun _ _ x => x)
        have hb5 : w5.heap.size ≠ g := by have h1 := HRr.out.lt; omega
        have HB7 := Lib.hid (HB6.out.chg hc7 (fun b hb e => by cases hb; exact hb5 e))
        clear hr7 hc7
        have hlrg := HRr.out.lt
        have hC7 : Chg No w w7 := HC.out.one (g := g) HC7.out (.inl (by omega))
        have hjg : ¬ (One g) j := fun e => by have e : j = g := e; omega
        have hAg : ∀ b, (Value.slice A n c).ownBlock = some b → ¬ (One g) b := by
          rintro b hb rfl
          obtain ⟨v, e, ho⟩ := hgo
          obtain ⟨cc, fz, hcc⟩ := ownsRow_cells HOA.out _ hb
          have := ho.symm.trans hcc; cases this
        have hPg : ∀ b, (Value.slice AP np cp).ownBlock = some b → ¬ (One g) b := by
          rintro b hb rfl
          obtain ⟨v, e, ho⟩ := hgo
          obtain ⟨cc, fz, hcc⟩ := ownsRow_cells HOP.out _ hb
          have := ho.symm.trans hcc; cases this
        have HJ := Lib.hid (show JCells w7 j d k (.slice A n c) (.slice AP np cp) (encF done).length false from HC7.out.heap HJ.out hjg)
        have HOA := Lib.hid (HOA.out.chg HC7.out hAg)
        have HOP := Lib.hid (ownsRow_chg HOP.out HC7.out hPg)
        have HC := Lib.hid hC7
        have hsz7 := HC7.out.size
        clear hC7 HC6 HC7 HR6 HB6 hgo HT HS2
        clear hjg hAg hPg
        generalize hst : stepF rest = st at *
        have hstep := HSTEP.out
        clear HSTEP
        rcases st with _ | _ | p
        · have hstop : stepF rest = none := hst
          have h110 : (se == 110) = true := beq_iff_eq.2 hstep
          have h110' : se = 110 := hstep
          subst h110'
          clear hst hstep
          have hps : ps = done ∧ wrong = false := by
            have h2 := HR.out.unique (HK.out [] false (.stop hstop))
            rw [List.append_nil] at h2
            exact h2
          obtain ⟨rfl, rfl⟩ := hps
          have henc := HR.out.enc
          have HENC := Lib.hid henc
          have HLe : Hid ((encF ps).length ≤ nf) := by have := henc.2; rw [HL.out] at this; exact this
          have e4 := HJ.out.c4
          have hDr := HD.out.no HC.out
          obtain ⟨sz, hsz⟩ : ∃ sz, (encF ps).length = sz := ⟨_, rfl⟩
          rw [hsz] at e4
          have HS := Lib.hid hsz
          have hsn : sz ≤ nf := by have := HLe.out; omega
          have hnf1 : n1 = nf := by have := HL1.out; have := HL.out; omega
          subst hnf1
          clear hsz henc
          have HFO := Lib.hid (HO.out.chg HC.out (fun _ _ x => x))
          have hO0 := HO.out
          have HNd := Lib.hid (fun (i : Nat) (h : i = d ∨ i = m ∨ some i = (Value.slice AF n1 cf).ownBlock) => show base ≤ i ∧ i < w.heap.size from by
            rcases h with rfl | rfl | e
            · exact ⟨hbd.1, (Array.getElem?_eq_some_iff.1 HD.out.1).1⟩
            · exact ⟨hbd.2, (Array.getElem?_eq_some_iff.1 HD.out.2).1⟩
            · exact hO0.block i e.symm)
          have HDr := Lib.hid hDr
          clear hDr hO0
          rcases Nat.lt_or_ge sz n1 with hlt | hge
          · have q1 : (sz : Int) < (n1 : Int) := by omega
            have hth1 : th = true := by
              cases th
              · have := (HTH.out rfl).2.1; omega
              · rfl
            subst hth1
            have HDt : Hid (DiskAt w7 d m nw (some (k, .slice AF n1 cf))) := HDr.out
            have HT := Lib.hid (truncate_calls w7 d m nw k AF n1 cf sz file HDt.out hw HFO.out.bytes HL.out hlt (by omega) (fun b hb e => HDt.out.nd HFO.out (by decide) (by rw [hb, e])))
            go_wp2_with (go_at_call 28; refine (err_calls w7 g gd ⟨s2, 110⟩ HR7.out).mono ?_; rintro e w9 ⟨rfl, rfl⟩)
            refine HT.out.mono ?_
            rintro e w6 ⟨rfl, v6, hD6, hO6, hC6⟩
            obtain ⟨A6, n6, c6, rfl, HL6, HO6⟩ := hO6.form
            have HD6 := Lib.hid hD6
            have HC6 := Lib.hid hC6
            clear hD6 hO6 hC6 HT
            go_wp2
            all_goals (try rw [Exit.noGoto_ret])
            go_ret2
            have hsz6 := HC6.out.size
            have hszr := HC.out.size
            have e6 : file.take sz = encF ps := by rw [← HS.out]; exact HENC.out.1
            have hnd : ∀ {e : TypeId} {size n base' : Nat} {v : Value} {xs : List Value}, e ≠ 67 → w7.ownsRow base' e size v n xs → ∀ b, v.ownBlock = some b → ¬ DM d m b := by
              rintro e size n base' v xs he ho b hb (rfl | rfl)
              · exact HDt.out.nd ho he hb.symm
              · exact HDt.out.nm ho hb.symm
            have hcw : Chg (DM d m) w w6 := (HC.out.mono (fun _ _ x => x.elim)).trans HC6.out (fun _ _ x => x)
            refine ⟨(fun h => by cases h), fun _ => ⟨j, rfl, nw + 1, by omega, (fun he => ?_), ?_, hcw, hj⟩⟩
            · exfalso
              have h1 := HS.out
              have h2 := HL.out
              rw [he] at h1
              omega
            · have hO7 := HO6.out
              rw [e6] at hO7
              refine ⟨A, n, c, AP, np, cp, A6, n6, c6, ?_, HD6.out, (HOA.out.chg HC6.out (hnd (by decide) HOA.out)).mono hbase, ownsRow_base (ownsRow_chg HOP.out HC6.out (hnd (by decide) HOP.out)) hbase, hO7.mono (by omega), HLA.out, HLP.out, ?_, (fun h => by cases h), ?_, ?_, ?_, ?_, ?_, ?_, ?_, ?_, by omega⟩
              · refine HC6.out.heap HJ.out ?_
                rintro (e | e)
                · exact (HJ.out.ned HDt.out).1 e
                · exact (HJ.out.ned HDt.out).2 e
              · rw [← e6]; exact HL6.out
              · intro b hb hx
                have h1 := (HOA.out.block b hb).2
                have h2 := (HO6.out.block b hx).1
                omega
              · exact fun b hb => .inr ⟨(HOA.out.block b hb).1, Nat.lt_of_lt_of_le (HOA.out.block b hb).2 hsz6⟩
              · exact fun b hb => .inr ⟨(World.ownsRow.lt HOP.out b hb).1, Nat.lt_of_lt_of_le (World.ownsRow.lt HOP.out b hb).2 hsz6⟩
              · exact fun b hb => .inr ⟨Nat.le_trans hszr (HO6.out.block b hb).1, (HO6.out.block b hb).2⟩
              · exact .inr ⟨hj, Nat.lt_of_lt_of_le HJ.out.lt hsz6⟩
              · exact .inl (.inl rfl)
              · exact .inl (.inr (.inl rfl))
              · rintro i (hi | hi)
                · have := HNd.out i hi; omega
                · omega
          · have q1 : ¬ (sz : Int) < (n1 : Int) := by omega
            go_wp2_with (go_at_call 28; refine (err_calls w7 g gd ⟨s2, 110⟩ HR7.out).mono ?_; rintro e w9 ⟨rfl, rfl⟩)
            all_goals (try rw [Exit.noGoto_ret])
            go_ret2
            have hszr := HC.out.size
            have e6 : encF ps = file := by
              have h1 := HENC.out.1
              rw [List.take_of_length_le (by have := HS.out; have := HL.out; omega)] at h1
              exact h1.symm
            refine ⟨(fun h => by cases h), fun _ => ⟨j, rfl, nw, by omega, (fun _ => ⟨rfl, HC.out⟩), ?_, HC.out.mono (fun _ _ x => x.elim), hj⟩⟩
            refine ⟨A, n, c, AP, np, cp, AF, n1, cf, HJ.out, HDr.out, HOA.out.mono hbase, ownsRow_base HOP.out hbase, by rw [e6]; exact HFO.out, HLA.out, HLP.out, by rw [e6]; exact HL.out, (fun ht => ?_), ?_, ?_, ?_, ?_, ?_, ?_, ?_, ?_, by omega⟩
            · refine ⟨(HTH.out ht).1, (HTH.out ht).2.1, (HTH.out ht).2.2, ?_⟩
              have h0 := (HTH.out ht).2.1
              have h1 := encF_len ps
              have h2 := HS.out
              cases ps with
              | nil => rfl
              | cons a b => simp at h1; omega
            · intro b hb hx
              have h1 := (HOA.out.block b hb).1
              have h2 := HNd.out b (.inr (.inr hx.symm))
              omega
            · exact fun b hb => .inr (HOA.out.block b hb)
            · exact fun b hb => .inr (World.ownsRow.lt HOP.out b hb)
            · exact fun b hb => .inl (.inr (.inr hb.symm))
            · exact .inr ⟨hj, HJ.out.lt⟩
            · exact .inl (.inl rfl)
            · exact .inl (.inr (.inl rfl))
            · rintro i (hi | hi)
              · have := HNd.out i hi; omega
              · omega

        · have hps : ps = done ∧ wrong = true := by
            have h2 := HR.out.unique (HK.out [] true (.wrong hst))
            rw [List.append_nil] at h2
            exact h2
          obtain ⟨rfl, rfl⟩ := hps
          have b110 : (se == 110) = false := beq_eq_false_iff_ne.2 hstep.1
          have n110 : ¬ se = 110 := hstep.1
          by_cases hz : se = 0
          · subst hz
            have hs1 : s1 ≠ hashF t1 := by rcases hstep.2 with h | h; exact absurd rfl h; exact h
            obtain ⟨hh, hhh⟩ : ∃ hh, hashF t1 = hh := ⟨_, rfl⟩
            rw [hhh] at hs1
            have HH := Lib.hid hhh
            have b1 : ((s1 : Int) == (hh : Int)) = false := beq_eq_false_iff_ne.2 (fun h => hs1 (Int.ofNat.inj h))
            have b2 : ¬ ((s1 : Int) = (hh : Int)) := fun h => hs1 (Int.ofNat.inj h)
            have b3 : ((s1 : Int) != (hh : Int)) = true := by simp only [bne, b1]; rfl
            clear hst hstep hhh
            go_wp2_with (first | (go_at_call 28; refine (err_calls w7 g gd ⟨s2, 0⟩ HR7.out).mono ?_; rintro e w9 ⟨rfl, rfl⟩) | (go_at_call 29; refine (hash_calls w7 _ _ _ t1 HB7.out rfl (by omega)).mono ?_; rintro e w9 ⟨rfl, rfl⟩; rw [HH.out]))
            all_goals (try rw [Exit.noGoto_ret])
            go_ret2
            exact ⟨fun _ => ⟨rfl, HC.out⟩, fun h => by cases h⟩
          · have b0 : (se == 0) = false := beq_eq_false_iff_ne.2 hz
            clear hst hstep
            go_wp2_with (go_at_call 28; refine (err_calls w7 g gd ⟨s2, se⟩ HR7.out).mono ?_; rintro e w9 ⟨rfl, rfl⟩)
            all_goals (try rw [Exit.noGoto_ret])
            go_ret2
            exact ⟨fun _ => ⟨rfl, HC.out⟩, fun h => by cases h⟩
        · obtain ⟨h1, h2, h3⟩ := hstep
          simp only [Rd.mk.injEq] at h1
          obtain ⟨rfl, rfl⟩ := h1
          subst h3
          subst h2
          obtain ⟨q1, q2, q3, q4, q5, q6, q7, q8, q9⟩ := step_rec hst
          obtain ⟨q, hq⟩ : ∃ q, (recF t1).length = q := ⟨_, rfl⟩
          have hql : q ≤ rl := by rw [← hq, q9]; have := HRL.out; omega
          have hq0 : 0 < q := by have := recF_len0 t1; omega
          have hdl : (rest.drop (recF t1).length).length = rl - q := by rw [List.length_drop, HRL.out, hq]
          have HDL := Lib.hid hdl
          have HQ := Lib.hid hq
          have HST := Lib.hid hst
          have HSP := Lib.hid (step_split hst)
          have HTL : Hid (t1.length ≤ 262144) := q4
          have hb1 : ((hashF t1 : Int) == (hashF t1 : Int)) = true := beq_self_eq_true _
          have hsum : (encF done).length + q ≤ nf := by
            have h1 := congrArg List.length HX.out
            rw [List.length_append, HL.out] at h1
            have := HRL.out
            omega
          have hpl := encF_len done
          obtain ⟨tl, htl⟩ : ∃ tl, t1.length = tl := ⟨_, rfl⟩
          have HT1 := Lib.hid htl
          rw [htl] at HB7 ht1 ⊢
          clear q1 q2 q3 q4 q5 q6 q7 q8 q9 hst hq hdl
          clear htl
          obtain ⟨hh, hhh⟩ : ∃ hh, hashF t1 = hh := ⟨_, rfl⟩
          rw [hhh] at hb1 ⊢
          have HH := Lib.hid hhh
          clear hhh
          go_wp2_with (first | (go_at_call 28; refine (err_calls w7 g gd ⟨_, 0⟩ HR7.out).mono ?_; rintro e w9 ⟨rfl, rfl⟩) | (go_at_call 29; refine (hash_calls w7 _ _ _ t1 HB7.out HT1.out (by omega)).mono ?_; rintro e w9 ⟨rfl, rfl⟩; rw [HH.out]) | (go_at_call 25; refine (left_at w7 g gd (rl - q) _ 0 HR7.out HDL.out).mono ?_; rintro e w9 ⟨rfl, rfl⟩))
          have hv : (rl : Int) - ((rl - q : Nat) : Int) = (q : Int) := by omega
          rw [hv]
          have HLA2 := HLA.out
          have hnn : n ≤ nf := by omega
          have hnp : np ≤ nf := by have := HLP.out; omega
          refine (add_calls w7 w.heap.size j d k A (some ⟨w5.heap.size, 0, none⟩) AP n c tl c6 np cp (encF done).length q done t1 HJ.out HOA.out HOP.out HLA.out HB7.out HT1.out (by omega) (by omega) (by omega) HC.out.size).mono ?_
          rintro e w8 ⟨rfl, va', vp', hj8, ho8, hp8, hc8, hfa, hfp⟩
          obtain ⟨AN, nn, cn, rfl, HLN, HON⟩ := ho8.form
          obtain ⟨AQ, cq, rfl⟩ := ownsRow_form hp8
          have hge : ∀ i, JS j (.slice A n c) (.slice AP np cp) i → w.heap.size ≤ i := by
            rintro i (rfl | e | e)
            · exact hj
            · exact (HOA.out.block i e.symm).1
            · exact (World.ownsRow.lt HOP.out i e.symm).1
          have HC8 : Hid (Chg No w w8) := HC.out.trans hc8 (fun i hi hx => by have := hge i hx; omega)
          have hjs : ∀ i, (∃ v e, w7.heap[i]? = some (.cells #[.bool true, v, .int .i64 e] 78 (0, 0))) → ¬ JS j (.slice A n c) (.slice AP np cp) i := by
            rintro i ⟨v, e, ho⟩ (rfl | h | h)
            · have := ho.symm.trans (show w7.heap[i]? = _ from HJ.out); cases this
            · obtain ⟨cc, fz, hcc⟩ := ownsRow_cells HOA.out i h.symm
              have := ho.symm.trans hcc; cases this
            · obtain ⟨cc, fz, hcc⟩ := ownsRow_cells HOP.out i h.symm
              have := ho.symm.trans hcc; cases this
          have hgdn : ¬ JS j (.slice A n c) (.slice AP np cp) gd := by
            rintro (e | e | e)
            · omega
            · exact HNG.out.1 gd e.symm rfl
            · exact HNG.out.2 gd e.symm rfl
          have HR8 := Lib.hid (HR7.out.chg hc8 (hjs g HR7.out.gobj) hgdn)
          have HNG8 : Hid ((∀ b, (Value.slice AN nn cn).ownBlock = some b → b ≠ gd) ∧ (∀ b, (Value.slice AQ (np + 1) cq).ownBlock = some b → b ≠ gd)) := by
            constructor
            · intro b hb
              rcases hfa b hb with e | e
              · exact HNG.out.1 b e
              · omega
            · intro b hb
              rcases hfp b hb with e | e
              · exact HNG.out.2 b e
              · omega
          have HJ8 : Hid (JCells w8 j d k (.slice AN nn cn) (.slice AQ (np + 1) cq) (encF (done ++ [t1])).length false) := by
            have h := hj8
            rw [show (encF done).length + q = (encF (done ++ [t1])).length from by rw [encF_snoc, List.length_append, HQ.out]] at h
            exact h
          have HP8 := Lib.hid hp8
          clear hj8 ho8 hp8 hc8 hfa hfp hjs hge hgdn
          go_wp2
          go_roundg (rl - q)
          case measure => have := HRL.out; omega
          case rel =>
            refine ⟨done ++ [t1], _, AN, nn, cn, AQ, np + 1, cq, Nat.le_of_eq HDL.out, ?_, ?_, HR8.out, HJ8.out, HON.out, HP8.out, HLN.out, ?_, HC8.out, HNG8.out⟩
            · show file = _
              rw [encF_snoc, List.append_assoc, ← HSP.out]
              exact HX.out
            · intro qs v hq2
              have := HK.out (t1 :: qs) v ⟨HST.out, hq2⟩
              rw [List.append_assoc]
              exact this
            · show (done ++ [t1]).length = np + 1
              rw [List.length_append, HLP.out]; rfl)

end Go.Proofs.Ytbbfjnfmfigcfaa

