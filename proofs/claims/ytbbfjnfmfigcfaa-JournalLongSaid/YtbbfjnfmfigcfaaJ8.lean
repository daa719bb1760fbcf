/-
  A journal of payloads over a disk; record; Append.
-/
import Derived.Test.YtbbfjnfmfigcfaaJ7
import Derived.Test.YtbbfjnfmfigcfaaOct8
import Derived.Test.YtbbfjnfmfigcfaaRef1c
import Derived.Deep.RegionHeld3
namespace Go.Proofs.Ytbbfjnfmfigcfaa
open Go.RowKit Go.Shelf
set_option linter.unusedVariables false
set_option linter.unusedSimpArgs false
set_option maxRecDepth 100000

/-- A record's bytes. -/
def recF (p : List UInt8) : List UInt8 := leb p.length ++ p ++ wide (hashF p)
def encF (ps : List (List UInt8)) : List UInt8 := ps.flatMap recF
theorem encF_snoc (ps : List (List UInt8)) (p : List UInt8) : encF (ps ++ [p]) = encF ps ++ recF p := by simp [encF]
theorem recF_len (p : List UInt8) (h : p.length < 18446744073709551616) : (recF p).length ≤ p.length + 18 ∧ p.length + 9 ≤ (recF p).length := by
  have h1 := leb_len10 p.length h
  have h2 := leb_pos p.length
  have h3 := wide_len (hashF p)
  simp only [recF, List.length_append]
  omega

theorem encF_len (ps : List (List UInt8)) : ps.length * 9 + ps.flatten.length ≤ (encF ps).length := by
  induction ps with
  | nil => simp [encF]
  | cons q r ih =>
    have h1 := wide_len (hashF q)
    have h2 := leb_pos q.length
    simp only [encF, List.flatMap_cons, List.length_append, List.length_cons, List.flatten_cons, recF] at ih ⊢
    omega

set_option maxHeartbeats 800000 in
theorem record_calls (w : World) (A : Option Addr) (n c : Nat) (xs : List UInt8) (h : Bytes w (.slice A n c) xs) (hl : xs.length = n) (hx : n ≤ 140737488355000) :
    Calls Try.prog 37 #[.slice A n c] w fun e w' => ∃ v, e = .returned v ∧ OwnB w' w.heap.size v (recF xs) ∧ Chg No w w' := by
  have HT := Lib.hid (h.text (src := 22) (dst := 9) Try.underlying22 Try.underlying5 Try.underlying9)
  have ht := HT.out
  have HB := Lib.hid h
  have HL := Lib.hid hl
  have hms : (mkS xs).size = n := by rw [mkS_size, hl]
  have HR := Lib.hid (recF_len xs (by omega))
  clear h hl
  go_enter Try.func37, Try.ntmps37
  go_wp2_with fail
  refine (puttext_calls _ none 0 0 [] (Bytes.nil _) rfl (mkS xs) (by omega)).mono ?_
  rintro e w1 ⟨v1, rfl, ho1, hc1⟩
  rw [mkS_size, mkS_list, List.nil_append] at ho1
  obtain ⟨A1, n1, c1, rfl, HL1, HO1⟩ := ho1.form
  have HC1 := Lib.hid hc1
  clear ht ho1 hc1
  go_wp2_with fail
  refine (hash_calls w1 A n c xs (HB.out.no HC1.out) HL.out (by omega)).mono ?_
  rintro e w2 ⟨rfl, rfl⟩
  go_wp2_with fail
  have hn1 : n1 ≤ n + 10 := by
    have h1 := HL1.out
    have h2 := leb_len10 xs.length (by have := HL.out; omega)
    have := HL.out
    rw [List.length_append] at h1; omega
  refine (putword_calls w1 A1 n1 c1 (leb xs.length ++ xs) HO1.out.bytes HL1.out (hashF xs) _ rfl (hashF_lt xs) (by omega)).mono ?_
  rintro e w2 ⟨v2, rfl, ho2, hc2⟩
  obtain ⟨A2, n2, c2, rfl, HL2, HO2⟩ := ho2.form
  have HC2 := Lib.hid hc2
  clear ho2 hc2
  go_wp2
  go_ret
  exact ⟨_, rfl, HO2.out.mono HC1.out.size, HC1.out.no HC2.out⟩

set_option maxHeartbeats 800000 in
theorem refrecord_calls (w : World) (A : Option Addr) (n c : Nat) (xs : List UInt8) (h : Bytes w (.slice A n c) xs) (hl : xs.length = n) (hx : n ≤ 140737488355000) :
    Calls Try.prog 16 #[.slice A n c] w fun e w' => ∃ v, e = .returned v ∧ OwnB w' w.heap.size v (recF xs) ∧ Chg No w w' := by
  have HT := Lib.hid (h.text (src := 22) (dst := 9) Try.underlying22 Try.underlying5 Try.underlying9)
  have ht := HT.out
  have HB := Lib.hid h
  have HL := Lib.hid hl
  have hms : (mkS xs).size = n := by rw [mkS_size, hl]
  clear h hl
  go_enter Try.func16, Try.ntmps16
  go_wp2_with fail
  refine (reftext_calls _ (mkS xs) (by omega)).mono ?_
  rintro e w1 ⟨v1, rfl, ho1, hc1⟩
  rw [mkS_size, mkS_list] at ho1
  obtain ⟨A1, n1, c1, rfl, HL1, HO1⟩ := ho1.form
  have HC1 := Lib.hid hc1
  clear ht ho1 hc1
  go_wp2_with fail
  refine (refhash_calls w1 A n c xs (HB.out.no HC1.out) HL.out (by omega)).mono ?_
  rintro e w2 ⟨rfl, rfl⟩
  go_wp2_with fail
  have hn1 : n1 ≤ n + 10 := by
    have h1 := HL1.out
    have h2 := leb_len10 xs.length (by have := HL.out; omega)
    have := HL.out
    rw [List.length_append] at h1; omega
  refine (refword_calls w1 (hashF xs) _ rfl (hashF_lt xs)).mono ?_
  rintro e w2 ⟨v2, rfl, ho2, hc2⟩
  obtain ⟨A2, n2, c2, rfl, HL2, HO2⟩ := ho2.form
  have hn2 : n2 ≤ 8 := by have := HL2.out; rw [wide_len] at this; omega
  have HC2 := Lib.hid hc2
  clear ho2 hc2
  go_wp2_with fail
  refine (both_calls w2 A1 n1 c1 (leb xs.length ++ xs) A2 n2 c2 (wide (hashF xs)) (HO1.out.bytes.no HC2.out) HL1.out HO2.out.bytes HL2.out (by omega)).mono ?_
  rintro e w3 ⟨v3, rfl, ho3, hc3⟩
  obtain ⟨A3, n3, c3, rfl, HL3, HO3⟩ := ho3.form
  have HC3 := Lib.hid hc3
  clear ho3 hc3
  go_wp2
  go_ret
  exact ⟨_, rfl, HO3.out.mono (HC1.out.no HC2.out).size, (HC1.out.no HC2.out).no HC3.out⟩

/-- Blocks of S, and new ones. -/
def Grow (S : Nat → Prop) (w w' : World) : Nat → Prop := fun i => S i ∨ (w.heap.size ≤ i ∧ i < w'.heap.size)

/-- A journal of payloads ps over a disk that is not cut; all of it lies in blocks of S. -/
def JD (w : World) (S : Nat → Prop) (base j d m wr : Nat) (k : ByteArray) (th : Bool) (ps : List (List UInt8)) : Prop :=
  ∃ A n c AP np cp AF nf cf, JCells w j d k (.slice A n c) (.slice AP np cp) (encF ps).length false ∧
    DiskAt w d m wr (if th then some (k, .slice AF nf cf) else none) ∧
    OwnB w base (.slice A n c) ps.flatten ∧ w.ownsRow base 82 2 (.slice AP np cp) np (partsC 0 ps) ∧ OwnB w base (.slice AF nf cf) (encF ps) ∧
    ps.flatten.length = n ∧ ps.length = np ∧ (encF ps).length = nf ∧ (th = false → AF = none ∧ nf = 0 ∧ cf = 0 ∧ ps = []) ∧
    (∀ b, (Value.slice A n c).ownBlock = some b → ¬ (Value.slice AF nf cf).ownBlock = some b) ∧
    (∀ b, (Value.slice A n c).ownBlock = some b → S b) ∧ (∀ b, (Value.slice AP np cp).ownBlock = some b → S b) ∧ (∀ b, (Value.slice AF nf cf).ownBlock = some b → S b) ∧
    S j ∧ S d ∧ S m ∧ (∀ i, S i → base ≤ i ∧ i < w.heap.size) ∧ base ≤ w.heap.size

theorem JD.chg {T S : Nat → Prop} {w w' : World} {base j d m wr : Nat} {k : ByteArray} {th : Bool} {ps : List (List UInt8)} (h : JD w S base j d m wr k th ps) (hc : Chg T w w') (hs : ∀ i, S i → ¬ T i) : JD w' S base j d m wr k th ps := by
  obtain ⟨A, n, c, AP, np, cp, AF, nf, cf, h1, h2, h3, h4, h5, h6, h7, h8, h9, h10, h11, h12, h13, h14, h15, h16, h17, h18⟩ := h
  exact ⟨A, n, c, AP, np, cp, AF, nf, cf, hc.heap h1 (hs _ h14), h2.chg hc (hs _ h15) (hs _ h16), h3.chg hc (fun b hb => hs _ (h11 b hb)), ownsRow_chg h4 hc (fun b hb => hs _ (h12 b hb)), h5.chg hc (fun b hb => hs _ (h13 b hb)), h6, h7, h8, h9, h10, h11, h12, h13, h14, h15, h16, fun i hi => ⟨(h17 i hi).1, Nat.lt_of_lt_of_le (h17 i hi).2 hc.size⟩, Nat.le_trans h18 hc.size⟩
theorem JD.no {S : Nat → Prop} {w w' : World} {base j d m wr : Nat} {k : ByteArray} {th : Bool} {ps : List (List UInt8)} (h : JD w S base j d m wr k th ps) (hc : Chg No w w') : JD w' S base j d m wr k th ps := h.chg hc (fun _ _ x => x)
theorem JD.lt {S : Nat → Prop} {w : World} {base j d m wr : Nat} {k : ByteArray} {th : Bool} {ps : List (List UInt8)} (h : JD w S base j d m wr k th ps) : ∀ i, S i → base ≤ i ∧ i < w.heap.size := by
  obtain ⟨A, n, c, AP, np, cp, AF, nf, cf, h1, h2, h3, h4, h5, h6, h7, h8, h9, h10, h11, h12, h13, h14, h15, h16, h17, h18⟩ := h
  exact h17

theorem JCells.nrow {w : World} {j d : Nat} {k : ByteArray} {va vp : Value} {sz : Nat} {cut : Bool} (h : JCells w j d k va vp sz cut) {base size n : Nat} {e : TypeId} {v : Value} {xs : List Value} (ho : w.ownsRow base e size v n xs) (he : e ≠ 55) : ¬ some j = v.ownBlock := by
  intro hx
  obtain ⟨cc, fz, hcc⟩ := ownsRow_cells ho j hx.symm
  have := (show w.heap[j]? = _ from h).symm.trans hcc
  cases this
  exact he rfl
theorem DiskAt.nd {w : World} {d m wr : Nat} {f : Option (ByteArray × Value)} (h : DiskAt w d m wr f) {base size n : Nat} {e : TypeId} {v : Value} {xs : List Value} (ho : w.ownsRow base e size v n xs) (he : e ≠ 67) : ¬ some d = v.ownBlock := by
  intro hx
  obtain ⟨cc, fz, hcc⟩ := ownsRow_cells ho d hx.symm
  have := h.1.symm.trans hcc
  cases this
  exact he rfl
theorem DiskAt.nm {w : World} {d m wr : Nat} {f : Option (ByteArray × Value)} (h : DiskAt w d m wr f) {base size n : Nat} {e : TypeId} {v : Value} {xs : List Value} (ho : w.ownsRow base e size v n xs) : ¬ some m = v.ownBlock := by
  intro hx
  obtain ⟨cc, fz, hcc⟩ := ownsRow_cells ho m hx.symm
  have := h.2.symm.trans hcc
  unfold mapObj at this
  split at this <;> cases this
theorem rows_apart {w : World} {base base' size size' n n' : Nat} {e e' : TypeId} {v v' : Value} {xs xs' : List Value} (h : w.ownsRow base e size v n xs) (h' : w.ownsRow base' e' size' v' n' xs') (he : e ≠ e') : ∀ b, v.ownBlock = some b → ¬ v'.ownBlock = some b := by
  intro b hb hx
  obtain ⟨cc, fz, hcc⟩ := ownsRow_cells h b hb
  obtain ⟨cc2, fz2, hcc2⟩ := ownsRow_cells h' b hx
  have := hcc.symm.trans hcc2
  cases this
  exact he rfl

theorem dappend_any (w : World) (base d m wr0 : Nat) (k : ByteArray) (hmay : ∀ w, Calls Try.prog 40 #[.string k] w fun e w' => e = .returned (.bool true) ∧ Chg No w w') (th : Bool) (A A2 : Option Addr) (n c n2 c2 : Nat) (xs ys : List UInt8)
    (h : DiskAt w d m wr0 (if th then some (k, .slice A n c) else none)) (hw : wr0 < 9223372036850000000) (ho : OwnB w base (.slice A n c) xs) (hl : xs.length = n) (hth : th = false → A = none ∧ n = 0 ∧ c = 0) (hb : Bytes w (.slice A2 n2 c2) ys) (hl2 : ys.length = n2) (hn : n + n2 ≤ 4194304) (hpos : 0 < n2) (hbase : base ≤ w.heap.size)
    (hbd : ∀ b, (Value.slice A2 n2 c2).ownBlock = some b → b ≠ d ∧ b ≠ m ∧ some b ≠ (Value.slice A n c).ownBlock) :
    Calls Try.prog 22 #[.pointer (some ⟨d, 0, none⟩), .string k, .slice A2 n2 c2] w fun e w' => e = .returned (.int .i64 0) ∧ ∃ v', DiskAt w' d m (wr0 + (n2 + 31) / 32) (some (k, v')) ∧ OwnB w' base v' (xs ++ ys) ∧ Chg (DS d m (.slice A n c)) w w' ∧ From w (.slice A n c) v' := by
  cases th
  · obtain ⟨rfl, rfl, rfl⟩ := hth rfl
    have : xs = [] := List.eq_nil_of_length_eq_zero hl
    subst this
    exact dappend_first w base d m wr0 k hmay A2 n2 c2 ys h hw hb hl2 (by omega) hpos hbase hbd
  · exact dappend_more w base d m wr0 k hmay A A2 n c n2 c2 xs ys h hw ho hl hb hl2 hn hpos hbase hbd

set_option maxHeartbeats 3200000 in
theorem jappend_calls (w : World) (S : Nat → Prop) (base j d m wr : Nat) (k : ByteArray) (hmay : ∀ w, Calls Try.prog 40 #[.string k] w fun e w' => e = .returned (.bool true) ∧ Chg No w w') (th : Bool) (ps : List (List UInt8)) (A2 : Option Addr) (n2 c2 : Nat) (p : List UInt8)
    (h : JD w S base j d m wr k th ps) (hb : Bytes w (.slice A2 n2 c2) p) (hl2 : p.length = n2) (hbs : ∀ b, (Value.slice A2 n2 c2).ownBlock = some b → ¬ S b) (hn2 : n2 ≤ 262144) (hsum : (encF ps).length + (recF p).length ≤ 4194304) (hw : wr < 9223372036850000000) :
    Calls Try.prog 17 #[.pointer (some ⟨j, 0, none⟩), .slice A2 n2 c2] w fun e w' => e = .returned (.int .i64 0) ∧ JD w' (Grow S w w') base j d m (wr + ((recF p).length + 31) / 32) k true (ps ++ [p]) ∧ Chg S w w' := by
  obtain ⟨A, n, c, AP, np, cp, AF, nf, cf, h1, h2, h3, h4, h5, h6, h7, h8, h9, h10, h11, h12, h13, h14, h15, h16, h17, h18⟩ := h
  have c5 := h1.c5
  have HJ := Lib.hid h1
  have HD := Lib.hid h2
  have HO := Lib.hid h3
  have HP := Lib.hid h4
  have HF := Lib.hid h5
  have HB := Lib.hid hb
  have HL := Lib.hid h6
  have HLP := Lib.hid h7
  have HLF := Lib.hid h8
  have HL2 := Lib.hid hl2
  have HTH := Lib.hid h9
  have hrl := recF_len p (by omega)
  have hps := encF_len ps
  have hng : ¬ ((n2 : Int) > 262144) := by omega
  have hng2 : ¬ ((262144 : Int) < (n2 : Int)) := by omega
  clear h1 h2 h3 h4 h5 h6 h7 h8 hb hl2 h9
  go_enter Try.func17, Try.ntmps17
  go_wp2_with fail
  refine (record_calls w A2 n2 c2 p HB.out HL2.out (by omega)).mono ?_
  rintro e w1 ⟨v1, rfl, ho1, hc1⟩
  obtain ⟨A1, n1, c1, rfl, HL1, HO1⟩ := ho1.form
  have HC1 := Lib.hid hc1
  have e0 := (HJ.out.c0 : w.cell? _ = _)
  have e0 := hc1.cell e0 (fun x => x)
  have e1 := hc1.cell HJ.out.c1 (fun x => x)
  clear ho1 hc1 c5
  have HN1 := Lib.hid (show n1 = (recF p).length from HL1.out.symm)
  have hn1a : (encF ps).length + n1 ≤ 4194304 := by have := HN1.out; omega
  have hn1b : 0 < n1 := by have := HN1.out; omega
  have hn1c : nf + n1 ≤ 4194304 := by have := HLF.out; omega
  have hn1d : n + n2 ≤ 4194304 := by have := HLF.out; have := HN1.out; have := HL.out; have := HL2.out; omega
  have hn1e : np ≤ 4194304 := by have := HLP.out; have := HN1.out; omega
  have hfresh : ∀ b, (Value.slice A1 n1 c1).ownBlock = some b → w.heap.size ≤ b := fun b hb => (HO1.out.block b hb).1
  have hfb : ∀ b, (Value.slice A1 n1 c1).ownBlock = some b → b ≠ d ∧ b ≠ m ∧ some b ≠ (Value.slice AF nf cf).ownBlock := by
    intro b hb
    have h1 := hfresh b hb
    refine ⟨fun e => ?_, fun e => ?_, fun e => ?_⟩
    · subst e; have := (h17 _ h15).2; omega
    · subst e; have := (h17 _ h16).2; omega
    · have := (h17 _ (h13 b e.symm)).2; omega
  have HTH2 : Hid (th = false → AF = none ∧ nf = 0 ∧ cf = 0) := fun ht => ⟨(HTH.out ht).1, (HTH.out ht).2.1, (HTH.out ht).2.2.1⟩
  clear hrl hps hsum
  have KJ : ¬ DS d m (.slice AF nf cf) j := by
    rintro (e | e | e)
    · subst e; have h1 := (show w.heap[j]? = _ from HJ.out).symm.trans HD.out.1; cases h1
    · subst e; have h1 := (show w.heap[j]? = _ from HJ.out).symm.trans HD.out.2; unfold mapObj at h1; split at h1 <;> cases h1
    · exact HJ.out.nrow HF.out (by decide) e
  go_wp2_with fail
  refine wp_region_held_drew (S := (fun W => W.cell? ⟨j, 0, none⟩ = some (.pointer (some ⟨d, 0, none⟩)) ∧ W.cell? ⟨j, 1, none⟩ = some (.string k))) (by kernel_rfl) ⟨e0, e1⟩ (fun hSw => ?_)
  refine wpAnyH_take (i := 0) (oi := { dst := some 21, op := Go.Op.move (Go.Operand.tmp 0), type := 30, pos := "journal.go:82", after := #[], guard := none }) (v := ?_) rfl (by kernel_rfl) (by kernel_rfl) (by kernel_rfl) (fun _ _ _ h => h) (Or.inl ⟨by rfl, ?_⟩) hSw ?_
  rotate_left
  · (intro W hW; obtain ⟨hq1, hq2⟩ := hW; go_simp; try with_reducible rfl)
  try simp only [Act.put, List.setIfInBounds_toArray, List.set_cons_zero, List.set_cons_succ]
  refine wpAnyH_take (i := 1) (oi := { dst := some 22, op := Go.Op.nilCheck (Go.Operand.tmp 21), type := 0, pos := "journal.go:82", after := #[{ on := 0, ground := Go.Ground.data }], guard := none }) (v := ?_) rfl (by kernel_rfl) (by kernel_rfl) (by kernel_rfl) (fun _ _ _ h => h) (Or.inl ⟨by rfl, ?_⟩) hSw ?_
  rotate_left
  · (intro W hW; obtain ⟨hq1, hq2⟩ := hW; go_simp; try with_reducible rfl)
  try simp only [Act.put, List.setIfInBounds_toArray, List.set_cons_zero, List.set_cons_succ]
  refine wpAnyH_take (i := 2) (oi := { dst := some 23, op := Go.Op.fieldAddr 55 (Go.Operand.tmp 22) 0, type := 0, pos := "journal.go:82", after := #[{ on := 1, ground := Go.Ground.data }], guard := none }) (v := ?_) rfl (by kernel_rfl) (by kernel_rfl) (by kernel_rfl) (fun _ _ _ h => h) (Or.inl ⟨by rfl, ?_⟩) hSw ?_
  rotate_left
  · (intro W hW; obtain ⟨hq1, hq2⟩ := hW; go_simp; try with_reducible rfl)
  try simp only [Act.put, List.setIfInBounds_toArray, List.set_cons_zero, List.set_cons_succ]
  refine wpAnyH_take (i := 3) (oi := { dst := some 24, op := Go.Op.load 24 (Go.Operand.tmp 23), type := 24, pos := "journal.go:82", after := #[{ on := 2, ground := Go.Ground.data }], guard := none }) (v := ?_) rfl (by kernel_rfl) (by kernel_rfl) (by kernel_rfl) (fun _ _ _ h => h) (Or.inl ⟨by rfl, ?_⟩) hSw ?_
  rotate_left
  · (intro W hW; obtain ⟨hq1, hq2⟩ := hW; go_simp; try with_reducible rfl)
  try simp only [Act.put, List.setIfInBounds_toArray, List.set_cons_zero, List.set_cons_succ]
  refine wpAnyH_take (i := 4) (oi := { dst := some 25, op := Go.Op.move (Go.Operand.tmp 0), type := 30, pos := "journal.go:82", after := #[], guard := none }) (v := ?_) rfl (by kernel_rfl) (by kernel_rfl) (by kernel_rfl) (fun _ _ _ h => h) (Or.inl ⟨by rfl, ?_⟩) hSw ?_
  rotate_left
  · (intro W hW; obtain ⟨hq1, hq2⟩ := hW; go_simp; try with_reducible rfl)
  try simp only [Act.put, List.setIfInBounds_toArray, List.set_cons_zero, List.set_cons_succ]
  refine wpAnyH_take (i := 5) (oi := { dst := some 26, op := Go.Op.nilCheck (Go.Operand.tmp 25), type := 0, pos := "journal.go:82", after := #[{ on := 4, ground := Go.Ground.data }], guard := none }) (v := ?_) rfl (by kernel_rfl) (by kernel_rfl) (by kernel_rfl) (fun _ _ _ h => h) (Or.inl ⟨by rfl, ?_⟩) hSw ?_
  rotate_left
  · (intro W hW; obtain ⟨hq1, hq2⟩ := hW; go_simp; try with_reducible rfl)
  try simp only [Act.put, List.setIfInBounds_toArray, List.set_cons_zero, List.set_cons_succ]
  refine wpAnyH_take (i := 6) (oi := { dst := some 27, op := Go.Op.fieldAddr 55 (Go.Operand.tmp 26) 1, type := 0, pos := "journal.go:82", after := #[{ on := 5, ground := Go.Ground.data }], guard := none }) (v := ?_) rfl (by kernel_rfl) (by kernel_rfl) (by kernel_rfl) (fun _ _ _ h => h) (Or.inl ⟨by rfl, ?_⟩) hSw ?_
  rotate_left
  · (intro W hW; obtain ⟨hq1, hq2⟩ := hW; go_simp; try with_reducible rfl)
  try simp only [Act.put, List.setIfInBounds_toArray, List.set_cons_zero, List.set_cons_succ]
  refine wpAnyH_take (i := 7) (oi := { dst := some 28, op := Go.Op.load 9 (Go.Operand.tmp 27), type := 9, pos := "journal.go:82", after := #[{ on := 6, ground := Go.Ground.data }], guard := none }) (v := ?_) rfl (by kernel_rfl) (by kernel_rfl) (by kernel_rfl) (fun _ _ _ h => h) (Or.inl ⟨by rfl, ?_⟩) hSw ?_
  rotate_left
  · (intro W hW; obtain ⟨hq1, hq2⟩ := hW; go_simp; try with_reducible rfl)
  try simp only [Act.put, List.setIfInBounds_toArray, List.set_cons_zero, List.set_cons_succ]
  refine wpAnyH_take (i := 8) (oi := { dst := some 29, op := Go.Op.move (Go.Operand.tmp 5), type := 22, pos := "journal.go:82", after := #[], guard := none }) (v := ?_) rfl (by kernel_rfl) (by kernel_rfl) (by kernel_rfl) (fun _ _ _ h => h) (Or.inl ⟨by rfl, ?_⟩) hSw ?_
  rotate_left
  · (intro W hW; obtain ⟨hq1, hq2⟩ := hW; go_simp; try with_reducible rfl)
  try simp only [Act.put, List.setIfInBounds_toArray, List.set_cons_zero, List.set_cons_succ]
  refine wpAnyH_ready (rs := [9]) (by kernel_rfl) (by simp) ?_
  refine AllReadyH.cons (o := { dst := some 30, op := Go.Op.call { callee := Go.Callee.value (Go.Operand.func 22), args := #[Go.Operand.tmp 24, Go.Operand.tmp 28, Go.Operand.tmp 29], argTypes := #[24, 9, 22] }, type := 31, pos := "journal.go:82", after := #[{ on := 3, ground := Go.Ground.data }, { on := 7, ground := Go.Ground.data }, { on := 8, ground := Go.Ground.data }], guard := none }) rfl (fun K hK => ?_) AllReadyH.nil
  rw [if_pos (by rfl)]
  go_simp
  refine (dappend_any _ base d m wr k hmay th AF A1 nf cf n1 c1 (encF ps) (recF p) (HD.out.chg HC1.out.drew (fun x => x) (fun x => x)) hw (HF.out.chg (HC1.out.drew) (fun _ _ x => x)) HLF.out HTH2.out (HO1.out.bytes.no (Chg.refl No _).drew) HL1.out hn1c hn1b (Nat.le_trans h18 HC1.out.drew.size) hfb).mono ?_
  rintro e w2 ⟨rfl, vf, hD2, hF2, hc2, hff⟩
  have e02 := hc2.cell e0 KJ
  have e12 := hc2.cell e1 KJ
  refine hK.out _ _ ⟨e02, e12⟩ (fun hSw => ?_)
  clear hK
  try simp only [Act.put, List.setIfInBounds_toArray, List.set_cons_zero, List.set_cons_succ]
  refine wpAnyH_take (i := 10) (oi := { dst := some 6, op := Go.Op.assign (Go.Operand.tmp 30), type := 31, pos := "journal.go:82", after := #[{ on := 9, ground := Go.Ground.data }, { on := 9, ground := Go.Ground.chain }, { on := 0, ground := Go.Ground.phase }, { on := 1, ground := Go.Ground.phase }, { on := 2, ground := Go.Ground.phase }, { on := 3, ground := Go.Ground.phase }, { on := 4, ground := Go.Ground.phase }, { on := 5, ground := Go.Ground.phase }, { on := 6, ground := Go.Ground.phase }, { on := 7, ground := Go.Ground.phase }, { on := 8, ground := Go.Ground.phase }, { on := 9, ground := Go.Ground.phase }], guard := none }) (v := ?_) rfl (by kernel_rfl) (by kernel_rfl) (by kernel_rfl) (fun _ _ _ h => h) (Or.inl ⟨by rfl, ?_⟩) hSw ?_
  rotate_left
  · (intro W hW; obtain ⟨hq1, hq2⟩ := hW; go_simp; try with_reducible rfl)
  try simp only [Act.put, List.setIfInBounds_toArray, List.set_cons_zero, List.set_cons_succ]
  refine wpAnyH_done (by kernel_rfl) ?_ _
  have hcd : Chg No w w1.drew := HC1.out.drew
  have HC2 : Hid (Chg (DS d m (.slice AF nf cf)) w w2) := (hcd.mono (fun _ _ x => x.elim)).trans hc2 (fun _ _ x => x)
  have hnS : ∀ i, (i = j ∨ some i = (Value.slice A n c).ownBlock ∨ some i = (Value.slice AP np cp).ownBlock) → ¬ DS d m (.slice AF nf cf) i := by
    intro i hi hd
    rcases hd with rfl | rfl | hd
    · rcases hi with rfl | hi | hi
      · have h1 := (show w.heap[i]? = _ from HJ.out).symm.trans HD.out.1; cases h1
      · exact HD.out.nd HO.out (by decide) hi
      · exact HD.out.nd HP.out (by decide) hi
    · rcases hi with rfl | hi | hi
      · have h1 := (show w.heap[i]? = _ from HJ.out).symm.trans HD.out.2; unfold mapObj at h1; split at h1 <;> cases h1
      · exact HD.out.nm HO.out hi
      · exact HD.out.nm HP.out hi
    · rcases hi with rfl | hi | hi
      · exact HJ.out.nrow HF.out (by decide) hd
      · exact h10 i hi.symm hd.symm
      · exact rows_apart HP.out HF.out (by decide) i hi.symm hd.symm
  have hj2 : JCells w2 j d k (.slice A n c) (.slice AP np cp) (encF ps).length false := HC2.out.heap HJ.out (hnS j (.inl rfl))
  have ho2 : OwnB w2 base (.slice A n c) ps.flatten := HO.out.chg HC2.out (fun b hb => hnS b (.inr (.inl hb.symm)))
  have hp2 := ownsRow_chg HP.out HC2.out (fun b hb => hnS b (.inr (.inr hb.symm)))
  have hDS : ∀ i, DS d m (.slice AF nf cf) i → S i := by
    rintro i (rfl | rfl | e)
    · exact h15
    · exact h16
    · exact h13 i e.symm
  have hb2 : Bytes w2 (.slice A2 n2 c2) p := HB.out.chg HC2.out (fun b hb hd => hbs b hb (hDS b hd))
  have hff2 : From w (.slice AF nf cf) vf := fun b hb => (hff b hb).imp id (fun e => Nat.le_trans hcd.size e)
  have HD2 := Lib.hid hD2
  have HF2 := Lib.hid hF2
  have HJ2 := Lib.hid hj2
  have HO2 := Lib.hid ho2
  have HP2 := Lib.hid hp2
  have HB2 := Lib.hid hb2
  clear hD2 hF2 hj2 ho2 hp2 hb2 hc2 hff
  have hsz2 := HC2.out.size
  go_wp2_with fail
  refine (add_calls w2 base j d k A A2 AP n c n2 c2 np cp (encF ps).length n1 ps p HJ2.out HO2.out HP2.out HL.out HB2.out HL2.out (by omega) (by omega) (by omega) (by omega)).mono ?_
  rintro e w3 ⟨rfl, va', vp', hj3, ho3, hp3, hc3, hfa, hfp⟩
  obtain ⟨AN, nn, cn, rfl, HLN, HON⟩ := ho3.form
  obtain ⟨AQ, cq, rfl⟩ := ownsRow_form hp3
  obtain ⟨AG, ng, cg, rfl, HLG, HOG⟩ := HF2.out.form
  have hnv : ∀ i, (i = d ∨ i = m ∨ some i = (Value.slice AG ng cg).ownBlock) → ¬ JS j (.slice A n c) (.slice AP np cp) i := by
    intro i hi hd
    rcases hi with rfl | rfl | hi
    · rcases hd with e | hd | hd
      · subst e; have h1 := (show w.heap[i]? = _ from HJ.out).symm.trans HD.out.1; cases h1
      · exact HD.out.nd HO.out (by decide) hd
      · exact HD.out.nd HP.out (by decide) hd
    · rcases hd with e | hd | hd
      · subst e; have h1 := (show w.heap[i]? = _ from HJ.out).symm.trans HD.out.2; unfold mapObj at h1; split at h1 <;> cases h1
      · exact HD.out.nm HO.out hd
      · exact HD.out.nm HP.out hd
    · rcases hd with e | hd | hd
      · subst e; exact HJ2.out.nrow HOG.out (by decide) hi
      · rcases hff2 i hi.symm with e | e
        · exact h10 i hd.symm e
        · have := (h17 _ (h11 i hd.symm)).2; omega
      · exact rows_apart HP2.out HOG.out (by decide) i hd.symm hi.symm
  have HC3 := Lib.hid hc3
  have HJ3 := Lib.hid hj3
  have HP3 := Lib.hid hp3
  clear ho3 hc3 hj3 hp3
  go_wp2
  go_ret
  have hsz3 := HC3.out.size
  have hCh : Chg S w w3 := (HC2.out.mono (fun i _ hi => hDS i hi)).trans HC3.out (by
    rintro i _ (rfl | e | e)
    · exact h14
    · exact h11 i e.symm
    · exact h12 i e.symm)
  have hG : ∀ (v v' : Value) (W : World), w.heap.size ≤ W.heap.size → From W v v' → (∀ b, v.ownBlock = some b → S b) → (∀ b, v'.ownBlock = some b → b < w3.heap.size) → ∀ b, v'.ownBlock = some b → Grow S w w3 b := by
    intro v v' W hW hf hv hlt b hb
    rcases hf b hb with e | e
    · exact .inl (hv b e)
    · exact .inr ⟨Nat.le_trans hW e, hlt b hb⟩
  have hn9 : (encF ps).length + n1 = (encF (ps ++ [p])).length := by rw [encF_snoc, List.length_append, ← HN1.out]
  have hOG3 := HOG.out.chg HC3.out (fun b hb => hnv b (.inr (.inr hb.symm)))
  refine ⟨rfl, ⟨AN, nn, cn, AQ, np + 1, cq, AG, ng, cg, ?_, ?_, HON.out, HP3.out, ?_, HLN.out, ?_, ?_, ?_, ?_, ?_, ?_, ?_, .inl h14, .inl h15, .inl h16, ?_, ?_⟩, hCh⟩
  · rw [← hn9]; exact HJ3.out
  · have h := HD2.out.chg HC3.out (hnv d (.inl rfl)) (hnv m (.inr (.inl rfl)))
    rw [HN1.out] at h
    exact h
  · rw [encF_snoc]; exact hOG3
  · rw [List.length_append, HLP.out]; rfl
  · rw [encF_snoc]; exact HLG.out
  · intro h; cases h
  · intro b hb hx
    rcases hfa b hb with e | e
    · rcases hff2 b hx with e2 | e2
      · exact h10 b e e2
      · have := (h17 _ (h11 b e)).2; omega
    · have := (HOG.out.block b hx).2; omega
  · exact hG _ _ w2 hsz2 hfa h11 (fun b hb => (HON.out.block b hb).2)
  · exact hG _ _ w2 hsz2 hfp h12 (fun b hb => (World.ownsRow.lt HP3.out b hb).2)
  · exact hG _ _ w (Nat.le_refl _) hff2 h13 (fun b hb => (hOG3.block b hb).2)
  · rintro i (hi | hi)
    · have := h17 i hi; omega
    · omega
  · omega
end Go.Proofs.Ytbbfjnfmfigcfaa
