/-
  name.Check.
-/
import Derived.Test.YtcomcoolmabmgaaDoorN2
namespace Go.Proofs.YtcomcoolmabmgaaDoor
open Go.RowKit
set_option linter.unusedVariables false
set_option linter.unusedSimpArgs false
set_option maxRecDepth 100000

def spotV (p : Int × Int) : Value := .agg #[.int .i64 p.1, .int .i64 p.2]
theorem bytes_ne {s : ByteArray} {l : List UInt8} (h : s.data.toList ≠ l) : (s.toList == l) = false := by
  rw [Lib.toList_data, beq_eq_false_iff_ne]; exact h

theorem Chg.iterOne (b : World) (k : Nat) (s : ByteArray) (pos : Nat) : Chg (One k) b (b.iterAt k s pos) :=
  ⟨rfl, rfl, rfl, by rw [Lib.iterAt_size]; exact Nat.le_refl _, fun i hi hs => Lib.iterAt_other b k i s pos hs⟩

theorem cellAt {W : World} {g : Nat} {cs : Array Value} {t : TypeId} {fz : Nat × Nat} (h : W.heap[g]? = some (.cells cs t fz)) (i : Nat) (u : Value) (hi : cs[i]? = some u) : W.cell? ⟨g, i, none⟩ = some u := by
  simp [World.cell?, h, hi]
theorem frzAt {W : World} {g : Nat} {cs : Array Value} {t : TypeId} (h : W.heap[g]? = some (.cells cs t (0, 0))) (i : Nat) : W.frozen? ⟨g, i, none⟩ = false := by
  simp [World.frozen?, h]
/-- The boxes of name.Check: its answer, last, wrong, ahead, and the place in the text. -/
structure NI (w wr : World) (s : ByteArray) (pos ah la : Nat) (wv : Int) : Prop where
  b2 : wr.heap[w.heap.size]? = some (.cells #[.int .i64 0, .int .i64 0] 26 (0, 0))
  b3 : Box 3 wr (w.heap.size + 1) (.int .i64 (la : Int))
  b4 : Box 3 wr (w.heap.size + 1 + 1) (.int .i64 wv)
  b5 : Box 21 wr (w.heap.size + 1 + 1 + 1) (.int .i32 (ah : Int))
  it : wr.heap[w.heap.size + 1 + 1 + 1 + 1]? = some (.stringIter s pos)
  c : Chg No w wr
theorem NI.start (w : World) (s : ByteArray) : NI w (((((w.alloc (.cells #[.int .i64 0, .int .i64 0] 26)).alloc (.cells #[.int .i64 0] 3)).alloc (.cells #[.int .i64 (-1)] 3)).alloc (.cells #[.int .i32 32] 21)).iter s 0) s 0 32 0 (-1) := by
  have A : ∀ (W : World) (o o' : Obj) (k : Nat), W.heap[k]? = some o → (W.alloc o').heap[k]? = some o := fun W o o' k h => ((Chg.refl No W).alloc o').heap h (fun x => x)
  have i2 := heap_alloc_new w (.cells #[.int .i64 0, .int .i64 0] 26)
  have i3 := heap_alloc_new (w.alloc (.cells #[.int .i64 0, .int .i64 0] 26)) (.cells #[.int .i64 0] 3)
  have i4 := heap_alloc_new ((w.alloc (.cells #[.int .i64 0, .int .i64 0] 26)).alloc (.cells #[.int .i64 0] 3)) (.cells #[.int .i64 (-1)] 3)
  have i5 := heap_alloc_new (((w.alloc (.cells #[.int .i64 0, .int .i64 0] 26)).alloc (.cells #[.int .i64 0] 3)).alloc (.cells #[.int .i64 (-1)] 3)) (.cells #[.int .i32 32] 21)
  have i6 := World.iter_heap ((((w.alloc (.cells #[.int .i64 0, .int .i64 0] 26)).alloc (.cells #[.int .i64 0] 3)).alloc (.cells #[.int .i64 (-1)] 3)).alloc (.cells #[.int .i32 32] 21)) s 0
  simp only [World.size_alloc] at i2 i3 i4 i5 i6
  exact ⟨A _ _ _ _ (A _ _ _ _ (A _ _ _ _ (A _ _ _ _ i2))), A _ _ _ _ (A _ _ _ _ (A _ _ _ _ i3)), A _ _ _ _ (A _ _ _ _ i4), A _ _ _ _ i5, i6, (((((Chg.refl No w).alloc _).alloc _).alloc _).alloc _).alloc _⟩
theorem NI.next {w wr : World} {s : ByteArray} {pos ah la : Nat} {wv : Int} (h : NI w wr s pos ah la wv) (q : Nat) : NI w (wr.iterAt (w.heap.size + 1 + 1 + 1 + 1) s q) s q ah la wv := by
  have hc := Chg.iterOne wr (w.heap.size + 1 + 1 + 1 + 1) s q
  exact ⟨hc.heap h.b2 (by show ¬ _ = _; omega), h.b3.chg hc (by show ¬ _ = _; omega), h.b4.chg hc (by show ¬ _ = _; omega), h.b5.chg hc (by show ¬ _ = _; omega), Lib.iterAt_heap wr _ s pos q h.it, h.c.one hc (.inl (by omega))⟩
theorem NI.wrong {w wr : World} {s : ByteArray} {pos ah la : Nat} {wv : Int} (h : NI w wr s pos ah la wv) (k : Int) : NI w (wr.setCell ⟨w.heap.size + 1 + 1, 0, none⟩ (.int .i64 k)) s pos ah la k := by
  have hc := Chg.put wr (w.heap.size + 1 + 1) 0 (.int .i64 k)
  exact ⟨hc.heap h.b2 (by show ¬ _ = _; omega), h.b3.chg hc (by show ¬ _ = _; omega), h.b4.set _, h.b5.chg hc (by show ¬ _ = _; omega), hc.heap h.it (by show ¬ _ = _; omega), h.c.one hc (.inl (by omega))⟩
theorem NI.last {w wr : World} {s : ByteArray} {pos ah la : Nat} {wv : Int} (h : NI w wr s pos ah la wv) (k : Nat) : NI w (wr.setCell ⟨w.heap.size + 1, 0, none⟩ (.int .i64 (k : Int))) s pos ah k wv := by
  have hc := Chg.put wr (w.heap.size + 1) 0 (.int .i64 (k : Int))
  exact ⟨hc.heap h.b2 (by show ¬ _ = _; omega), h.b3.set _, h.b4.chg hc (by show ¬ _ = _; omega), h.b5.chg hc (by show ¬ _ = _; omega), hc.heap h.it (by show ¬ _ = _; omega), h.c.one hc (.inl (by omega))⟩
theorem NI.ahead {w wr : World} {s : ByteArray} {pos ah la : Nat} {wv : Int} (h : NI w wr s pos ah la wv) (k : Nat) : NI w (wr.setCell ⟨w.heap.size + 1 + 1 + 1, 0, none⟩ (.int .i32 (k : Int))) s pos k la wv := by
  have hc := Chg.put wr (w.heap.size + 1 + 1 + 1) 0 (.int .i32 (k : Int))
  exact ⟨hc.heap h.b2 (by show ¬ _ = _; omega), h.b3.chg hc (by show ¬ _ = _; omega), h.b4.chg hc (by show ¬ _ = _; omega), h.b5.set _, hc.heap h.it (by show ¬ _ = _; omega), h.c.one hc (.inl (by omega))⟩
/-- The last: the answer is stored. -/
theorem NI.done {w wr : World} {s : ByteArray} {pos ah la : Nat} {wv : Int} (h : NI w wr s pos ah la wv) (a b : Value) : Chg No w ((wr.setCell ⟨w.heap.size, 0, none⟩ a).setCell ⟨w.heap.size, 1, none⟩ b) :=
  (h.c.one (Chg.put wr _ 0 a) (.inl (Nat.le_refl _))).one (Chg.put _ _ 1 b) (.inl (Nat.le_refl _))
theorem NI.hip {w wr : World} {s : ByteArray} {pos ah la : Nat} {wv : Int} (h : NI w wr s pos ah la wv) : wr.iterPos (w.heap.size + 1 + 1 + 1 + 1) = pos := by
  unfold World.iterPos; rw [h.it]

set_option maxHeartbeats 3200000 in
theorem check_calls (w : World) (s : ByteArray) (hs : s.size ≤ 9223372036854775807) :
    Calls Tryd.prog 68 #[.string s] w fun e w' => e = .returned (spotV (spotF s.data.toList)) ∧ Chg No w w' := by
  have hmf : ∀ (fn : Fn) (first cap : Array Value) (w : World), (Instr.makeFunc fn first cap).run Tryd.prog w = .ok (.func fn first cap) w := fun _ _ _ _ => rfl
  have HS := Lib.hid (size_list s)
  by_cases h0 : s.data.toList = [] ∨ s.data.toList = [46] ∨ s.data.toList = [46, 46]
  · have HF : Hid (spotF s.data.toList = (140, 0)) := by rw [Hid, spotF, if_pos h0]
    have HE : s = ⟨#[]⟩ ∨ s = ⟨#[46]⟩ ∨ s = ⟨#[46, 46]⟩ := by
      rw [← mkS_self s]
      rcases h0 with h | h | h <;> rw [h] <;> simp [mkS]
    clear h0
    rcases HE with rfl | rfl | rfl
    · go_enter Tryd.func68, Tryd.ntmps68
      go_wp2
      exact bodyPost_ret (v := spotV (140, 0)) (by simp [results, Tryd.results68, go_sem, spotV]) rfl ⟨by rw [HF.out], (Chg.refl No w).alloc _⟩
    · go_enter Tryd.func68, Tryd.ntmps68
      go_wp2
      exact bodyPost_ret (v := spotV (140, 0)) (by simp [results, Tryd.results68, go_sem, spotV]) rfl ⟨by rw [HF.out], (Chg.refl No w).alloc _⟩
    · go_enter Tryd.func68, Tryd.ntmps68
      go_wp2
      exact bodyPost_ret (v := spotV (140, 0)) (by simp [results, Tryd.results68, go_sem, spotV]) rfl ⟨by rw [HF.out], (Chg.refl No w).alloc _⟩
  · have n1 := bytes_ne (fun h => h0 (.inl h))
    have n2 := bytes_ne (fun h => h0 (.inr (.inl h)))
    have n3 := bytes_ne (fun h => h0 (.inr (.inr h)))
    by_cases h32 : 32 < s.size
    · have HF : Hid (spotF s.data.toList = (3, 32)) := by rw [Hid, spotF, if_neg h0, if_pos (by rw [HS.out]; exact h32)]
      have b32 : (32 : Int) < (s.size : Int) := by omega
      clear h0
      go_enter Tryd.func68, Tryd.ntmps68
      go_wp2
      exact bodyPost_ret (v := spotV (3, 32)) (by simp [results, Tryd.results68, go_sem, spotV]) rfl ⟨by rw [HF.out], (Chg.refl No w).alloc _⟩
    · have HF := Lib.hid (show spotF s.data.toList = _ by rw [spotF, if_neg h0, if_neg (by rw [HS.out]; exact h32)])
      have b32 : ¬ (32 : Int) < (s.size : Int) := by omega
      clear h0
      go_enter Tryd.func68, Tryd.ntmps68
      go_wp2
      go_loopw [] (fun wr => ∃ (pos ah la : Nat) (wv : Int), pos ≤ s.size ∧ la ≤ pos ∧ Hid (NI w wr s pos ah la wv) ∧ Hid (wv = if ctlN ah = true then (la : Int) else -1) ∧ Hid (pos = 0 → ah = 32) ∧ Hid (wrongAt 0 (pcs s.data.toList) = if (ctlN ah || (ah == 65533 && decide (pos - la < 3))) = true then some la else wrongAt pos (pcs (s.data.toList.drop pos)))) (fun wr => s.size - wr.iterPos (w.heap.size + 1 + 1 + 1 + 1))
      case atStart => exact ⟨0, 32, 0, -1, Nat.zero_le _, Nat.le_refl _, NI.start w s, rfl, fun _ => rfl, rfl⟩
      case round =>
        obtain ⟨pos, ah, la, wv, hpos, hla, HN, HV, H0, HU⟩ := hrel
        by_cases hp : pos < s.size
        · have hl := drop_ne hp
          obtain ⟨q1, q2, q3⟩ := decL_facts _ hl
          have HPC := Lib.hid (wrong_cons pos _ hl)
          have hnx := fun ty => Lib.run_next_any_at (P := Tryd.prog) wr (w.heap.size + 1 + 1 + 1 + 1) s pos ty HN.out.it hp
          rw [decode_drop] at hnx
          have hbs := brk_short _ hl
          rw [List.length_drop, HS.out] at q2
          rw [List.drop_drop] at HPC
          generalize decL (s.data.toList.drop pos) = D at *
          obtain ⟨r, k⟩ := D
          simp only at q1 q2 q3 hnx HPC hbs
          have HB := Lib.hid hbs
          have hip := HN.out.hip
          have HN1 := Lib.hid (HN.out.next (pos + k))
          clear hbs hl HN
          generalize brk (s.data.toList.drop pos) = bk at *
          generalize wr.iterAt (w.heap.size + 1 + 1 + 1 + 1) s (pos + k) = wn at *
          by_cases hA : ctlN ah = true
          · have hpp : 0 < pos := by rcases Nat.eq_zero_or_pos pos with h | h; (rw [H0.out h] at hA; cases hA); exact h
            have hv : wv = (la : Int) := by rw [HV.out, if_pos hA]
            have HW : Hid (wrongAt 0 (pcs s.data.toList) = some la) := by rw [Hid, HU.out, hA]; rfl
            subst hv
            clear hA HV HU HPC HB H0
            have c2a := cellAt HN1.out.b2 0 _ rfl
            have c2b := cellAt HN1.out.b2 1 _ rfl
            have f2 := frzAt HN1.out.b2
            have c3 := HN1.out.b3.c
            have f3 := HN1.out.b3.fr
            have c4 := HN1.out.b4.c
            have f4 := HN1.out.b4.fr
            have c5 := HN1.out.b5.c
            have f5 := HN1.out.b5.fr
            have i0 : (0 : Int) < (pos : Int) := by omega
            go_wp2_with fail
            clear c2a c2b f2 c3 c4 c5 f3 f4 f5
            refine (look_no _ _ _ _ (pos : Int) (la : Int) ah la HN1.out.b4 HN1.out.b5 HN1.out.b3 (by omega) (by omega) (.inl (by omega))).mono ?_
            rintro e w' ⟨rfl, rfl⟩
            have c2a := cellAt HN1.out.b2 0 _ rfl
            have c2b := cellAt HN1.out.b2 1 _ rfl
            have f2 := frzAt HN1.out.b2
            have c3 := HN1.out.b3.c
            have f3 := HN1.out.b3.fr
            have c4 := HN1.out.b4.c
            have f4 := HN1.out.b4.fr
            have c5 := HN1.out.b5.c
            have f5 := HN1.out.b5.fr
            go_wp2_with fail
            clear c2a c2b f2 c3 c4 c5 f3 f4 f5
            refine (look_no _ _ _ _ (s.size : Int) la _ _ HN1.out.b4 HN1.out.b5 HN1.out.b3 (by omega) (by omega) (.inl (by omega))).mono ?_
            rintro e w' ⟨rfl, rfl⟩
            have c2a := cellAt HN1.out.b2 0 _ rfl
            have c2b := cellAt HN1.out.b2 1 _ rfl
            have f2 := frzAt HN1.out.b2
            have c3 := HN1.out.b3.c
            have f3 := HN1.out.b3.fr
            have c4 := HN1.out.b4.c
            have f4 := HN1.out.b4.fr
            have c5 := HN1.out.b5.c
            have f5 := HN1.out.b5.fr
            go_wp2
            exact bodyPost_ret (v := spotV (140, (la : Int))) (by simp [results, Tryd.results68, go_sem, spotV, *]) rfl ⟨by rw [HF.out, HW.out], HN1.out.done _ _⟩
          · have hv : wv = -1 := by rw [HV.out, if_neg hA]
            have hA' : ctlN ah = false := by simpa using hA
            subst hv
            by_cases hB : ah = 65533 ∧ pos - la < 3
            · have hpp : 0 < pos := by rcases Nat.eq_zero_or_pos pos with h | h; (have := H0.out h; omega); exact h
              have HW : Hid (wrongAt 0 (pcs s.data.toList) = some la) := by rw [Hid, HU.out, hB.1]; simp [hB.2]
              have hq := hB.1
              have hq2 := hB.2
              clear hA hA' HV HU HPC HB H0 hB
              have c2a := cellAt HN1.out.b2 0 _ rfl
              have c2b := cellAt HN1.out.b2 1 _ rfl
              have f2 := frzAt HN1.out.b2
              have c3 := HN1.out.b3.c
              have f3 := HN1.out.b3.fr
              have c4 := HN1.out.b4.c
              have f4 := HN1.out.b4.fr
              have c5 := HN1.out.b5.c
              have f5 := HN1.out.b5.fr
              have i0 : (0 : Int) < (pos : Int) := by omega
              go_wp2_with fail
              clear c2a c2b f2 c3 c4 c5 f3 f4 f5
              refine (look_yes wn _ _ _ (pos : Int) (-1) ah la HN1.out.b4 HN1.out.b5 HN1.out.b3 (by omega) (by omega) (by omega) hq (by omega)).mono ?_
              rintro e w' ⟨rfl, rfl⟩
              have HN2 := Lib.hid (HN1.out.wrong (la : Int))
              generalize wn.setCell ⟨w.heap.size + 1 + 1, 0, none⟩ (.int .i64 (la : Int)) = wm at *
              have c2a := cellAt HN2.out.b2 0 _ rfl
              have c2b := cellAt HN2.out.b2 1 _ rfl
              have f2 := frzAt HN2.out.b2
              have c3 := HN2.out.b3.c
              have f3 := HN2.out.b3.fr
              have c4 := HN2.out.b4.c
              have f4 := HN2.out.b4.fr
              have c5 := HN2.out.b5.c
              have f5 := HN2.out.b5.fr
              go_wp2_with fail
              clear c2a c2b f2 c3 c4 c5 f3 f4 f5
              refine (look_no _ _ _ _ (s.size : Int) la _ _ HN2.out.b4 HN2.out.b5 HN2.out.b3 (by omega) (by omega) (.inl (by omega))).mono ?_
              rintro e w' ⟨rfl, rfl⟩
              have c2a := cellAt HN2.out.b2 0 _ rfl
              have c2b := cellAt HN2.out.b2 1 _ rfl
              have f2 := frzAt HN2.out.b2
              have c3 := HN2.out.b3.c
              have f3 := HN2.out.b3.fr
              have c4 := HN2.out.b4.c
              have f4 := HN2.out.b4.fr
              have c5 := HN2.out.b5.c
              have f5 := HN2.out.b5.fr
              go_wp2
              exact bodyPost_ret (v := spotV (140, (la : Int))) (by simp [results, Tryd.results68, go_sem, spotV, *]) rfl ⟨by rw [HF.out, HW.out], HN2.out.done _ _⟩
            · have HG : Hid ((ctlN ah || (ah == 65533 && decide (pos - la < 3))) = false) := by
                rw [Hid, hA', Bool.false_or]
                simp only [Bool.and_eq_false_iff, beq_eq_false_iff_ne, decide_eq_false_iff_not]
                by_cases h1 : ah = 65533
                · exact .inr fun h2 => hB ⟨h1, h2⟩
                · exact .inl h1
              have hno : 0 ≤ (-1 : Int) ∨ ah ≠ 65533 ∨ 3 ≤ (pos : Int) - la := by
                by_cases h1 : ah = 65533
                · have := fun h => hB ⟨h1, h⟩; omega
                · exact .inr (.inl h1)
              have HNW : Hid (wrongAt 0 (pcs s.data.toList) = if (ctlN r || (r == 65533 && decide (pos + k - pos < 3))) = true then some pos else wrongAt (pos + k) (pcs (s.data.toList.drop (pos + k)))) := by
                rw [Hid, HU.out, HG.out, if_neg (by simp), HPC.out, badN, HB.out, Nat.add_sub_cancel_left]
              clear hA hA' hB HV HU HPC HB HG
              by_cases hp0 : pos = 0
              · have i0 : ¬ (0 : Int) < (pos : Int) := by omega
                clear hp0
                by_cases hr1 : r < 32
                · skip
                  have j1 : (r : Int) < 32 := by omega
                  have HC : Hid (ctlN r = true) := by simp [Hid, ctlN, hr1]
                  clear hr1
                  have c2a := cellAt HN1.out.b2 0 _ rfl
                  have c2b := cellAt HN1.out.b2 1 _ rfl
                  have f2 := frzAt HN1.out.b2
                  have c3 := HN1.out.b3.c
                  have f3 := HN1.out.b3.fr
                  have c4 := HN1.out.b4.c
                  have f4 := HN1.out.b4.fr
                  have c5 := HN1.out.b5.c
                  have f5 := HN1.out.b5.fr
                  go_wp2
                  go_roundw
                  case rel => exact ⟨pos + k, r, pos, (pos : Int), by omega, by omega, (((HN1.out.last pos).ahead r).wrong (pos : Int)), by rw [Hid, HC.out]; rfl, fun h => by omega, HNW.out⟩
                  case measure => have h1 := (((HN1.out.last pos).ahead r).wrong (pos : Int)).hip; rw [hip, h1]; omega
      
                by_cases hr2 : r = 127
                · skip
                  have j1 : ¬ (r : Int) < 32 := by omega
                  have j2 : ((r : Int) == 127) = true := by rw [hr2]; rfl
                  have HC : Hid (ctlN r = true) := by rw [Hid, hr2]; rfl
                  clear hr1 hr2
                  have c2a := cellAt HN1.out.b2 0 _ rfl
                  have c2b := cellAt HN1.out.b2 1 _ rfl
                  have f2 := frzAt HN1.out.b2
                  have c3 := HN1.out.b3.c
                  have f3 := HN1.out.b3.fr
                  have c4 := HN1.out.b4.c
                  have f4 := HN1.out.b4.fr
                  have c5 := HN1.out.b5.c
                  have f5 := HN1.out.b5.fr
                  go_wp2
                  go_roundw
                  case rel => exact ⟨pos + k, r, pos, (pos : Int), by omega, by omega, (((HN1.out.last pos).ahead r).wrong (pos : Int)), by rw [Hid, HC.out]; rfl, fun h => by omega, HNW.out⟩
                  case measure => have h1 := (((HN1.out.last pos).ahead r).wrong (pos : Int)).hip; rw [hip, h1]; omega
      
                by_cases hr3 : r = 47
                · skip
                  have j1 : ¬ (r : Int) < 32 := by omega
                  have j2 : ((r : Int) == 127) = false := by simp; omega
                  have j3 : ((r : Int) == 47) = true := by rw [hr3]; rfl
                  have HC : Hid (ctlN r = true) := by rw [Hid, hr3]; rfl
                  clear hr1 hr2 hr3
                  have c2a := cellAt HN1.out.b2 0 _ rfl
                  have c2b := cellAt HN1.out.b2 1 _ rfl
                  have f2 := frzAt HN1.out.b2
                  have c3 := HN1.out.b3.c
                  have f3 := HN1.out.b3.fr
                  have c4 := HN1.out.b4.c
                  have f4 := HN1.out.b4.fr
                  have c5 := HN1.out.b5.c
                  have f5 := HN1.out.b5.fr
                  go_wp2
                  go_roundw
                  case rel => exact ⟨pos + k, r, pos, (pos : Int), by omega, by omega, (((HN1.out.last pos).ahead r).wrong (pos : Int)), by rw [Hid, HC.out]; rfl, fun h => by omega, HNW.out⟩
                  case measure => have h1 := (((HN1.out.last pos).ahead r).wrong (pos : Int)).hip; rw [hip, h1]; omega
      
                have j1 : ¬ (r : Int) < 32 := by omega
                have j2 : ((r : Int) == 127) = false := by simp; omega
                have j3 : ((r : Int) == 47) = false := by simp; omega
                have HC : Hid (ctlN r = false) := by simp [Hid, ctlN, hr1, hr2, hr3]
                clear hr1 hr2 hr3
                have c2a := cellAt HN1.out.b2 0 _ rfl
                have c2b := cellAt HN1.out.b2 1 _ rfl
                have f2 := frzAt HN1.out.b2
                have c3 := HN1.out.b3.c
                have f3 := HN1.out.b3.fr
                have c4 := HN1.out.b4.c
                have f4 := HN1.out.b4.fr
                have c5 := HN1.out.b5.c
                have f5 := HN1.out.b5.fr
                go_wp2
                go_roundw
                case rel => exact ⟨pos + k, r, pos, -1, by omega, by omega, ((HN1.out.last pos).ahead r), by rw [Hid, HC.out]; rfl, fun h => by omega, HNW.out⟩
                case measure => have h1 := ((HN1.out.last pos).ahead r).hip; rw [hip, h1]; omega
              · have i0 : (0 : Int) < (pos : Int) := by omega
                clear hp0
                by_cases hr1 : r < 32
                · skip
                  have j1 : (r : Int) < 32 := by omega
                  have HC : Hid (ctlN r = true) := by simp [Hid, ctlN, hr1]
                  clear hr1
                  have c2a := cellAt HN1.out.b2 0 _ rfl
                  have c2b := cellAt HN1.out.b2 1 _ rfl
                  have f2 := frzAt HN1.out.b2
                  have c3 := HN1.out.b3.c
                  have f3 := HN1.out.b3.fr
                  have c4 := HN1.out.b4.c
                  have f4 := HN1.out.b4.fr
                  have c5 := HN1.out.b5.c
                  have f5 := HN1.out.b5.fr
                  go_wp2_with fail
                  clear c2a c2b f2 c3 c4 c5 f3 f4 f5
                  refine (look_no wn _ _ _ (pos : Int) (-1) ah la HN1.out.b4 HN1.out.b5 HN1.out.b3 (by omega) (by omega) hno).mono ?_
                  rintro e w' ⟨rfl, rfl⟩
                  have c2a := cellAt HN1.out.b2 0 _ rfl
                  have c2b := cellAt HN1.out.b2 1 _ rfl
                  have f2 := frzAt HN1.out.b2
                  have c3 := HN1.out.b3.c
                  have f3 := HN1.out.b3.fr
                  have c4 := HN1.out.b4.c
                  have f4 := HN1.out.b4.fr
                  have c5 := HN1.out.b5.c
                  have f5 := HN1.out.b5.fr
                  go_wp2
                  go_roundw
                  case rel => exact ⟨pos + k, r, pos, (pos : Int), by omega, by omega, (((HN1.out.last pos).ahead r).wrong (pos : Int)), by rw [Hid, HC.out]; rfl, fun h => by omega, HNW.out⟩
                  case measure => have h1 := (((HN1.out.last pos).ahead r).wrong (pos : Int)).hip; rw [hip, h1]; omega
      
                by_cases hr2 : r = 127
                · skip
                  have j1 : ¬ (r : Int) < 32 := by omega
                  have j2 : ((r : Int) == 127) = true := by rw [hr2]; rfl
                  have HC : Hid (ctlN r = true) := by rw [Hid, hr2]; rfl
                  clear hr1 hr2
                  have c2a := cellAt HN1.out.b2 0 _ rfl
                  have c2b := cellAt HN1.out.b2 1 _ rfl
                  have f2 := frzAt HN1.out.b2
                  have c3 := HN1.out.b3.c
                  have f3 := HN1.out.b3.fr
                  have c4 := HN1.out.b4.c
                  have f4 := HN1.out.b4.fr
                  have c5 := HN1.out.b5.c
                  have f5 := HN1.out.b5.fr
                  go_wp2_with fail
                  clear c2a c2b f2 c3 c4 c5 f3 f4 f5
                  refine (look_no wn _ _ _ (pos : Int) (-1) ah la HN1.out.b4 HN1.out.b5 HN1.out.b3 (by omega) (by omega) hno).mono ?_
                  rintro e w' ⟨rfl, rfl⟩
                  have c2a := cellAt HN1.out.b2 0 _ rfl
                  have c2b := cellAt HN1.out.b2 1 _ rfl
                  have f2 := frzAt HN1.out.b2
                  have c3 := HN1.out.b3.c
                  have f3 := HN1.out.b3.fr
                  have c4 := HN1.out.b4.c
                  have f4 := HN1.out.b4.fr
                  have c5 := HN1.out.b5.c
                  have f5 := HN1.out.b5.fr
                  go_wp2
                  go_roundw
                  case rel => exact ⟨pos + k, r, pos, (pos : Int), by omega, by omega, (((HN1.out.last pos).ahead r).wrong (pos : Int)), by rw [Hid, HC.out]; rfl, fun h => by omega, HNW.out⟩
                  case measure => have h1 := (((HN1.out.last pos).ahead r).wrong (pos : Int)).hip; rw [hip, h1]; omega
      
                by_cases hr3 : r = 47
                · skip
                  have j1 : ¬ (r : Int) < 32 := by omega
                  have j2 : ((r : Int) == 127) = false := by simp; omega
                  have j3 : ((r : Int) == 47) = true := by rw [hr3]; rfl
                  have HC : Hid (ctlN r = true) := by rw [Hid, hr3]; rfl
                  clear hr1 hr2 hr3
                  have c2a := cellAt HN1.out.b2 0 _ rfl
                  have c2b := cellAt HN1.out.b2 1 _ rfl
                  have f2 := frzAt HN1.out.b2
                  have c3 := HN1.out.b3.c
                  have f3 := HN1.out.b3.fr
                  have c4 := HN1.out.b4.c
                  have f4 := HN1.out.b4.fr
                  have c5 := HN1.out.b5.c
                  have f5 := HN1.out.b5.fr
                  go_wp2_with fail
                  clear c2a c2b f2 c3 c4 c5 f3 f4 f5
                  refine (look_no wn _ _ _ (pos : Int) (-1) ah la HN1.out.b4 HN1.out.b5 HN1.out.b3 (by omega) (by omega) hno).mono ?_
                  rintro e w' ⟨rfl, rfl⟩
                  have c2a := cellAt HN1.out.b2 0 _ rfl
                  have c2b := cellAt HN1.out.b2 1 _ rfl
                  have f2 := frzAt HN1.out.b2
                  have c3 := HN1.out.b3.c
                  have f3 := HN1.out.b3.fr
                  have c4 := HN1.out.b4.c
                  have f4 := HN1.out.b4.fr
                  have c5 := HN1.out.b5.c
                  have f5 := HN1.out.b5.fr
                  go_wp2
                  go_roundw
                  case rel => exact ⟨pos + k, r, pos, (pos : Int), by omega, by omega, (((HN1.out.last pos).ahead r).wrong (pos : Int)), by rw [Hid, HC.out]; rfl, fun h => by omega, HNW.out⟩
                  case measure => have h1 := (((HN1.out.last pos).ahead r).wrong (pos : Int)).hip; rw [hip, h1]; omega
      
                have j1 : ¬ (r : Int) < 32 := by omega
                have j2 : ((r : Int) == 127) = false := by simp; omega
                have j3 : ((r : Int) == 47) = false := by simp; omega
                have HC : Hid (ctlN r = false) := by simp [Hid, ctlN, hr1, hr2, hr3]
                clear hr1 hr2 hr3
                have c2a := cellAt HN1.out.b2 0 _ rfl
                have c2b := cellAt HN1.out.b2 1 _ rfl
                have f2 := frzAt HN1.out.b2
                have c3 := HN1.out.b3.c
                have f3 := HN1.out.b3.fr
                have c4 := HN1.out.b4.c
                have f4 := HN1.out.b4.fr
                have c5 := HN1.out.b5.c
                have f5 := HN1.out.b5.fr
                go_wp2_with fail
                clear c2a c2b f2 c3 c4 c5 f3 f4 f5
                refine (look_no wn _ _ _ (pos : Int) (-1) ah la HN1.out.b4 HN1.out.b5 HN1.out.b3 (by omega) (by omega) hno).mono ?_
                rintro e w' ⟨rfl, rfl⟩
                have c2a := cellAt HN1.out.b2 0 _ rfl
                have c2b := cellAt HN1.out.b2 1 _ rfl
                have f2 := frzAt HN1.out.b2
                have c3 := HN1.out.b3.c
                have f3 := HN1.out.b3.fr
                have c4 := HN1.out.b4.c
                have f4 := HN1.out.b4.fr
                have c5 := HN1.out.b5.c
                have f5 := HN1.out.b5.fr
                go_wp2
                go_roundw
                case rel => exact ⟨pos + k, r, pos, -1, by omega, by omega, ((HN1.out.last pos).ahead r), by rw [Hid, HC.out]; rfl, fun h => by omega, HNW.out⟩
                case measure => have h1 := ((HN1.out.last pos).ahead r).hip; rw [hip, h1]; omega
        · have hnx := fun ty => Lib.run_next_end_at (P := Tryd.prog) wr (w.heap.size + 1 + 1 + 1 + 1) s pos ty HN.out.it hp
          have HE : Hid (s.data.toList.drop pos = []) := by rw [Hid]; exact List.drop_of_length_le (by rw [HS.out]; omega)
          have hps : pos = s.size := by omega
          subst hps
          by_cases hA : ctlN ah = true
          · have hv : wv = (la : Int) := by rw [HV.out, if_pos hA]
            have HW : Hid (wrongAt 0 (pcs s.data.toList) = some la) := by rw [Hid, HU.out, hA]; rfl
            subst hv
            clear hA HV HU H0
            have c2a := cellAt HN.out.b2 0 _ rfl
            have c2b := cellAt HN.out.b2 1 _ rfl
            have f2 := frzAt HN.out.b2
            have c3 := HN.out.b3.c
            have f3 := HN.out.b3.fr
            have c4 := HN.out.b4.c
            have f4 := HN.out.b4.fr
            have c5 := HN.out.b5.c
            have f5 := HN.out.b5.fr
            go_wp2_with fail
            clear c2a c2b f2 c3 c4 c5 f3 f4 f5
            refine (look_no _ _ _ _ (s.size : Int) la _ _ HN.out.b4 HN.out.b5 HN.out.b3 (by omega) (by omega) (.inl (by omega))).mono ?_
            rintro e w' ⟨rfl, rfl⟩
            have c2a := cellAt HN.out.b2 0 _ rfl
            have c2b := cellAt HN.out.b2 1 _ rfl
            have f2 := frzAt HN.out.b2
            have c3 := HN.out.b3.c
            have f3 := HN.out.b3.fr
            have c4 := HN.out.b4.c
            have f4 := HN.out.b4.fr
            have c5 := HN.out.b5.c
            have f5 := HN.out.b5.fr
            go_wp2
            exact bodyPost_ret (v := spotV (140, (la : Int))) (by simp [results, Tryd.results68, go_sem, spotV, *]) rfl ⟨by rw [HF.out, HW.out], HN.out.done _ _⟩
          · have hv : wv = -1 := by rw [HV.out, if_neg hA]
            have hA' : ctlN ah = false := by simpa using hA
            subst hv
            by_cases hB : ah = 65533 ∧ s.size - la < 3
            · have HW : Hid (wrongAt 0 (pcs s.data.toList) = some la) := by rw [Hid, HU.out, hB.1]; simp [hB.2]
              have hq := hB.1
              have hq2 := hB.2
              clear hA hA' HV HU H0 hB
              have c2a := cellAt HN.out.b2 0 _ rfl
              have c2b := cellAt HN.out.b2 1 _ rfl
              have f2 := frzAt HN.out.b2
              have c3 := HN.out.b3.c
              have f3 := HN.out.b3.fr
              have c4 := HN.out.b4.c
              have f4 := HN.out.b4.fr
              have c5 := HN.out.b5.c
              have f5 := HN.out.b5.fr
              go_wp2_with fail
              clear c2a c2b f2 c3 c4 c5 f3 f4 f5
              refine (look_yes wr _ _ _ (s.size : Int) (-1) ah la HN.out.b4 HN.out.b5 HN.out.b3 (by omega) (by omega) (by omega) hq (by omega)).mono ?_
              rintro e w' ⟨rfl, rfl⟩
              have HN2 := Lib.hid (HN.out.wrong (la : Int))
              generalize wr.setCell ⟨w.heap.size + 1 + 1, 0, none⟩ (.int .i64 (la : Int)) = wm at *
              have c2a := cellAt HN2.out.b2 0 _ rfl
              have c2b := cellAt HN2.out.b2 1 _ rfl
              have f2 := frzAt HN2.out.b2
              have c3 := HN2.out.b3.c
              have f3 := HN2.out.b3.fr
              have c4 := HN2.out.b4.c
              have f4 := HN2.out.b4.fr
              have c5 := HN2.out.b5.c
              have f5 := HN2.out.b5.fr
              go_wp2
              exact bodyPost_ret (v := spotV (140, (la : Int))) (by simp [results, Tryd.results68, go_sem, spotV, *]) rfl ⟨by rw [HF.out, HW.out], HN2.out.done _ _⟩
            · have hno : 0 ≤ (-1 : Int) ∨ ah ≠ 65533 ∨ 3 ≤ (s.size : Int) - la := by
                by_cases h1 : ah = 65533
                · have := fun h => hB ⟨h1, h⟩; omega
                · exact .inr (.inl h1)
              have HW : Hid (wrongAt 0 (pcs s.data.toList) = none) := by
                rw [Hid, HU.out, hA', Bool.false_or, HE.out]
                by_cases h1 : ah = 65533
                · have h2 : ¬ s.size - la < 3 := fun h => hB ⟨h1, h⟩
                  simp [h2, pcs_nil, wrongAt]
                · simp [h1, pcs_nil, wrongAt]
              clear hA hA' hB HV HU H0
              have c2a := cellAt HN.out.b2 0 _ rfl
              have c2b := cellAt HN.out.b2 1 _ rfl
              have f2 := frzAt HN.out.b2
              have c3 := HN.out.b3.c
              have f3 := HN.out.b3.fr
              have c4 := HN.out.b4.c
              have f4 := HN.out.b4.fr
              have c5 := HN.out.b5.c
              have f5 := HN.out.b5.fr
              go_wp2_with fail
              clear c2a c2b f2 c3 c4 c5 f3 f4 f5
              refine (look_no wr _ _ _ (s.size : Int) (-1) ah la HN.out.b4 HN.out.b5 HN.out.b3 (by omega) (by omega) hno).mono ?_
              rintro e w' ⟨rfl, rfl⟩
              have c2a := cellAt HN.out.b2 0 _ rfl
              have c2b := cellAt HN.out.b2 1 _ rfl
              have f2 := frzAt HN.out.b2
              have c3 := HN.out.b3.c
              have f3 := HN.out.b3.fr
              have c4 := HN.out.b4.c
              have f4 := HN.out.b4.fr
              have c5 := HN.out.b5.c
              have f5 := HN.out.b5.fr
              go_wp2
              exact bodyPost_ret (v := spotV (0, 0)) (by simp [results, Tryd.results68, go_sem, spotV, *]) rfl ⟨by rw [HF.out, HW.out], HN.out.done _ _⟩
end Go.Proofs.YtcomcoolmabmgaaDoor
