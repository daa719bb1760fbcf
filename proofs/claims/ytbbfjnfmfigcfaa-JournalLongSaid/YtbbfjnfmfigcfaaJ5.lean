/-
  (*Disk).Append: the walk.
-/
import Derived.Test.YtbbfjnfmfigcfaaJ4
import Derived.WalkMore
import Derived.ScopeJumps
namespace Go.Proofs.Ytbbfjnfmfigcfaa
open Go.RowKit Go.Shelf
set_option linter.unusedVariables false
set_option linter.unusedSimpArgs false
set_option maxRecDepth 100000

theorem Bytes.takeN {w : World} {A : Option Addr} {n c k m : Nat} {xs : List UInt8} (h : Bytes w (.slice A n c) xs) (hl : xs.length = n) (hk : k ≤ n) (hkm : k ≤ m) (hmc : m ≤ c) :
    Bytes w (.slice A k m) (xs.take k) := by subst hl; exact Bytes.take h hk hkm hmc
theorem Bytes.empty (w : World) (A : Option Addr) (c : Nat) (hc : c ≤ maxLen := by unfold maxLen; omega) : Bytes w (.slice A 0 c) [] := ⟨A, c, rfl, Nat.zero_le _, hc, fun h => by simp at h⟩
theorem Bytes.tail {w : World} {b o n c k : Nat} {xs : List UInt8} (h : Bytes w (.slice (some ⟨b, o, none⟩) n c) xs) (hl : xs.length = n) (hk : k ≤ n) (hkc : c ≠ k) : Bytes w (.slice (some ⟨b, o + k, none⟩) (n - k) (c - k)) (xs.drop k) := by
  subst hl
  have h1 := Bytes.drop h hk
  rw [if_neg hkc] at h1
  simp only [Option.map_some, Addr.add] at h1
  split at h1
  · rename_i h0; subst h0; exact h1
  · exact h1

set_option maxHeartbeats 6400000 in
theorem dappend_more (w : World) (base d m wr0 : Nat) (k : ByteArray) (hmay : ∀ w, Calls Try.prog 40 #[.string k] w fun e w' => e = .returned (.bool true) ∧ Chg No w w') (A A2 : Option Addr) (n c n2 c2 : Nat) (xs ys : List UInt8)
    (h : DiskAt w d m wr0 (some (k, .slice A n c))) (hw : wr0 < 9223372036850000000) (ho : OwnB w base (.slice A n c) xs) (hl : xs.length = n) (hb : Bytes w (.slice A2 n2 c2) ys) (hl2 : ys.length = n2) (hn : n + n2 ≤ 4194304) (hpos : 0 < n2) (hbase : base ≤ w.heap.size)
    (hbd : ∀ b, (Value.slice A2 n2 c2).ownBlock = some b → b ≠ d ∧ b ≠ m ∧ some b ≠ (Value.slice A n c).ownBlock)  :
    Calls Try.prog 22 #[.pointer (some ⟨d, 0, none⟩), .string k, .slice A2 n2 c2] w fun e w' => e = .returned (.int .i64 0) ∧ ∃ v', DiskAt w' d m (wr0 + (n2 + 31) / 32) (some (k, v')) ∧ OwnB w' base v' (xs ++ ys) ∧ Chg (DS d m (.slice A n c)) w w' ∧ From w (.slice A n c) v' := by
  have hbd2 : ∀ b, (Value.slice A2 n2 c2).ownBlock = some b → b ≠ d ∧ b ≠ m ∧ some b ≠ (Value.slice A n c).ownBlock ∧ b < w.heap.size := by
    intro b hb3
    obtain ⟨b3, o3, e3, hcell⟩ := hb.addr (by omega)
    subst e3
    cases hb3
    exact ⟨(hbd _ rfl).1, (hbd _ rfl).2.1, (hbd _ rfl).2.2, World.block_lt_of_cell? w _ (hcell 0 (by omega))⟩
  have HO := Lib.hid ho
  have HL := Lib.hid hl
  have HB := Lib.hid hb
  have HL2 := Lib.hid hl2
  have HD := Lib.hid h
  clear ho hl hb hl2 h hbd
  skip
  go_enter Try.func22, Try.ntmps22
  go_wp2
  go_step3
  go_wp2_with fail
  refine (hmay _).mono ?_
  rintro e w1 ⟨rfl, hc1⟩
  have hx0 : Boxed w1 w.heap.size 24 (.pointer (some ⟨d, 0, none⟩)) := hc1.heap ((Boxed.new w 24 (.pointer (some ⟨d, 0, none⟩))).alloc _) (fun x => x)
  have hx1 : Boxed w1 (w.heap.size + 1) 9 (.string k) := by
    have h0 := Boxed.new (w.alloc (.cells #[.pointer (some ⟨d, 0, none⟩)] 24)) 9 (.string k)
    rw [World.size_alloc] at h0
    exact hc1.heap h0 (fun x => x)
  have hcw : Chg No w w1 := (((Chg.refl No w).alloc _).alloc _).no hc1
  have hD1 := HD.out.chg hcw (fun x => x) (fun x => x)
  obtain ⟨c0, c1, c2', c3, c4⟩ := hD1.cells
  have e0 := hx0.cell
  have e1 := hx1.cell
  have hlk := look_same w1 m k _ hD1.2
  have hlkd := look_same w1.drew m k _ hD1.2
  skip
  have HC1 := Lib.hid hcw
  have HX0 := Lib.hid hx0
  have HX1 := Lib.hid hx1
  have HD1 := Lib.hid hD1
  clear hc1 hcw hx0 hx1 hD1
  have hz : ((n2 : Int) == 0) = false := by rw [beq_eq_false_iff_ne]; omega
  go_wp2
  go_region
  go_wp2
  clear hlk hlkd c0 c1 c2' c3 c4 e0 e1 
  have HC2 : Hid (Chg No w w1.drew) := HC1.out.drew
  have HX2 : Hid (Boxed w1.drew w.heap.size 24 (.pointer (some ⟨d, 0, none⟩))) := HX0.out
  have HX3 : Hid (Boxed w1.drew (w.heap.size + 1) 9 (.string k)) := HX1.out
  have HD2 : Hid (DiskAt w1.drew d m wr0 (some (k, .slice A n c))) := HD1.out
  clear HC1 HX0 HX1 HD1
  go_step3
  go_wp2
  go_loopw [2] (fun b wr' => ∃ (i : Nat) (f' : Option (ByteArray × Value)) (A' : Option Addr) (Ar : Option Addr) (c' cr : Nat), i ≤ n2 ∧ b = .slice Ar (n2 - i) cr ∧ (i < n2 → i % 32 = 0) ∧ Hid (Bytes wr' (.slice Ar (n2 - i) cr) (ys.drop i)) ∧ (∀ b, (Value.slice Ar (n2 - i) cr).ownBlock = some b → (Value.slice A2 n2 c2).ownBlock = some b) ∧ (f' = some (k, .slice A' (n + i) c') ∨ (f' = none ∧ A' = none ∧ n + i = 0 ∧ c' = 0 ∧ xs ++ ys.take i = [])) ∧ (f' = none → i = 0) ∧ Hid (DiskAt wr' d m (wr0 + (i + 31) / 32) f') ∧ Hid (OwnB wr' base (.slice A' (n + i) c') (xs ++ ys.take i)) ∧ Hid (Chg (DS d m (.slice A n c)) w wr') ∧ Hid (Boxed wr' w.heap.size 24 (.pointer (some ⟨d, 0, none⟩))) ∧ Hid (Boxed wr' (w.heap.size + 1) 9 (.string k)) ∧ From w (.slice A n c) (.slice A' (n + i) c')) (fun b _ => match b with | .slice _ n _ => n | _ => 0)
  case atStart =>
    refine ⟨0, (some (k, .slice A n c)), A, A2, c, c2, Nat.zero_le _, rfl, fun _ => rfl, HB.out.no HC2.out, fun b hb => hb, .inl rfl, fun hx => rfl, ?_, ?_, HC2.out.mono (fun _ _ x => x.elim), HX2, HX3, From.refl _ _⟩
    · exact HD2
    · have h := HO.out.chg HC2.out (fun _ _ x => x)
      rw [List.take_zero, List.append_nil]
      exact h
  case round =>
    obtain ⟨i, f', A', Ar, c', cr, hi, rfl, hi32, HBr, hrb, hff, hfi, HDr, HOr, HCr, HXa, HXb, hfr⟩ := hrel
    have ea := HXa.out.cell
    have eb := HXb.out.cell
    have hlr : (ys.drop i).length = n2 - i := by rw [List.length_drop, HL2.out]
    have hlx := HL.out
    have hly := HL2.out
    have hszr := HCr.out.size
    by_cases hlt : i < n2
    · have t1 : (0 : Int) < ((n2 - i : Nat) : Int) := by omega
      have ea' := fun o => ((Chg.refl No wr).alloc o).cell ea (fun x => x)
      have eb' := fun o => ((Chg.refl No wr).alloc o).cell eb (fun x => x)
      have hi0 := hi32 hlt
      have hform : n2 - i ≤ cr ∧ cr ≤ 9223372036854775807 := by
        obtain ⟨A3, c3, h3, h4, h5⟩ := HBr.out.form
        simp only [Value.slice.injEq] at h3
        obtain ⟨-, h6, rfl⟩ := h3
        exact ⟨by omega, h5⟩
      obtain ⟨br, orr, rfl, -⟩ := HBr.out.addr (by omega)
      by_cases hp : n2 - i ≤ 32
      · have t2 : ((n2 - i : Nat) : Int) ≤ 32 := by omega
        by_cases hcr : cr = n2 - i
        · subst hcr
          go_wp2_with fail
          have hbx : Bytes wr (.slice (some ⟨br, orr, none⟩) (n2 - i) (n2 - i)) ((ys.drop i).take (n2 - i)) := by
            have h := Bytes.takeN (k := n2 - i) (m := (n2 - i)) HBr.out hlr (by omega) (by omega) (Nat.le_refl _)
            exact h
          have hby : Bytes wr (.slice (some ⟨br, orr, none⟩) 0 0) ((ys.drop i).drop (n2 - i)) := by rw [List.drop_of_length_le (by omega)]; exact Bytes.empty _ _ _
          have HBY := Lib.hid hby
          refine (piece_calls (wr.alloc _) base d m (wr0 + (i + 31) / 32) w.heap.size (w.heap.size + 1) wr.heap.size k A' (some ⟨br, orr, none⟩) (n + i) c' (n2 - i) (n2 - i) (xs ++ ys.take i) ((ys.drop i).take (n2 - i)) f' ?_ (HDr.out.chg ((Chg.refl No wr).alloc _) (fun x => x) (fun x => x)) (by omega) (HXa.out.alloc _) (HXb.out.alloc _) (Boxed.new wr _ _) (HOr.out.alloc _) (by simp only [List.length_append, List.length_take]; omega) (hbx.no ((Chg.refl No wr).alloc _)) (by rw [List.length_take, hlr]; omega) (by omega) (by rw [World.size_alloc]; omega) ?_).mono ?_
          · exact hff
          · intro b hb; exact (hbd2 b (hrb b hb)).1
          rintro e w2 ⟨rfl, v', h1', h2', h3', h4'⟩
          obtain ⟨A3, n3, c3, rfl, HL3, HO3⟩ := h2'.form
          have hn3 : n3 = n + (i + (n2 - i)) := by have := HL3.out; simp only [List.length_append, List.length_take, List.length_drop] at this; omega
          subst hn3
          have hca : Chg No wr (wr.alloc (Obj.cells #[Value.slice (some ⟨br, orr, none⟩) (n2 - i) (n2 - i)] 22)) := (Chg.refl No wr).alloc _
          have hds : ∀ j, j < w.heap.size → DS d m (.slice A' (n + i) c') j → DS d m (.slice A n c) j := by
            rintro j hj (e | e | e)
            · exact .inl e
            · exact .inr (.inl e)
            · rcases hfr j e.symm with e2 | e2
              · exact .inr (.inr e2.symm)
              · omega
          have hc2 : Chg (DS d m (.slice A n c)) w w2 := (HCr.out.no hca).trans h3' hds
          have hcr2 : Chg (DS d m (.slice A' (n + i) c')) wr w2 := (Chg.mono hca (fun _ _ x => x.elim)).trans h3' (fun _ _ x => x)
          have hnx : ∀ {b : Nat} {t : TypeId} {v : Value}, t ≠ 5 → t ≠ 67 → Boxed wr b t v → ¬ DS d m (.slice A' (n + i) c') b := by
            rintro b t v ht ht2 hB (e | e | e)
            · subst e; have := (show wr.heap[b]? = _ from hB).symm.trans HDr.out.1; cases this
            · subst e; have := (show wr.heap[b]? = _ from hB).symm.trans HDr.out.2; unfold mapObj at this; split at this <;> cases this
            · exact hB.not_row ht HOr.out e
          have HC2 := Lib.hid hc2
          have HD2 := Lib.hid h1'
          have HX2a := Lib.hid (hcr2.heap HXa.out (hnx (by decide) (by decide) HXa.out))
          have HX2b := Lib.hid (hcr2.heap HXb.out (hnx (by decide) (by decide) HXb.out))
          have HY2 := Lib.hid (HBY.out.chg hcr2 (by
            rintro b hb hbs
            have hb2 := hbd2 b (by first | exact hrb b hb | (cases hb; exact hrb _ rfl))
            rcases hbs with e | e | e
            · exact hb2.1 e
            · exact hb2.2.1 e
            · rcases hfr b e.symm with e2 | e2
              · exact hb2.2.2.1 e2.symm
              · omega))
          have HF2 : From w (.slice A n c) (.slice A3 (n + (i + (n2 - i))) c3) := From.trans hfr (Nat.le_trans HCr.out.size hca.size) h4'
          clear hc2 h1' hcr2 h3' h4' h2' hby hca hbx
          go_wp2
          go_roundw
          case rel =>
            refine ⟨i + (n2 - i), some (k, .slice A3 (n + (i + (n2 - i))) c3), A3, some ⟨br, orr, none⟩, c3, 0, by omega, congrArg (fun z => Value.slice (some ⟨br, orr, none⟩) z (0)) (by omega), ?_, ?_, ?_, .inl rfl, ?_, ?_, ?_, HC2, HX2a, HX2b, HF2⟩
            · omega
            · have h := HY2.out
              rw [List.drop_drop] at h
              exact (show 0 = n2 - (i + (n2 - i)) by omega) ▸ h
            · intro b hb
              first | exact hrb b hb | (cases hb; exact hrb _ rfl)
            · intro hx; cases hx
            · have h := HD2.out
              exact (show wr0 + (i + 31) / 32 + 1 = wr0 + (i + (n2 - i) + 31) / 32 by omega) ▸ h
            · have h := HO3.out
              rw [List.append_assoc, ← List.take_add] at h
              exact h
          case measure => simp only [intOf]; omega

        · go_wp2_with fail
          have hbx : Bytes wr (.slice (some ⟨br, orr, none⟩) (n2 - i) cr) ((ys.drop i).take (n2 - i)) := by
            have h := Bytes.takeN (k := n2 - i) (m := cr) HBr.out hlr (by omega) (by omega) (Nat.le_refl _)
            exact h
          have hby : Bytes wr (.slice (some ⟨br, orr + (n2 - i), none⟩) 0 (cr - (n2 - i))) ((ys.drop i).drop (n2 - i)) := by rw [List.drop_of_length_le (by omega)]; exact Bytes.empty _ _ _
          have HBY := Lib.hid hby
          refine (piece_calls (wr.alloc _) base d m (wr0 + (i + 31) / 32) w.heap.size (w.heap.size + 1) wr.heap.size k A' (some ⟨br, orr, none⟩) (n + i) c' (n2 - i) cr (xs ++ ys.take i) ((ys.drop i).take (n2 - i)) f' ?_ (HDr.out.chg ((Chg.refl No wr).alloc _) (fun x => x) (fun x => x)) (by omega) (HXa.out.alloc _) (HXb.out.alloc _) (Boxed.new wr _ _) (HOr.out.alloc _) (by simp only [List.length_append, List.length_take]; omega) (hbx.no ((Chg.refl No wr).alloc _)) (by rw [List.length_take, hlr]; omega) (by omega) (by rw [World.size_alloc]; omega) ?_).mono ?_
          · exact hff
          · intro b hb; exact (hbd2 b (hrb b hb)).1
          rintro e w2 ⟨rfl, v', h1', h2', h3', h4'⟩
          obtain ⟨A3, n3, c3, rfl, HL3, HO3⟩ := h2'.form
          have hn3 : n3 = n + (i + (n2 - i)) := by have := HL3.out; simp only [List.length_append, List.length_take, List.length_drop] at this; omega
          subst hn3
          have hca : Chg No wr (wr.alloc (Obj.cells #[Value.slice (some ⟨br, orr, none⟩) (n2 - i) cr] 22)) := (Chg.refl No wr).alloc _
          have hds : ∀ j, j < w.heap.size → DS d m (.slice A' (n + i) c') j → DS d m (.slice A n c) j := by
            rintro j hj (e | e | e)
            · exact .inl e
            · exact .inr (.inl e)
            · rcases hfr j e.symm with e2 | e2
              · exact .inr (.inr e2.symm)
              · omega
          have hc2 : Chg (DS d m (.slice A n c)) w w2 := (HCr.out.no hca).trans h3' hds
          have hcr2 : Chg (DS d m (.slice A' (n + i) c')) wr w2 := (Chg.mono hca (fun _ _ x => x.elim)).trans h3' (fun _ _ x => x)
          have hnx : ∀ {b : Nat} {t : TypeId} {v : Value}, t ≠ 5 → t ≠ 67 → Boxed wr b t v → ¬ DS d m (.slice A' (n + i) c') b := by
            rintro b t v ht ht2 hB (e | e | e)
            · subst e; have := (show wr.heap[b]? = _ from hB).symm.trans HDr.out.1; cases this
            · subst e; have := (show wr.heap[b]? = _ from hB).symm.trans HDr.out.2; unfold mapObj at this; split at this <;> cases this
            · exact hB.not_row ht HOr.out e
          have HC2 := Lib.hid hc2
          have HD2 := Lib.hid h1'
          have HX2a := Lib.hid (hcr2.heap HXa.out (hnx (by decide) (by decide) HXa.out))
          have HX2b := Lib.hid (hcr2.heap HXb.out (hnx (by decide) (by decide) HXb.out))
          have HY2 := Lib.hid (HBY.out.chg hcr2 (by
            rintro b hb hbs
            have hb2 := hbd2 b (by first | exact hrb b hb | (cases hb; exact hrb _ rfl))
            rcases hbs with e | e | e
            · exact hb2.1 e
            · exact hb2.2.1 e
            · rcases hfr b e.symm with e2 | e2
              · exact hb2.2.2.1 e2.symm
              · omega))
          have HF2 : From w (.slice A n c) (.slice A3 (n + (i + (n2 - i))) c3) := From.trans hfr (Nat.le_trans HCr.out.size hca.size) h4'
          clear hc2 h1' hcr2 h3' h4' h2' hby hca hbx
          go_wp2
          go_roundw
          case rel =>
            refine ⟨i + (n2 - i), some (k, .slice A3 (n + (i + (n2 - i))) c3), A3, some ⟨br, orr + (n2 - i), none⟩, c3, cr - (n2 - i), by omega, congrArg (fun z => Value.slice (some ⟨br, orr + (n2 - i), none⟩) z (cr - (n2 - i))) (by omega), ?_, ?_, ?_, .inl rfl, ?_, ?_, ?_, HC2, HX2a, HX2b, HF2⟩
            · omega
            · have h := HY2.out
              rw [List.drop_drop] at h
              exact (show 0 = n2 - (i + (n2 - i)) by omega) ▸ h
            · intro b hb
              first | exact hrb b hb | (cases hb; exact hrb _ rfl)
            · intro hx; cases hx
            · have h := HD2.out
              exact (show wr0 + (i + 31) / 32 + 1 = wr0 + (i + (n2 - i) + 31) / 32 by omega) ▸ h
            · have h := HO3.out
              rw [List.append_assoc, ← List.take_add] at h
              exact h
          case measure => simp only [intOf]; omega

      · have t2 : (32 : Int) < ((n2 - i : Nat) : Int) := by omega
        have hcr : ¬ cr = 32 := by omega
        go_wp2_with fail
        have hbx : Bytes wr (.slice (some ⟨br, orr, none⟩) (32) cr) ((ys.drop i).take (32)) := by
          have h := Bytes.takeN (k := 32) (m := cr) HBr.out hlr (by omega) (by omega) (Nat.le_refl _)
          exact h
        have hby : Bytes wr (.slice (some ⟨br, orr + 32, none⟩) (n2 - i - 32) (cr - 32)) ((ys.drop i).drop (32)) := Bytes.tail HBr.out hlr (by omega) (by omega)
        have HBY := Lib.hid hby
        refine (piece_calls (wr.alloc _) base d m (wr0 + (i + 31) / 32) w.heap.size (w.heap.size + 1) wr.heap.size k A' (some ⟨br, orr, none⟩) (n + i) c' (32) cr (xs ++ ys.take i) ((ys.drop i).take (32)) f' ?_ (HDr.out.chg ((Chg.refl No wr).alloc _) (fun x => x) (fun x => x)) (by omega) (HXa.out.alloc _) (HXb.out.alloc _) (Boxed.new wr _ _) (HOr.out.alloc _) (by simp only [List.length_append, List.length_take]; omega) (hbx.no ((Chg.refl No wr).alloc _)) (by rw [List.length_take, hlr]; omega) (by omega) (by rw [World.size_alloc]; omega) ?_).mono ?_
        · exact hff
        · intro b hb; exact (hbd2 b (hrb b hb)).1
        rintro e w2 ⟨rfl, v', h1', h2', h3', h4'⟩
        obtain ⟨A3, n3, c3, rfl, HL3, HO3⟩ := h2'.form
        have hn3 : n3 = n + (i + (32)) := by have := HL3.out; simp only [List.length_append, List.length_take, List.length_drop] at this; omega
        subst hn3
        have hca : Chg No wr (wr.alloc (Obj.cells #[Value.slice (some ⟨br, orr, none⟩) (32) cr] 22)) := (Chg.refl No wr).alloc _
        have hds : ∀ j, j < w.heap.size → DS d m (.slice A' (n + i) c') j → DS d m (.slice A n c) j := by
          rintro j hj (e | e | e)
          · exact .inl e
          · exact .inr (.inl e)
          · rcases hfr j e.symm with e2 | e2
            · exact .inr (.inr e2.symm)
            · omega
        have hc2 : Chg (DS d m (.slice A n c)) w w2 := (HCr.out.no hca).trans h3' hds
        have hcr2 : Chg (DS d m (.slice A' (n + i) c')) wr w2 := (Chg.mono hca (fun _ _ x => x.elim)).trans h3' (fun _ _ x => x)
        have hnx : ∀ {b : Nat} {t : TypeId} {v : Value}, t ≠ 5 → t ≠ 67 → Boxed wr b t v → ¬ DS d m (.slice A' (n + i) c') b := by
          rintro b t v ht ht2 hB (e | e | e)
          · subst e; have := (show wr.heap[b]? = _ from hB).symm.trans HDr.out.1; cases this
          · subst e; have := (show wr.heap[b]? = _ from hB).symm.trans HDr.out.2; unfold mapObj at this; split at this <;> cases this
          · exact hB.not_row ht HOr.out e
        have HC2 := Lib.hid hc2
        have HD2 := Lib.hid h1'
        have HX2a := Lib.hid (hcr2.heap HXa.out (hnx (by decide) (by decide) HXa.out))
        have HX2b := Lib.hid (hcr2.heap HXb.out (hnx (by decide) (by decide) HXb.out))
        have HY2 := Lib.hid (HBY.out.chg hcr2 (by
          rintro b hb hbs
          have hb2 := hbd2 b (by first | exact hrb b hb | (cases hb; exact hrb _ rfl))
          rcases hbs with e | e | e
          · exact hb2.1 e
          · exact hb2.2.1 e
          · rcases hfr b e.symm with e2 | e2
            · exact hb2.2.2.1 e2.symm
            · omega))
        have HF2 : From w (.slice A n c) (.slice A3 (n + (i + (32))) c3) := From.trans hfr (Nat.le_trans HCr.out.size hca.size) h4'
        clear hc2 h1' hcr2 h3' h4' h2' hby hca hbx
        go_wp2
        go_roundw
        case rel =>
          refine ⟨i + (32), some (k, .slice A3 (n + (i + (32))) c3), A3, some ⟨br, orr + 32, none⟩, c3, cr - 32, by omega, congrArg (fun z => Value.slice (some ⟨br, orr + 32, none⟩) z (cr - 32)) (by omega), ?_, ?_, ?_, .inl rfl, ?_, ?_, ?_, HC2, HX2a, HX2b, HF2⟩
          · omega
          · have h := HY2.out
            rw [List.drop_drop] at h
            exact (show n2 - i - 32 = n2 - (i + 32) by omega) ▸ h
          · intro b hb
            first | exact hrb b hb | (cases hb; exact hrb _ rfl)
          · intro hx; cases hx
          · have h := HD2.out
            exact (show wr0 + (i + 31) / 32 + 1 = wr0 + (i + (32) + 31) / 32 by omega) ▸ h
          · have h := HO3.out
            rw [List.append_assoc, ← List.take_add] at h
            exact h
        case measure => simp only [intOf]; omega

    · have t1 : ¬ (0 : Int) < ((n2 - i : Nat) : Int) := by omega
      have hin : i = n2 := by omega
      subst hin
      go_wp2
      go_ret
      rcases hff with rfl | ⟨rfl, -⟩
      · refine ⟨rfl, _, HDr.out, ?_, HCr.out, hfr⟩
        have h := HOr.out
        rw [List.take_of_length_le (by omega)] at h
        exact h
      · have := hfi rfl
        omega

set_option maxHeartbeats 6400000 in
theorem dappend_first (w : World) (base d m wr0 : Nat) (k : ByteArray) (hmay : ∀ w, Calls Try.prog 40 #[.string k] w fun e w' => e = .returned (.bool true) ∧ Chg No w w') (A2 : Option Addr) (n2 c2 : Nat) (ys : List UInt8)
    (h : DiskAt w d m wr0 none) (hw : wr0 < 9223372036850000000) (hb : Bytes w (.slice A2 n2 c2) ys) (hl2 : ys.length = n2) (hn : n2 ≤ 4194304) (hpos : 0 < n2) (hbase : base ≤ w.heap.size)
    (hbd : ∀ b, (Value.slice A2 n2 c2).ownBlock = some b → b ≠ d ∧ b ≠ m ∧ some b ≠ (Value.slice none 0 0).ownBlock) :
    Calls Try.prog 22 #[.pointer (some ⟨d, 0, none⟩), .string k, .slice A2 n2 c2] w fun e w' => e = .returned (.int .i64 0) ∧ ∃ v', DiskAt w' d m (wr0 + (n2 + 31) / 32) (some (k, v')) ∧ OwnB w' base v' ([] ++ ys) ∧ Chg (DS d m (.slice none 0 0)) w w' ∧ From w (.slice none 0 0) v' := by
  have hbd2 : ∀ b, (Value.slice A2 n2 c2).ownBlock = some b → b ≠ d ∧ b ≠ m ∧ some b ≠ (Value.slice none 0 0).ownBlock ∧ b < w.heap.size := by
    intro b hb3
    obtain ⟨b3, o3, e3, hcell⟩ := hb.addr (by omega)
    subst e3
    cases hb3
    exact ⟨(hbd _ rfl).1, (hbd _ rfl).2.1, (hbd _ rfl).2.2, World.block_lt_of_cell? w _ (hcell 0 (by omega))⟩
  have HO : Hid (OwnB w base (.slice none 0 0) []) := World.ownsRow_nil _ _ _ _
  have HL : Hid (([] : List UInt8).length = 0) := rfl
  have HB := Lib.hid hb
  have HL2 := Lib.hid hl2
  have HD := Lib.hid h
  clear hb hl2 h hbd
  go_enter Try.func22, Try.ntmps22
  go_wp2
  go_step3
  go_wp2_with fail
  refine (hmay _).mono ?_
  rintro e w1 ⟨rfl, hc1⟩
  have hx0 : Boxed w1 w.heap.size 24 (.pointer (some ⟨d, 0, none⟩)) := hc1.heap ((Boxed.new w 24 (.pointer (some ⟨d, 0, none⟩))).alloc _) (fun x => x)
  have hx1 : Boxed w1 (w.heap.size + 1) 9 (.string k) := by
    have h0 := Boxed.new (w.alloc (.cells #[.pointer (some ⟨d, 0, none⟩)] 24)) 9 (.string k)
    rw [World.size_alloc] at h0
    exact hc1.heap h0 (fun x => x)
  have hcw : Chg No w w1 := (((Chg.refl No w).alloc _).alloc _).no hc1
  have hD1 := HD.out.chg hcw (fun x => x) (fun x => x)
  obtain ⟨c0, c1, c2', c3, c4⟩ := hD1.cells
  have e0 := hx0.cell
  have e1 := hx1.cell
  have hlk := look_none w1 m k hD1.2
  have hlkd := look_none w1.drew m k hD1.2
  have hmp := run_len_map (P := Try.prog) (w := w1.drew) 65 3 m #[] 0 (Try.underlying65) hD1.2
  have HC1 := Lib.hid hcw
  have HX0 := Lib.hid hx0
  have HX1 := Lib.hid hx1
  have HD1 := Lib.hid hD1
  clear hc1 hcw hx0 hx1 hD1
  have hz : ((n2 : Int) == 0) = false := by rw [beq_eq_false_iff_ne]; omega
  go_wp2
  go_region
  go_wp2
  clear hlk hlkd c0 c1 c2' c3 c4 e0 e1 hmp
  have HC2 : Hid (Chg No w w1.drew) := HC1.out.drew
  have HX2 : Hid (Boxed w1.drew w.heap.size 24 (.pointer (some ⟨d, 0, none⟩))) := HX0.out
  have HX3 : Hid (Boxed w1.drew (w.heap.size + 1) 9 (.string k)) := HX1.out
  have HD2 : Hid (DiskAt w1.drew d m wr0 none) := HD1.out
  clear HC1 HX0 HX1 HD1
  go_step3
  go_wp2
  go_loopw [2] (fun b wr' => ∃ (i : Nat) (f' : Option (ByteArray × Value)) (A' : Option Addr) (Ar : Option Addr) (c' cr : Nat), i ≤ n2 ∧ b = .slice Ar (n2 - i) cr ∧ (i < n2 → i % 32 = 0) ∧ Hid (Bytes wr' (.slice Ar (n2 - i) cr) (ys.drop i)) ∧ (∀ b, (Value.slice Ar (n2 - i) cr).ownBlock = some b → (Value.slice A2 n2 c2).ownBlock = some b) ∧ (f' = some (k, .slice A' (0 + i) c') ∨ (f' = none ∧ A' = none ∧ 0 + i = 0 ∧ c' = 0 ∧ [] ++ ys.take i = [])) ∧ (f' = none → i = 0) ∧ Hid (DiskAt wr' d m (wr0 + (i + 31) / 32) f') ∧ Hid (OwnB wr' base (.slice A' (0 + i) c') ([] ++ ys.take i)) ∧ Hid (Chg (DS d m (.slice none 0 0)) w wr') ∧ Hid (Boxed wr' w.heap.size 24 (.pointer (some ⟨d, 0, none⟩))) ∧ Hid (Boxed wr' (w.heap.size + 1) 9 (.string k)) ∧ From w (.slice none 0 0) (.slice A' (0 + i) c')) (fun b _ => match b with | .slice _ n _ => n | _ => 0)
  case atStart =>
    refine ⟨0, none, none, A2, 0, c2, Nat.zero_le _, rfl, fun _ => rfl, HB.out.no HC2.out, fun b hb => hb, .inr ⟨rfl, rfl, rfl, rfl, rfl⟩, fun hx => rfl, ?_, ?_, HC2.out.mono (fun _ _ x => x.elim), HX2, HX3, From.refl _ _⟩
    · exact HD2
    · have h := HO.out.chg HC2.out (fun _ _ x => x)
      rw [List.take_zero, List.append_nil]
      exact h
  case round =>
    obtain ⟨i, f', A', Ar, c', cr, hi, rfl, hi32, HBr, hrb, hff, hfi, HDr, HOr, HCr, HXa, HXb, hfr⟩ := hrel
    have ea := HXa.out.cell
    have eb := HXb.out.cell
    have hlr : (ys.drop i).length = n2 - i := by rw [List.length_drop, HL2.out]
    have hlx := HL.out
    have hly := HL2.out
    have hszr := HCr.out.size
    by_cases hlt : i < n2
    · have t1 : (0 : Int) < ((n2 - i : Nat) : Int) := by omega
      have ea' := fun o => ((Chg.refl No wr).alloc o).cell ea (fun x => x)
      have eb' := fun o => ((Chg.refl No wr).alloc o).cell eb (fun x => x)
      have hi0 := hi32 hlt
      have hform : n2 - i ≤ cr ∧ cr ≤ 9223372036854775807 := by
        obtain ⟨A3, c3, h3, h4, h5⟩ := HBr.out.form
        simp only [Value.slice.injEq] at h3
        obtain ⟨-, h6, rfl⟩ := h3
        exact ⟨by omega, h5⟩
      obtain ⟨br, orr, rfl, -⟩ := HBr.out.addr (by omega)
      by_cases hp : n2 - i ≤ 32
      · have t2 : ((n2 - i : Nat) : Int) ≤ 32 := by omega
        by_cases hcr : cr = n2 - i
        · subst hcr
          go_wp2_with fail
          have hbx : Bytes wr (.slice (some ⟨br, orr, none⟩) (n2 - i) (n2 - i)) ((ys.drop i).take (n2 - i)) := by
            have h := Bytes.takeN (k := n2 - i) (m := (n2 - i)) HBr.out hlr (by omega) (by omega) (Nat.le_refl _)
            exact h
          have hby : Bytes wr (.slice (some ⟨br, orr, none⟩) 0 0) ((ys.drop i).drop (n2 - i)) := by rw [List.drop_of_length_le (by omega)]; exact Bytes.empty _ _ _
          have HBY := Lib.hid hby
          refine (piece_calls (wr.alloc _) base d m (wr0 + (i + 31) / 32) w.heap.size (w.heap.size + 1) wr.heap.size k A' (some ⟨br, orr, none⟩) (0 + i) c' (n2 - i) (n2 - i) ([] ++ ys.take i) ((ys.drop i).take (n2 - i)) f' ?_ (HDr.out.chg ((Chg.refl No wr).alloc _) (fun x => x) (fun x => x)) (by omega) (HXa.out.alloc _) (HXb.out.alloc _) (Boxed.new wr _ _) (HOr.out.alloc _) (by simp only [List.length_append, List.length_take]; omega) (hbx.no ((Chg.refl No wr).alloc _)) (by rw [List.length_take, hlr]; omega) (by omega) (by rw [World.size_alloc]; omega) ?_).mono ?_
          · exact hff
          · intro b hb; exact (hbd2 b (hrb b hb)).1
          rintro e w2 ⟨rfl, v', h1', h2', h3', h4'⟩
          obtain ⟨A3, n3, c3, rfl, HL3, HO3⟩ := h2'.form
          have hn3 : n3 = 0 + (i + (n2 - i)) := by have := HL3.out; simp only [List.length_append, List.length_take, List.length_drop] at this; omega
          subst hn3
          have hca : Chg No wr (wr.alloc (Obj.cells #[Value.slice (some ⟨br, orr, none⟩) (n2 - i) (n2 - i)] 22)) := (Chg.refl No wr).alloc _
          have hds : ∀ j, j < w.heap.size → DS d m (.slice A' (0 + i) c') j → DS d m (.slice none 0 0) j := by
            rintro j hj (e | e | e)
            · exact .inl e
            · exact .inr (.inl e)
            · rcases hfr j e.symm with e2 | e2
              · exact .inr (.inr e2.symm)
              · omega
          have hc2 : Chg (DS d m (.slice none 0 0)) w w2 := (HCr.out.no hca).trans h3' hds
          have hcr2 : Chg (DS d m (.slice A' (0 + i) c')) wr w2 := (Chg.mono hca (fun _ _ x => x.elim)).trans h3' (fun _ _ x => x)
          have hnx : ∀ {b : Nat} {t : TypeId} {v : Value}, t ≠ 5 → t ≠ 67 → Boxed wr b t v → ¬ DS d m (.slice A' (0 + i) c') b := by
            rintro b t v ht ht2 hB (e | e | e)
            · subst e; have := (show wr.heap[b]? = _ from hB).symm.trans HDr.out.1; cases this
            · subst e; have := (show wr.heap[b]? = _ from hB).symm.trans HDr.out.2; unfold mapObj at this; split at this <;> cases this
            · exact hB.not_row ht HOr.out e
          have HC2 := Lib.hid hc2
          have HD2 := Lib.hid h1'
          have HX2a := Lib.hid (hcr2.heap HXa.out (hnx (by decide) (by decide) HXa.out))
          have HX2b := Lib.hid (hcr2.heap HXb.out (hnx (by decide) (by decide) HXb.out))
          have HY2 := Lib.hid (HBY.out.chg hcr2 (by
            rintro b hb hbs
            have hb2 := hbd2 b (by first | exact hrb b hb | (cases hb; exact hrb _ rfl))
            rcases hbs with e | e | e
            · exact hb2.1 e
            · exact hb2.2.1 e
            · rcases hfr b e.symm with e2 | e2
              · exact hb2.2.2.1 e2.symm
              · omega))
          have HF2 : From w (.slice none 0 0) (.slice A3 (0 + (i + (n2 - i))) c3) := From.trans hfr (Nat.le_trans HCr.out.size hca.size) h4'
          clear hc2 h1' hcr2 h3' h4' h2' hby hca hbx
          go_wp2
          go_roundw
          case rel =>
            refine ⟨i + (n2 - i), some (k, .slice A3 (0 + (i + (n2 - i))) c3), A3, some ⟨br, orr, none⟩, c3, 0, by omega, congrArg (fun z => Value.slice (some ⟨br, orr, none⟩) z (0)) (by omega), ?_, ?_, ?_, .inl rfl, ?_, ?_, ?_, HC2, HX2a, HX2b, HF2⟩
            · omega
            · have h := HY2.out
              rw [List.drop_drop] at h
              exact (show 0 = n2 - (i + (n2 - i)) by omega) ▸ h
            · intro b hb
              first | exact hrb b hb | (cases hb; exact hrb _ rfl)
            · intro hx; cases hx
            · have h := HD2.out
              exact (show wr0 + (i + 31) / 32 + 1 = wr0 + (i + (n2 - i) + 31) / 32 by omega) ▸ h
            · have h := HO3.out
              rw [List.append_assoc, ← List.take_add] at h
              exact h
          case measure => simp only [intOf]; omega

        · go_wp2_with fail
          have hbx : Bytes wr (.slice (some ⟨br, orr, none⟩) (n2 - i) cr) ((ys.drop i).take (n2 - i)) := by
            have h := Bytes.takeN (k := n2 - i) (m := cr) HBr.out hlr (by omega) (by omega) (Nat.le_refl _)
            exact h
          have hby : Bytes wr (.slice (some ⟨br, orr + (n2 - i), none⟩) 0 (cr - (n2 - i))) ((ys.drop i).drop (n2 - i)) := by rw [List.drop_of_length_le (by omega)]; exact Bytes.empty _ _ _
          have HBY := Lib.hid hby
          refine (piece_calls (wr.alloc _) base d m (wr0 + (i + 31) / 32) w.heap.size (w.heap.size + 1) wr.heap.size k A' (some ⟨br, orr, none⟩) (0 + i) c' (n2 - i) cr ([] ++ ys.take i) ((ys.drop i).take (n2 - i)) f' ?_ (HDr.out.chg ((Chg.refl No wr).alloc _) (fun x => x) (fun x => x)) (by omega) (HXa.out.alloc _) (HXb.out.alloc _) (Boxed.new wr _ _) (HOr.out.alloc _) (by simp only [List.length_append, List.length_take]; omega) (hbx.no ((Chg.refl No wr).alloc _)) (by rw [List.length_take, hlr]; omega) (by omega) (by rw [World.size_alloc]; omega) ?_).mono ?_
          · exact hff
          · intro b hb; exact (hbd2 b (hrb b hb)).1
          rintro e w2 ⟨rfl, v', h1', h2', h3', h4'⟩
          obtain ⟨A3, n3, c3, rfl, HL3, HO3⟩ := h2'.form
          have hn3 : n3 = 0 + (i + (n2 - i)) := by have := HL3.out; simp only [List.length_append, List.length_take, List.length_drop] at this; omega
          subst hn3
          have hca : Chg No wr (wr.alloc (Obj.cells #[Value.slice (some ⟨br, orr, none⟩) (n2 - i) cr] 22)) := (Chg.refl No wr).alloc _
          have hds : ∀ j, j < w.heap.size → DS d m (.slice A' (0 + i) c') j → DS d m (.slice none 0 0) j := by
            rintro j hj (e | e | e)
            · exact .inl e
            · exact .inr (.inl e)
            · rcases hfr j e.symm with e2 | e2
              · exact .inr (.inr e2.symm)
              · omega
          have hc2 : Chg (DS d m (.slice none 0 0)) w w2 := (HCr.out.no hca).trans h3' hds
          have hcr2 : Chg (DS d m (.slice A' (0 + i) c')) wr w2 := (Chg.mono hca (fun _ _ x => x.elim)).trans h3' (fun _ _ x => x)
          have hnx : ∀ {b : Nat} {t : TypeId} {v : Value}, t ≠ 5 → t ≠ 67 → Boxed wr b t v → ¬ DS d m (.slice A' (0 + i) c') b := by
            rintro b t v ht ht2 hB (e | e | e)
            · subst e; have := (show wr.heap[b]? = _ from hB).symm.trans HDr.out.1; cases this
            · subst e; have := (show wr.heap[b]? = _ from hB).symm.trans HDr.out.2; unfold mapObj at this; split at this <;> cases this
            · exact hB.not_row ht HOr.out e
          have HC2 := Lib.hid hc2
          have HD2 := Lib.hid h1'
          have HX2a := Lib.hid (hcr2.heap HXa.out (hnx (by decide) (by decide) HXa.out))
          have HX2b := Lib.hid (hcr2.heap HXb.out (hnx (by decide) (by decide) HXb.out))
          have HY2 := Lib.hid (HBY.out.chg hcr2 (by
            rintro b hb hbs
            have hb2 := hbd2 b (by first | exact hrb b hb | (cases hb; exact hrb _ rfl))
            rcases hbs with e | e | e
            · exact hb2.1 e
            · exact hb2.2.1 e
            · rcases hfr b e.symm with e2 | e2
              · exact hb2.2.2.1 e2.symm
              · omega))
          have HF2 : From w (.slice none 0 0) (.slice A3 (0 + (i + (n2 - i))) c3) := From.trans hfr (Nat.le_trans HCr.out.size hca.size) h4'
          clear hc2 h1' hcr2 h3' h4' h2' hby hca hbx
          go_wp2
          go_roundw
          case rel =>
            refine ⟨i + (n2 - i), some (k, .slice A3 (0 + (i + (n2 - i))) c3), A3, some ⟨br, orr + (n2 - i), none⟩, c3, cr - (n2 - i), by omega, congrArg (fun z => Value.slice (some ⟨br, orr + (n2 - i), none⟩) z (cr - (n2 - i))) (by omega), ?_, ?_, ?_, .inl rfl, ?_, ?_, ?_, HC2, HX2a, HX2b, HF2⟩
            · omega
            · have h := HY2.out
              rw [List.drop_drop] at h
              exact (show 0 = n2 - (i + (n2 - i)) by omega) ▸ h
            · intro b hb
              first | exact hrb b hb | (cases hb; exact hrb _ rfl)
            · intro hx; cases hx
            · have h := HD2.out
              exact (show wr0 + (i + 31) / 32 + 1 = wr0 + (i + (n2 - i) + 31) / 32 by omega) ▸ h
            · have h := HO3.out
              rw [List.append_assoc, ← List.take_add] at h
              exact h
          case measure => simp only [intOf]; omega

      · have t2 : (32 : Int) < ((n2 - i : Nat) : Int) := by omega
        have hcr : ¬ cr = 32 := by omega
        go_wp2_with fail
        have hbx : Bytes wr (.slice (some ⟨br, orr, none⟩) (32) cr) ((ys.drop i).take (32)) := by
          have h := Bytes.takeN (k := 32) (m := cr) HBr.out hlr (by omega) (by omega) (Nat.le_refl _)
          exact h
        have hby : Bytes wr (.slice (some ⟨br, orr + 32, none⟩) (n2 - i - 32) (cr - 32)) ((ys.drop i).drop (32)) := Bytes.tail HBr.out hlr (by omega) (by omega)
        have HBY := Lib.hid hby
        refine (piece_calls (wr.alloc _) base d m (wr0 + (i + 31) / 32) w.heap.size (w.heap.size + 1) wr.heap.size k A' (some ⟨br, orr, none⟩) (0 + i) c' (32) cr ([] ++ ys.take i) ((ys.drop i).take (32)) f' ?_ (HDr.out.chg ((Chg.refl No wr).alloc _) (fun x => x) (fun x => x)) (by omega) (HXa.out.alloc _) (HXb.out.alloc _) (Boxed.new wr _ _) (HOr.out.alloc _) (by simp only [List.length_append, List.length_take]; omega) (hbx.no ((Chg.refl No wr).alloc _)) (by rw [List.length_take, hlr]; omega) (by omega) (by rw [World.size_alloc]; omega) ?_).mono ?_
        · exact hff
        · intro b hb; exact (hbd2 b (hrb b hb)).1
        rintro e w2 ⟨rfl, v', h1', h2', h3', h4'⟩
        obtain ⟨A3, n3, c3, rfl, HL3, HO3⟩ := h2'.form
        have hn3 : n3 = 0 + (i + (32)) := by have := HL3.out; simp only [List.length_append, List.length_take, List.length_drop] at this; omega
        subst hn3
        have hca : Chg No wr (wr.alloc (Obj.cells #[Value.slice (some ⟨br, orr, none⟩) (32) cr] 22)) := (Chg.refl No wr).alloc _
        have hds : ∀ j, j < w.heap.size → DS d m (.slice A' (0 + i) c') j → DS d m (.slice none 0 0) j := by
          rintro j hj (e | e | e)
          · exact .inl e
          · exact .inr (.inl e)
          · rcases hfr j e.symm with e2 | e2
            · exact .inr (.inr e2.symm)
            · omega
        have hc2 : Chg (DS d m (.slice none 0 0)) w w2 := (HCr.out.no hca).trans h3' hds
        have hcr2 : Chg (DS d m (.slice A' (0 + i) c')) wr w2 := (Chg.mono hca (fun _ _ x => x.elim)).trans h3' (fun _ _ x => x)
        have hnx : ∀ {b : Nat} {t : TypeId} {v : Value}, t ≠ 5 → t ≠ 67 → Boxed wr b t v → ¬ DS d m (.slice A' (0 + i) c') b := by
          rintro b t v ht ht2 hB (e | e | e)
          · subst e; have := (show wr.heap[b]? = _ from hB).symm.trans HDr.out.1; cases this
          · subst e; have := (show wr.heap[b]? = _ from hB).symm.trans HDr.out.2; unfold mapObj at this; split at this <;> cases this
          · exact hB.not_row ht HOr.out e
        have HC2 := Lib.hid hc2
        have HD2 := Lib.hid h1'
        have HX2a := Lib.hid (hcr2.heap HXa.out (hnx (by decide) (by decide) HXa.out))
        have HX2b := Lib.hid (hcr2.heap HXb.out (hnx (by decide) (by decide) HXb.out))
        have HY2 := Lib.hid (HBY.out.chg hcr2 (by
          rintro b hb hbs
          have hb2 := hbd2 b (by first | exact hrb b hb | (cases hb; exact hrb _ rfl))
          rcases hbs with e | e | e
          · exact hb2.1 e
          · exact hb2.2.1 e
          · rcases hfr b e.symm with e2 | e2
            · exact hb2.2.2.1 e2.symm
            · omega))
        have HF2 : From w (.slice none 0 0) (.slice A3 (0 + (i + (32))) c3) := From.trans hfr (Nat.le_trans HCr.out.size hca.size) h4'
        clear hc2 h1' hcr2 h3' h4' h2' hby hca hbx
        go_wp2
        go_roundw
        case rel =>
          refine ⟨i + (32), some (k, .slice A3 (0 + (i + (32))) c3), A3, some ⟨br, orr + 32, none⟩, c3, cr - 32, by omega, congrArg (fun z => Value.slice (some ⟨br, orr + 32, none⟩) z (cr - 32)) (by omega), ?_, ?_, ?_, .inl rfl, ?_, ?_, ?_, HC2, HX2a, HX2b, HF2⟩
          · omega
          · have h := HY2.out
            rw [List.drop_drop] at h
            exact (show n2 - i - 32 = n2 - (i + 32) by omega) ▸ h
          · intro b hb
            first | exact hrb b hb | (cases hb; exact hrb _ rfl)
          · intro hx; cases hx
          · have h := HD2.out
            exact (show wr0 + (i + 31) / 32 + 1 = wr0 + (i + (32) + 31) / 32 by omega) ▸ h
          · have h := HO3.out
            rw [List.append_assoc, ← List.take_add] at h
            exact h
        case measure => simp only [intOf]; omega

    · have t1 : ¬ (0 : Int) < ((n2 - i : Nat) : Int) := by omega
      have hin : i = n2 := by omega
      subst hin
      go_wp2
      go_ret
      rcases hff with rfl | ⟨rfl, -⟩
      · refine ⟨rfl, _, HDr.out, ?_, HCr.out, hfr⟩
        have h := HOr.out
        rw [List.take_of_length_le (by omega)] at h
        exact h
      · have := hfi rfl
        omega
end Go.Proofs.Ytbbfjnfmfigcfaa
