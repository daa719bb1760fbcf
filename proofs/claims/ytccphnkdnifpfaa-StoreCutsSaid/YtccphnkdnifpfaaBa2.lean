/-
  J5, J6, J7, Num, Oct7, Oct8, Oct9: in one text.
-/
import Derived.Test.YtccphnkdnifpfaaBa1
import Derived.WalkMore
import Derived.ScopeJumps
import Derived.Deep.RegionLaw
import Derived.Laws.BitsLemmas
import Derived.Laws.Bits64
import Derived.Laws.Wrap64
namespace Go.Proofs.Ytccphnkdnifpfaa
set_option linter.unnecessarySimpa false
open Go.RowKit Go.Shelf
set_option linter.unusedVariables false
set_option linter.unusedSimpArgs false
set_option maxRecDepth 100000

theorem Bytes.takeN {w : World} {A : Option Addr} {n c k m : Nat} {xs : List UInt8} (h : Bytes w (.slice A n c) xs) (hl : xs.length = n) (hk : k ≤ n) (hkm : k ≤ m) (hmc : m ≤ c) :
    Bytes w (.slice A k m) (xs.take k) := by subst hl; exact Bytes.take h hk hkm hmc
theorem Bytes.empty (w : World) (A : Option Addr) (c : Nat) (hc : c ≤ maxLen := by unfold maxLen; omega) : Bytes w (.slice A 0 c) [] := ⟨A, c, rfl, Nat.zero_le _, hc, fun h => by simp at h⟩
theorem Bytes.tail {w : World} {b o n c k : Nat} {xs : List UInt8} (h : Bytes w (.slice (some ⟨b, o, none⟩) n c) xs) (hl : xs.length = n) (hk : k ≤ n) (hkc : c ≠ k) : Bytes w (.slice (some ⟨b, o + k, none⟩) (n - k) (c - k)) (xs.drop k) := by
  subst hl
  have h1 := Bytes.drop h hk
  rw [if_neg hkc] at h1
  simp only [Option.map_some, Addr.add] at h1
  split at h1
  · rename_i h0; subst h0; exact h1
  · exact h1

set_option maxHeartbeats 6400000 in
theorem dappend_more (w : World) (base d m wr0 : Nat) (k : ByteArray) (hmay : ∀ w, Calls Try.prog 87 #[.string k] w fun e w' => e = .returned (.bool true) ∧ Chg No w w') (A A2 : Option Addr) (n c n2 c2 : Nat) (xs ys : List UInt8)
    (h : DiskAt w d m wr0 (some (k, .slice A n c))) (hw : wr0 < 9223372036850000000) (ho : OwnB w base (.slice A n c) xs) (hl : xs.length = n) (hb : Bytes w (.slice A2 n2 c2) ys) (hl2 : ys.length = n2) (hn : n + n2 ≤ 4194304) (hpos : 0 < n2) (hbase : base ≤ w.heap.size)
    (hbd : ∀ b, (Value.slice A2 n2 c2).ownBlock = some b → b ≠ d ∧ b ≠ m ∧ some b ≠ (Value.slice A n c).ownBlock)  :
    Calls Try.prog 61 #[.pointer (some ⟨d, 0, none⟩), .string k, .slice A2 n2 c2] w fun e w' => e = .returned (.int .i64 0) ∧ ∃ v', DiskAt w' d m (wr0 + (n2 + 31) / 32) (some (k, v')) ∧ OwnB w' base v' (xs ++ ys) ∧ Chg (DS d m (.slice A n c)) w w' ∧ From w (.slice A n c) v' := by
  have hbd2 : ∀ b, (Value.slice A2 n2 c2).ownBlock = some b → b ≠ d ∧ b ≠ m ∧ some b ≠ (Value.slice A n c).ownBlock ∧ b < w.heap.size := by
    intro b hb3
    obtain ⟨b3, o3, e3, hcell⟩ := hb.addr (by omega)
    subst e3
    cases hb3
    exact ⟨(hbd _ rfl).1, (hbd _ rfl).2.1, (hbd _ rfl).2.2, World.block_lt_of_cell? w _ (hcell 0 (by omega))⟩
  have HO := Lib.hid ho
  have HL := Lib.hid hl
  have HB := Lib.hid hb
  have HL2 := Lib.hid hl2
  have HD := Lib.hid h
  clear ho hl hb hl2 h hbd
  skip
  go_enter Try.func61, Try.ntmps61
  go_wp2
  go_step3
  go_wp2_with fail
  refine (hmay _).mono ?_
  rintro e w1 ⟨rfl, hc1⟩
  have hx0 : Boxed w1 w.heap.size 24 (.pointer (some ⟨d, 0, none⟩)) := hc1.heap ((Boxed.new w 24 (.pointer (some ⟨d, 0, none⟩))).alloc _) (fun x => x)
  have hx1 : Boxed w1 (w.heap.size + 1) 9 (.string k) := by
    have h0 := Boxed.new (w.alloc (.cells #[.pointer (some ⟨d, 0, none⟩)] 24)) 9 (.string k)
    rw [World.size_alloc] at h0
    exact hc1.heap h0 (fun x => x)
  have hcw : Chg No w w1 := (((Chg.refl No w).alloc _).alloc _).no hc1
  have hD1 := HD.out.chg hcw (fun x => x) (fun x => x)
  obtain ⟨c0, c1, c2', c3, c4⟩ := hD1.cells
  have e0 := hx0.cell
  have e1 := hx1.cell
  have hlk := look_same w1 m k _ hD1.2
  have hlkd := look_same w1.drew m k _ hD1.2
  skip
  have HC1 := Lib.hid hcw
  have HX0 := Lib.hid hx0
  have HX1 := Lib.hid hx1
  have HD1 := Lib.hid hD1
  clear hc1 hcw hx0 hx1 hD1
  have hz : ((n2 : Int) == 0) = false := by rw [beq_eq_false_iff_ne]; omega
  go_wp2
  go_region
  go_wp2
  clear hlk hlkd c0 c1 c2' c3 c4 e0 e1 
  have HC2 : Hid (Chg No w w1.drew) := HC1.out.drew
  have HX2 : Hid (Boxed w1.drew w.heap.size 24 (.pointer (some ⟨d, 0, none⟩))) := HX0.out
  have HX3 : Hid (Boxed w1.drew (w.heap.size + 1) 9 (.string k)) := HX1.out
  have HD2 : Hid (DiskAt w1.drew d m wr0 (some (k, .slice A n c))) := HD1.out
  clear HC1 HX0 HX1 HD1
  go_step3
  go_wp2
  go_loopw [2] (fun b wr' => ∃ (i : Nat) (f' : Option (ByteArray × Value)) (A' : Option Addr) (Ar : Option Addr) (c' cr : Nat), i ≤ n2 ∧ b = .slice Ar (n2 - i) cr ∧ (i < n2 → i % 32 = 0) ∧ Hid (Bytes wr' (.slice Ar (n2 - i) cr) (ys.drop i)) ∧ (∀ b, (Value.slice Ar (n2 - i) cr).ownBlock = some b → (Value.slice A2 n2 c2).ownBlock = some b) ∧ (f' = some (k, .slice A' (n + i) c') ∨ (f' = none ∧ A' = none ∧ n + i = 0 ∧ c' = 0 ∧ xs ++ ys.take i = [])) ∧ (f' = none → i = 0) ∧ Hid (DiskAt wr' d m (wr0 + (i + 31) / 32) f') ∧ Hid (OwnB wr' base (.slice A' (n + i) c') (xs ++ ys.take i)) ∧ Hid (Chg (DS d m (.slice A n c)) w wr') ∧ Hid (Boxed wr' w.heap.size 24 (.pointer (some ⟨d, 0, none⟩))) ∧ Hid (Boxed wr' (w.heap.size + 1) 9 (.string k)) ∧ From w (.slice A n c) (.slice A' (n + i) c')) (fun b _ => match b with | .slice _ n _ => n | _ => 0)
  case atStart =>
    refine ⟨0, (some (k, .slice A n c)), A, A2, c, c2, Nat.zero_le _, rfl, fun _ => rfl, HB.out.no HC2.out, fun b hb => hb, .inl rfl, fun hx => rfl, ?_, ?_, HC2.out.mono (fun _ _ x => x.elim), HX2, HX3, From.refl _ _⟩
    · exact HD2
    · have h := HO.out.chg HC2.out (fun _ _ x => x)
      rw [List.take_zero, List.append_nil]
      exact h
  case round =>
    obtain ⟨i, f', A', Ar, c', cr, hi, rfl, hi32, HBr, hrb, hff, hfi, HDr, HOr, HCr, HXa, HXb, hfr⟩ := hrel
    have ea := HXa.out.cell
    have eb := HXb.out.cell
    have hlr : (ys.drop i).length = n2 - i := by rw [List.length_drop, HL2.out]
    have hlx := HL.out
    have hly := HL2.out
    have hszr := HCr.out.size
    by_cases hlt : i < n2
    · have t1 : (0 : Int) < ((n2 - i : Nat) : Int) := by omega
      have ea' := fun o => ((Chg.refl No wr).alloc o).cell ea (fun x => x)
      have eb' := fun o => ((Chg.refl No wr).alloc o).cell eb (fun x => x)
      have hi0 := hi32 hlt
      have hform : n2 - i ≤ cr ∧ cr ≤ 9223372036854775807 := by
        obtain ⟨A3, c3, h3, h4, h5⟩ := HBr.out.form
        simp only [Value.slice.injEq] at h3
        obtain ⟨-, h6, rfl⟩ := h3
        exact ⟨by omega, h5⟩
      obtain ⟨br, orr, rfl, -⟩ := HBr.out.addr (by omega)
      by_cases hp : n2 - i ≤ 32
      · have t2 : ((n2 - i : Nat) : Int) ≤ 32 := by omega
        by_cases hcr : cr = n2 - i
        · subst hcr
          go_wp2_with fail
          have hbx : Bytes wr (.slice (some ⟨br, orr, none⟩) (n2 - i) (n2 - i)) ((ys.drop i).take (n2 - i)) := by
            have h := Bytes.takeN (k := n2 - i) (m := (n2 - i)) HBr.out hlr (by omega) (by omega) (Nat.le_refl _)
            exact h
          have hby : Bytes wr (.slice (some ⟨br, orr, none⟩) 0 0) ((ys.drop i).drop (n2 - i)) := by rw [List.drop_of_length_le (by omega)]; exact Bytes.empty _ _ _
          have HBY := Lib.hid hby
          refine (piece_calls (wr.alloc _) base d m (wr0 + (i + 31) / 32) w.heap.size (w.heap.size + 1) wr.heap.size k A' (some ⟨br, orr, none⟩) (n + i) c' (n2 - i) (n2 - i) (xs ++ ys.take i) ((ys.drop i).take (n2 - i)) f' ?_ (HDr.out.chg ((Chg.refl No wr).alloc _) (fun x => x) (fun x => x)) (by omega) (HXa.out.alloc _) (HXb.out.alloc _) (Boxed.new wr _ _) (HOr.out.alloc _) (by simp only [List.length_append, List.length_take]; omega) (hbx.no ((Chg.refl No wr).alloc _)) (by rw [List.length_take, hlr]; omega) (by omega) (by rw [World.size_alloc]; omega) ?_).mono ?_
          · exact hff
          · intro b hb; exact (hbd2 b (hrb b hb)).1
          rintro e w2 ⟨rfl, v', h1', h2', h3', h4'⟩
          obtain ⟨A3, n3, c3, rfl, HL3, HO3⟩ := h2'.form
          have hn3 : n3 = n + (i + (n2 - i)) := by have := HL3.out; simp only [List.length_append, List.length_take, List.length_drop] at this; omega
          subst hn3
          have hca : Chg No wr (wr.alloc (Obj.cells #[Value.slice (some ⟨br, orr, none⟩) (n2 - i) (n2 - i)] 30)) := (Chg.refl No wr).alloc _
          have hds : ∀ j, j < w.heap.size → DS d m (.slice A' (n + i) c') j → DS d m (.slice A n c) j := by
            rintro j hj (e | e | e)
            · exact .inl e
            · exact .inr (.inl e)
            · rcases hfr j e.symm with e2 | e2
              · exact .inr (.inr e2.symm)
              · omega
          have hc2 : Chg (DS d m (.slice A n c)) w w2 := (HCr.out.no hca).trans h3' hds
          have hcr2 : Chg (DS d m (.slice A' (n + i) c')) wr w2 := (Chg.mono hca (fun _ _ x => x.elim)).trans h3' (fun _ _ x => x)
          have hnx : ∀ {b : Nat} {t : TypeId} {v : Value}, t ≠ 5 → t ≠ 88 → Boxed wr b t v → ¬ DS d m (.slice A' (n + i) c') b := by
            rintro b t v ht ht2 hB (e | e | e)
            · subst e; have := (show wr.heap[b]? = _ from hB).symm.trans HDr.out.1; cases this
            · subst e; have := (show wr.heap[b]? = _ from hB).symm.trans HDr.out.2; unfold mapObj at this; split at this <;> cases this
            · exact hB.not_row ht HOr.out e
          have HC2 := Lib.hid hc2
          have HD2 := Lib.hid h1'
          have HX2a := Lib.hid (hcr2.heap HXa.out (hnx (by decide) (by decide) HXa.out))
          have HX2b := Lib.hid (hcr2.heap HXb.out (hnx (by decide) (by decide) HXb.out))
          have HY2 := Lib.hid (HBY.out.chg hcr2 (by
            rintro b hb hbs
            have hb2 := hbd2 b (by first | exact hrb b hb | (cases hb; exact hrb _ rfl))
            rcases hbs with e | e | e
            · exact hb2.1 e
            · exact hb2.2.1 e
            · rcases hfr b e.symm with e2 | e2
              · exact hb2.2.2.1 e2.symm
              · omega))
          have HF2 : From w (.slice A n c) (.slice A3 (n + (i + (n2 - i))) c3) := From.trans hfr (Nat.le_trans HCr.out.size hca.size) h4'
          clear hc2 h1' hcr2 h3' h4' h2' hby hca hbx
          go_wp2
          go_roundw
          case rel =>
            refine ⟨i + (n2 - i), some (k, .slice A3 (n + (i + (n2 - i))) c3), A3, some ⟨br, orr, none⟩, c3, 0, by omega, congrArg (fun z => Value.slice (some ⟨br, orr, none⟩) z (0)) (by omega), ?_, ?_, ?_, .inl rfl, ?_, ?_, ?_, HC2, HX2a, HX2b, HF2⟩
            · omega
            · have h := HY2.out
              rw [List.drop_drop] at h
              exact (show 0 = n2 - (i + (n2 - i)) by omega) ▸ h
            · intro b hb
              first | exact hrb b hb | (cases hb; exact hrb _ rfl)
            · intro hx; cases hx
            · have h := HD2.out
              exact (show wr0 + (i + 31) / 32 + 1 = wr0 + (i + (n2 - i) + 31) / 32 by omega) ▸ h
            · have h := HO3.out
              rw [List.append_assoc, ← List.take_add] at h
              exact h
          case measure => simp only [intOf]; omega

        · go_wp2_with fail
          have hbx : Bytes wr (.slice (some ⟨br, orr, none⟩) (n2 - i) cr) ((ys.drop i).take (n2 - i)) := by
            have h := Bytes.takeN (k := n2 - i) (m := cr) HBr.out hlr (by omega) (by omega) (Nat.le_refl _)
            exact h
          have hby : Bytes wr (.slice (some ⟨br, orr + (n2 - i), none⟩) 0 (cr - (n2 - i))) ((ys.drop i).drop (n2 - i)) := by rw [List.drop_of_length_le (by omega)]; exact Bytes.empty _ _ _
          have HBY := Lib.hid hby
          refine (piece_calls (wr.alloc _) base d m (wr0 + (i + 31) / 32) w.heap.size (w.heap.size + 1) wr.heap.size k A' (some ⟨br, orr, none⟩) (n + i) c' (n2 - i) cr (xs ++ ys.take i) ((ys.drop i).take (n2 - i)) f' ?_ (HDr.out.chg ((Chg.refl No wr).alloc _) (fun x => x) (fun x => x)) (by omega) (HXa.out.alloc _) (HXb.out.alloc _) (Boxed.new wr _ _) (HOr.out.alloc _) (by simp only [List.length_append, List.length_take]; omega) (hbx.no ((Chg.refl No wr).alloc _)) (by rw [List.length_take, hlr]; omega) (by omega) (by rw [World.size_alloc]; omega) ?_).mono ?_
          · exact hff
          · intro b hb; exact (hbd2 b (hrb b hb)).1
          rintro e w2 ⟨rfl, v', h1', h2', h3', h4'⟩
          obtain ⟨A3, n3, c3, rfl, HL3, HO3⟩ := h2'.form
          have hn3 : n3 = n + (i + (n2 - i)) := by have := HL3.out; simp only [List.length_append, List.length_take, List.length_drop] at this; omega
          subst hn3
          have hca : Chg No wr (wr.alloc (Obj.cells #[Value.slice (some ⟨br, orr, none⟩) (n2 - i) cr] 30)) := (Chg.refl No wr).alloc _
          have hds : ∀ j, j < w.heap.size → DS d m (.slice A' (n + i) c') j → DS d m (.slice A n c) j := by
            rintro j hj (e | e | e)
            · exact .inl e
            · exact .inr (.inl e)
            · rcases hfr j e.symm with e2 | e2
              · exact .inr (.inr e2.symm)
              · omega
          have hc2 : Chg (DS d m (.slice A n c)) w w2 := (HCr.out.no hca).trans h3' hds
          have hcr2 : Chg (DS d m (.slice A' (n + i) c')) wr w2 := (Chg.mono hca (fun _ _ x => x.elim)).trans h3' (fun _ _ x => x)
          have hnx : ∀ {b : Nat} {t : TypeId} {v : Value}, t ≠ 5 → t ≠ 88 → Boxed wr b t v → ¬ DS d m (.slice A' (n + i) c') b := by
            rintro b t v ht ht2 hB (e | e | e)
            · subst e; have := (show wr.heap[b]? = _ from hB).symm.trans HDr.out.1; cases this
            · subst e; have := (show wr.heap[b]? = _ from hB).symm.trans HDr.out.2; unfold mapObj at this; split at this <;> cases this
            · exact hB.not_row ht HOr.out e
          have HC2 := Lib.hid hc2
          have HD2 := Lib.hid h1'
          have HX2a := Lib.hid (hcr2.heap HXa.out (hnx (by decide) (by decide) HXa.out))
          have HX2b := Lib.hid (hcr2.heap HXb.out (hnx (by decide) (by decide) HXb.out))
          have HY2 := Lib.hid (HBY.out.chg hcr2 (by
            rintro b hb hbs
            have hb2 := hbd2 b (by first | exact hrb b hb | (cases hb; exact hrb _ rfl))
            rcases hbs with e | e | e
            · exact hb2.1 e
            · exact hb2.2.1 e
            · rcases hfr b e.symm with e2 | e2
              · exact hb2.2.2.1 e2.symm
              · omega))
          have HF2 : From w (.slice A n c) (.slice A3 (n + (i + (n2 - i))) c3) := From.trans hfr (Nat.le_trans HCr.out.size hca.size) h4'
          clear hc2 h1' hcr2 h3' h4' h2' hby hca hbx
          go_wp2
          go_roundw
          case rel =>
            refine ⟨i + (n2 - i), some (k, .slice A3 (n + (i + (n2 - i))) c3), A3, some ⟨br, orr + (n2 - i), none⟩, c3, cr - (n2 - i), by omega, congrArg (fun z => Value.slice (some ⟨br, orr + (n2 - i), none⟩) z (cr - (n2 - i))) (by omega), ?_, ?_, ?_, .inl rfl, ?_, ?_, ?_, HC2, HX2a, HX2b, HF2⟩
            · omega
            · have h := HY2.out
              rw [List.drop_drop] at h
              exact (show 0 = n2 - (i + (n2 - i)) by omega) ▸ h
            · intro b hb
              first | exact hrb b hb | (cases hb; exact hrb _ rfl)
            · intro hx; cases hx
            · have h := HD2.out
              exact (show wr0 + (i + 31) / 32 + 1 = wr0 + (i + (n2 - i) + 31) / 32 by omega) ▸ h
            · have h := HO3.out
              rw [List.append_assoc, ← List.take_add] at h
              exact h
          case measure => simp only [intOf]; omega

      · have t2 : (32 : Int) < ((n2 - i : Nat) : Int) := by omega
        have hcr : ¬ cr = 32 := by omega
        go_wp2_with fail
        have hbx : Bytes wr (.slice (some ⟨br, orr, none⟩) (32) cr) ((ys.drop i).take (32)) := by
          have h := Bytes.takeN (k := 32) (m := cr) HBr.out hlr (by omega) (by omega) (Nat.le_refl _)
          exact h
        have hby : Bytes wr (.slice (some ⟨br, orr + 32, none⟩) (n2 - i - 32) (cr - 32)) ((ys.drop i).drop (32)) := Bytes.tail HBr.out hlr (by omega) (by omega)
        have HBY := Lib.hid hby
        refine (piece_calls (wr.alloc _) base d m (wr0 + (i + 31) / 32) w.heap.size (w.heap.size + 1) wr.heap.size k A' (some ⟨br, orr, none⟩) (n + i) c' (32) cr (xs ++ ys.take i) ((ys.drop i).take (32)) f' ?_ (HDr.out.chg ((Chg.refl No wr).alloc _) (fun x => x) (fun x => x)) (by omega) (HXa.out.alloc _) (HXb.out.alloc _) (Boxed.new wr _ _) (HOr.out.alloc _) (by simp only [List.length_append, List.length_take]; omega) (hbx.no ((Chg.refl No wr).alloc _)) (by rw [List.length_take, hlr]; omega) (by omega) (by rw [World.size_alloc]; omega) ?_).mono ?_
        · exact hff
        · intro b hb; exact (hbd2 b (hrb b hb)).1
        rintro e w2 ⟨rfl, v', h1', h2', h3', h4'⟩
        obtain ⟨A3, n3, c3, rfl, HL3, HO3⟩ := h2'.form
        have hn3 : n3 = n + (i + (32)) := by have := HL3.out; simp only [List.length_append, List.length_take, List.length_drop] at this; omega
        subst hn3
        have hca : Chg No wr (wr.alloc (Obj.cells #[Value.slice (some ⟨br, orr, none⟩) (32) cr] 30)) := (Chg.refl No wr).alloc _
        have hds : ∀ j, j < w.heap.size → DS d m (.slice A' (n + i) c') j → DS d m (.slice A n c) j := by
          rintro j hj (e | e | e)
          · exact .inl e
          · exact .inr (.inl e)
          · rcases hfr j e.symm with e2 | e2
            · exact .inr (.inr e2.symm)
            · omega
        have hc2 : Chg (DS d m (.slice A n c)) w w2 := (HCr.out.no hca).trans h3' hds
        have hcr2 : Chg (DS d m (.slice A' (n + i) c')) wr w2 := (Chg.mono hca (fun _ _ x => x.elim)).trans h3' (fun _ _ x => x)
        have hnx : ∀ {b : Nat} {t : TypeId} {v : Value}, t ≠ 5 → t ≠ 88 → Boxed wr b t v → ¬ DS d m (.slice A' (n + i) c') b := by
          rintro b t v ht ht2 hB (e | e | e)
          · subst e; have := (show wr.heap[b]? = _ from hB).symm.trans HDr.out.1; cases this
          · subst e; have := (show wr.heap[b]? = _ from hB).symm.trans HDr.out.2; unfold mapObj at this; split at this <;> cases this
          · exact hB.not_row ht HOr.out e
        have HC2 := Lib.hid hc2
        have HD2 := Lib.hid h1'
        have HX2a := Lib.hid (hcr2.heap HXa.out (hnx (by decide) (by decide) HXa.out))
        have HX2b := Lib.hid (hcr2.heap HXb.out (hnx (by decide) (by decide) HXb.out))
        have HY2 := Lib.hid (HBY.out.chg hcr2 (by
          rintro b hb hbs
          have hb2 := hbd2 b (by first | exact hrb b hb | (cases hb; exact hrb _ rfl))
          rcases hbs with e | e | e
          · exact hb2.1 e
          · exact hb2.2.1 e
          · rcases hfr b e.symm with e2 | e2
            · exact hb2.2.2.1 e2.symm
            · omega))
        have HF2 : From w (.slice A n c) (.slice A3 (n + (i + (32))) c3) := From.trans hfr (Nat.le_trans HCr.out.size hca.size) h4'
        clear hc2 h1' hcr2 h3' h4' h2' hby hca hbx
        go_wp2
        go_roundw
        case rel =>
          refine ⟨i + (32), some (k, .slice A3 (n + (i + (32))) c3), A3, some ⟨br, orr + 32, none⟩, c3, cr - 32, by omega, congrArg (fun z => Value.slice (some ⟨br, orr + 32, none⟩) z (cr - 32)) (by omega), ?_, ?_, ?_, .inl rfl, ?_, ?_, ?_, HC2, HX2a, HX2b, HF2⟩
          · omega
          · have h := HY2.out
            rw [List.drop_drop] at h
            exact (show n2 - i - 32 = n2 - (i + 32) by omega) ▸ h
          · intro b hb
            first | exact hrb b hb | (cases hb; exact hrb _ rfl)
          · intro hx; cases hx
          · have h := HD2.out
            exact (show wr0 + (i + 31) / 32 + 1 = wr0 + (i + (32) + 31) / 32 by omega) ▸ h
          · have h := HO3.out
            rw [List.append_assoc, ← List.take_add] at h
            exact h
        case measure => simp only [intOf]; omega

    · have t1 : ¬ (0 : Int) < ((n2 - i : Nat) : Int) := by omega
      have hin : i = n2 := by omega
      subst hin
      go_wp2
      go_ret
      rcases hff with rfl | ⟨rfl, -⟩
      · refine ⟨rfl, _, HDr.out, ?_, HCr.out, hfr⟩
        have h := HOr.out
        rw [List.take_of_length_le (by omega)] at h
        exact h
      · have := hfi rfl
        omega

set_option maxHeartbeats 6400000 in
theorem dappend_first (w : World) (base d m wr0 : Nat) (k : ByteArray) (hmay : ∀ w, Calls Try.prog 87 #[.string k] w fun e w' => e = .returned (.bool true) ∧ Chg No w w') (A2 : Option Addr) (n2 c2 : Nat) (ys : List UInt8)
    (h : DiskAt w d m wr0 none) (hw : wr0 < 9223372036850000000) (hb : Bytes w (.slice A2 n2 c2) ys) (hl2 : ys.length = n2) (hn : n2 ≤ 4194304) (hpos : 0 < n2) (hbase : base ≤ w.heap.size)
    (hbd : ∀ b, (Value.slice A2 n2 c2).ownBlock = some b → b ≠ d ∧ b ≠ m ∧ some b ≠ (Value.slice none 0 0).ownBlock) :
    Calls Try.prog 61 #[.pointer (some ⟨d, 0, none⟩), .string k, .slice A2 n2 c2] w fun e w' => e = .returned (.int .i64 0) ∧ ∃ v', DiskAt w' d m (wr0 + (n2 + 31) / 32) (some (k, v')) ∧ OwnB w' base v' ([] ++ ys) ∧ Chg (DS d m (.slice none 0 0)) w w' ∧ From w (.slice none 0 0) v' := by
  have hbd2 : ∀ b, (Value.slice A2 n2 c2).ownBlock = some b → b ≠ d ∧ b ≠ m ∧ some b ≠ (Value.slice none 0 0).ownBlock ∧ b < w.heap.size := by
    intro b hb3
    obtain ⟨b3, o3, e3, hcell⟩ := hb.addr (by omega)
    subst e3
    cases hb3
    exact ⟨(hbd _ rfl).1, (hbd _ rfl).2.1, (hbd _ rfl).2.2, World.block_lt_of_cell? w _ (hcell 0 (by omega))⟩
  have HO : Hid (OwnB w base (.slice none 0 0) []) := World.ownsRow_nil _ _ _ _
  have HL : Hid (([] : List UInt8).length = 0) := rfl
  have HB := Lib.hid hb
  have HL2 := Lib.hid hl2
  have HD := Lib.hid h
  clear hb hl2 h hbd
  go_enter Try.func61, Try.ntmps61
  go_wp2
  go_step3
  go_wp2_with fail
  refine (hmay _).mono ?_
  rintro e w1 ⟨rfl, hc1⟩
  have hx0 : Boxed w1 w.heap.size 24 (.pointer (some ⟨d, 0, none⟩)) := hc1.heap ((Boxed.new w 24 (.pointer (some ⟨d, 0, none⟩))).alloc _) (fun x => x)
  have hx1 : Boxed w1 (w.heap.size + 1) 9 (.string k) := by
    have h0 := Boxed.new (w.alloc (.cells #[.pointer (some ⟨d, 0, none⟩)] 24)) 9 (.string k)
    rw [World.size_alloc] at h0
    exact hc1.heap h0 (fun x => x)
  have hcw : Chg No w w1 := (((Chg.refl No w).alloc _).alloc _).no hc1
  have hD1 := HD.out.chg hcw (fun x => x) (fun x => x)
  obtain ⟨c0, c1, c2', c3, c4⟩ := hD1.cells
  have e0 := hx0.cell
  have e1 := hx1.cell
  have hlk := look_none w1 m k hD1.2
  have hlkd := look_none w1.drew m k hD1.2
  have hmp := run_len_map (P := Try.prog) (w := w1.drew) 86 3 m #[] 0 (Try.underlying86) hD1.2
  have HC1 := Lib.hid hcw
  have HX0 := Lib.hid hx0
  have HX1 := Lib.hid hx1
  have HD1 := Lib.hid hD1
  clear hc1 hcw hx0 hx1 hD1
  have hz : ((n2 : Int) == 0) = false := by rw [beq_eq_false_iff_ne]; omega
  go_wp2
  go_region
  go_wp2
  clear hlk hlkd c0 c1 c2' c3 c4 e0 e1 hmp
  have HC2 : Hid (Chg No w w1.drew) := HC1.out.drew
  have HX2 : Hid (Boxed w1.drew w.heap.size 24 (.pointer (some ⟨d, 0, none⟩))) := HX0.out
  have HX3 : Hid (Boxed w1.drew (w.heap.size + 1) 9 (.string k)) := HX1.out
  have HD2 : Hid (DiskAt w1.drew d m wr0 none) := HD1.out
  clear HC1 HX0 HX1 HD1
  go_step3
  go_wp2
  go_loopw [2] (fun b wr' => ∃ (i : Nat) (f' : Option (ByteArray × Value)) (A' : Option Addr) (Ar : Option Addr) (c' cr : Nat), i ≤ n2 ∧ b = .slice Ar (n2 - i) cr ∧ (i < n2 → i % 32 = 0) ∧ Hid (Bytes wr' (.slice Ar (n2 - i) cr) (ys.drop i)) ∧ (∀ b, (Value.slice Ar (n2 - i) cr).ownBlock = some b → (Value.slice A2 n2 c2).ownBlock = some b) ∧ (f' = some (k, .slice A' (0 + i) c') ∨ (f' = none ∧ A' = none ∧ 0 + i = 0 ∧ c' = 0 ∧ [] ++ ys.take i = [])) ∧ (f' = none → i = 0) ∧ Hid (DiskAt wr' d m (wr0 + (i + 31) / 32) f') ∧ Hid (OwnB wr' base (.slice A' (0 + i) c') ([] ++ ys.take i)) ∧ Hid (Chg (DS d m (.slice none 0 0)) w wr') ∧ Hid (Boxed wr' w.heap.size 24 (.pointer (some ⟨d, 0, none⟩))) ∧ Hid (Boxed wr' (w.heap.size + 1) 9 (.string k)) ∧ From w (.slice none 0 0) (.slice A' (0 + i) c')) (fun b _ => match b with | .slice _ n _ => n | _ => 0)
  case atStart =>
    refine ⟨0, none, none, A2, 0, c2, Nat.zero_le _, rfl, fun _ => rfl, HB.out.no HC2.out, fun b hb => hb, .inr ⟨rfl, rfl, rfl, rfl, rfl⟩, fun hx => rfl, ?_, ?_, HC2.out.mono (fun _ _ x => x.elim), HX2, HX3, From.refl _ _⟩
    · exact HD2
    · have h := HO.out.chg HC2.out (fun _ _ x => x)
      rw [List.take_zero, List.append_nil]
      exact h
  case round =>
    obtain ⟨i, f', A', Ar, c', cr, hi, rfl, hi32, HBr, hrb, hff, hfi, HDr, HOr, HCr, HXa, HXb, hfr⟩ := hrel
    have ea := HXa.out.cell
    have eb := HXb.out.cell
    have hlr : (ys.drop i).length = n2 - i := by rw [List.length_drop, HL2.out]
    have hlx := HL.out
    have hly := HL2.out
    have hszr := HCr.out.size
    by_cases hlt : i < n2
    · have t1 : (0 : Int) < ((n2 - i : Nat) : Int) := by omega
      have ea' := fun o => ((Chg.refl No wr).alloc o).cell ea (fun x => x)
      have eb' := fun o => ((Chg.refl No wr).alloc o).cell eb (fun x => x)
      have hi0 := hi32 hlt
      have hform : n2 - i ≤ cr ∧ cr ≤ 9223372036854775807 := by
        obtain ⟨A3, c3, h3, h4, h5⟩ := HBr.out.form
        simp only [Value.slice.injEq] at h3
        obtain ⟨-, h6, rfl⟩ := h3
        exact ⟨by omega, h5⟩
      obtain ⟨br, orr, rfl, -⟩ := HBr.out.addr (by omega)
      by_cases hp : n2 - i ≤ 32
      · have t2 : ((n2 - i : Nat) : Int) ≤ 32 := by omega
        by_cases hcr : cr = n2 - i
        · subst hcr
          go_wp2_with fail
          have hbx : Bytes wr (.slice (some ⟨br, orr, none⟩) (n2 - i) (n2 - i)) ((ys.drop i).take (n2 - i)) := by
            have h := Bytes.takeN (k := n2 - i) (m := (n2 - i)) HBr.out hlr (by omega) (by omega) (Nat.le_refl _)
            exact h
          have hby : Bytes wr (.slice (some ⟨br, orr, none⟩) 0 0) ((ys.drop i).drop (n2 - i)) := by rw [List.drop_of_length_le (by omega)]; exact Bytes.empty _ _ _
          have HBY := Lib.hid hby
          refine (piece_calls (wr.alloc _) base d m (wr0 + (i + 31) / 32) w.heap.size (w.heap.size + 1) wr.heap.size k A' (some ⟨br, orr, none⟩) (0 + i) c' (n2 - i) (n2 - i) ([] ++ ys.take i) ((ys.drop i).take (n2 - i)) f' ?_ (HDr.out.chg ((Chg.refl No wr).alloc _) (fun x => x) (fun x => x)) (by omega) (HXa.out.alloc _) (HXb.out.alloc _) (Boxed.new wr _ _) (HOr.out.alloc _) (by simp only [List.length_append, List.length_take]; omega) (hbx.no ((Chg.refl No wr).alloc _)) (by rw [List.length_take, hlr]; omega) (by omega) (by rw [World.size_alloc]; omega) ?_).mono ?_
          · exact hff
          · intro b hb; exact (hbd2 b (hrb b hb)).1
          rintro e w2 ⟨rfl, v', h1', h2', h3', h4'⟩
          obtain ⟨A3, n3, c3, rfl, HL3, HO3⟩ := h2'.form
          have hn3 : n3 = 0 + (i + (n2 - i)) := by have := HL3.out; simp only [List.length_append, List.length_take, List.length_drop] at this; omega
          subst hn3
          have hca : Chg No wr (wr.alloc (Obj.cells #[Value.slice (some ⟨br, orr, none⟩) (n2 - i) (n2 - i)] 30)) := (Chg.refl No wr).alloc _
          have hds : ∀ j, j < w.heap.size → DS d m (.slice A' (0 + i) c') j → DS d m (.slice none 0 0) j := by
            rintro j hj (e | e | e)
            · exact .inl e
            · exact .inr (.inl e)
            · rcases hfr j e.symm with e2 | e2
              · exact .inr (.inr e2.symm)
              · omega
          have hc2 : Chg (DS d m (.slice none 0 0)) w w2 := (HCr.out.no hca).trans h3' hds
          have hcr2 : Chg (DS d m (.slice A' (0 + i) c')) wr w2 := (Chg.mono hca (fun _ _ x => x.elim)).trans h3' (fun _ _ x => x)
          have hnx : ∀ {b : Nat} {t : TypeId} {v : Value}, t ≠ 5 → t ≠ 88 → Boxed wr b t v → ¬ DS d m (.slice A' (0 + i) c') b := by
            rintro b t v ht ht2 hB (e | e | e)
            · subst e; have := (show wr.heap[b]? = _ from hB).symm.trans HDr.out.1; cases this
            · subst e; have := (show wr.heap[b]? = _ from hB).symm.trans HDr.out.2; unfold mapObj at this; split at this <;> cases this
            · exact hB.not_row ht HOr.out e
          have HC2 := Lib.hid hc2
          have HD2 := Lib.hid h1'
          have HX2a := Lib.hid (hcr2.heap HXa.out (hnx (by decide) (by decide) HXa.out))
          have HX2b := Lib.hid (hcr2.heap HXb.out (hnx (by decide) (by decide) HXb.out))
          have HY2 := Lib.hid (HBY.out.chg hcr2 (by
            rintro b hb hbs
            have hb2 := hbd2 b (by first | exact hrb b hb | (cases hb; exact hrb _ rfl))
            rcases hbs with e | e | e
            · exact hb2.1 e
            · exact hb2.2.1 e
            · rcases hfr b e.symm with e2 | e2
              · exact hb2.2.2.1 e2.symm
              · omega))
          have HF2 : From w (.slice none 0 0) (.slice A3 (0 + (i + (n2 - i))) c3) := From.trans hfr (Nat.le_trans HCr.out.size hca.size) h4'
          clear hc2 h1' hcr2 h3' h4' h2' hby hca hbx
          go_wp2
          go_roundw
          case rel =>
            refine ⟨i + (n2 - i), some (k, .slice A3 (0 + (i + (n2 - i))) c3), A3, some ⟨br, orr, none⟩, c3, 0, by omega, congrArg (fun z => Value.slice (some ⟨br, orr, none⟩) z (0)) (by omega), ?_, ?_, ?_, .inl rfl, ?_, ?_, ?_, HC2, HX2a, HX2b, HF2⟩
            · omega
            · have h := HY2.out
              rw [List.drop_drop] at h
              exact (show 0 = n2 - (i + (n2 - i)) by omega) ▸ h
            · intro b hb
              first | exact hrb b hb | (cases hb; exact hrb _ rfl)
            · intro hx; cases hx
            · have h := HD2.out
              exact (show wr0 + (i + 31) / 32 + 1 = wr0 + (i + (n2 - i) + 31) / 32 by omega) ▸ h
            · have h := HO3.out
              rw [List.append_assoc, ← List.take_add] at h
              exact h
          case measure => simp only [intOf]; omega

        · go_wp2_with fail
          have hbx : Bytes wr (.slice (some ⟨br, orr, none⟩) (n2 - i) cr) ((ys.drop i).take (n2 - i)) := by
            have h := Bytes.takeN (k := n2 - i) (m := cr) HBr.out hlr (by omega) (by omega) (Nat.le_refl _)
            exact h
          have hby : Bytes wr (.slice (some ⟨br, orr + (n2 - i), none⟩) 0 (cr - (n2 - i))) ((ys.drop i).drop (n2 - i)) := by rw [List.drop_of_length_le (by omega)]; exact Bytes.empty _ _ _
          have HBY := Lib.hid hby
          refine (piece_calls (wr.alloc _) base d m (wr0 + (i + 31) / 32) w.heap.size (w.heap.size + 1) wr.heap.size k A' (some ⟨br, orr, none⟩) (0 + i) c' (n2 - i) cr ([] ++ ys.take i) ((ys.drop i).take (n2 - i)) f' ?_ (HDr.out.chg ((Chg.refl No wr).alloc _) (fun x => x) (fun x => x)) (by omega) (HXa.out.alloc _) (HXb.out.alloc _) (Boxed.new wr _ _) (HOr.out.alloc _) (by simp only [List.length_append, List.length_take]; omega) (hbx.no ((Chg.refl No wr).alloc _)) (by rw [List.length_take, hlr]; omega) (by omega) (by rw [World.size_alloc]; omega) ?_).mono ?_
          · exact hff
          · intro b hb; exact (hbd2 b (hrb b hb)).1
          rintro e w2 ⟨rfl, v', h1', h2', h3', h4'⟩
          obtain ⟨A3, n3, c3, rfl, HL3, HO3⟩ := h2'.form
          have hn3 : n3 = 0 + (i + (n2 - i)) := by have := HL3.out; simp only [List.length_append, List.length_take, List.length_drop] at this; omega
          subst hn3
          have hca : Chg No wr (wr.alloc (Obj.cells #[Value.slice (some ⟨br, orr, none⟩) (n2 - i) cr] 30)) := (Chg.refl No wr).alloc _
          have hds : ∀ j, j < w.heap.size → DS d m (.slice A' (0 + i) c') j → DS d m (.slice none 0 0) j := by
            rintro j hj (e | e | e)
            · exact .inl e
            · exact .inr (.inl e)
            · rcases hfr j e.symm with e2 | e2
              · exact .inr (.inr e2.symm)
              · omega
          have hc2 : Chg (DS d m (.slice none 0 0)) w w2 := (HCr.out.no hca).trans h3' hds
          have hcr2 : Chg (DS d m (.slice A' (0 + i) c')) wr w2 := (Chg.mono hca (fun _ _ x => x.elim)).trans h3' (fun _ _ x => x)
          have hnx : ∀ {b : Nat} {t : TypeId} {v : Value}, t ≠ 5 → t ≠ 88 → Boxed wr b t v → ¬ DS d m (.slice A' (0 + i) c') b := by
            rintro b t v ht ht2 hB (e | e | e)
            · subst e; have := (show wr.heap[b]? = _ from hB).symm.trans HDr.out.1; cases this
            · subst e; have := (show wr.heap[b]? = _ from hB).symm.trans HDr.out.2; unfold mapObj at this; split at this <;> cases this
            · exact hB.not_row ht HOr.out e
          have HC2 := Lib.hid hc2
          have HD2 := Lib.hid h1'
          have HX2a := Lib.hid (hcr2.heap HXa.out (hnx (by decide) (by decide) HXa.out))
          have HX2b := Lib.hid (hcr2.heap HXb.out (hnx (by decide) (by decide) HXb.out))
          have HY2 := Lib.hid (HBY.out.chg hcr2 (by
            rintro b hb hbs
            have hb2 := hbd2 b (by first | exact hrb b hb | (cases hb; exact hrb _ rfl))
            rcases hbs with e | e | e
            · exact hb2.1 e
            · exact hb2.2.1 e
            · rcases hfr b e.symm with e2 | e2
              · exact hb2.2.2.1 e2.symm
              · omega))
          have HF2 : From w (.slice none 0 0) (.slice A3 (0 + (i + (n2 - i))) c3) := From.trans hfr (Nat.le_trans HCr.out.size hca.size) h4'
          clear hc2 h1' hcr2 h3' h4' h2' hby hca hbx
          go_wp2
          go_roundw
          case rel =>
            refine ⟨i + (n2 - i), some (k, .slice A3 (0 + (i + (n2 - i))) c3), A3, some ⟨br, orr + (n2 - i), none⟩, c3, cr - (n2 - i), by omega, congrArg (fun z => Value.slice (some ⟨br, orr + (n2 - i), none⟩) z (cr - (n2 - i))) (by omega), ?_, ?_, ?_, .inl rfl, ?_, ?_, ?_, HC2, HX2a, HX2b, HF2⟩
            · omega
            · have h := HY2.out
              rw [List.drop_drop] at h
              exact (show 0 = n2 - (i + (n2 - i)) by omega) ▸ h
            · intro b hb
              first | exact hrb b hb | (cases hb; exact hrb _ rfl)
            · intro hx; cases hx
            · have h := HD2.out
              exact (show wr0 + (i + 31) / 32 + 1 = wr0 + (i + (n2 - i) + 31) / 32 by omega) ▸ h
            · have h := HO3.out
              rw [List.append_assoc, ← List.take_add] at h
              exact h
          case measure => simp only [intOf]; omega

      · have t2 : (32 : Int) < ((n2 - i : Nat) : Int) := by omega
        have hcr : ¬ cr = 32 := by omega
        go_wp2_with fail
        have hbx : Bytes wr (.slice (some ⟨br, orr, none⟩) (32) cr) ((ys.drop i).take (32)) := by
          have h := Bytes.takeN (k := 32) (m := cr) HBr.out hlr (by omega) (by omega) (Nat.le_refl _)
          exact h
        have hby : Bytes wr (.slice (some ⟨br, orr + 32, none⟩) (n2 - i - 32) (cr - 32)) ((ys.drop i).drop (32)) := Bytes.tail HBr.out hlr (by omega) (by omega)
        have HBY := Lib.hid hby
        refine (piece_calls (wr.alloc _) base d m (wr0 + (i + 31) / 32) w.heap.size (w.heap.size + 1) wr.heap.size k A' (some ⟨br, orr, none⟩) (0 + i) c' (32) cr ([] ++ ys.take i) ((ys.drop i).take (32)) f' ?_ (HDr.out.chg ((Chg.refl No wr).alloc _) (fun x => x) (fun x => x)) (by omega) (HXa.out.alloc _) (HXb.out.alloc _) (Boxed.new wr _ _) (HOr.out.alloc _) (by simp only [List.length_append, List.length_take]; omega) (hbx.no ((Chg.refl No wr).alloc _)) (by rw [List.length_take, hlr]; omega) (by omega) (by rw [World.size_alloc]; omega) ?_).mono ?_
        · exact hff
        · intro b hb; exact (hbd2 b (hrb b hb)).1
        rintro e w2 ⟨rfl, v', h1', h2', h3', h4'⟩
        obtain ⟨A3, n3, c3, rfl, HL3, HO3⟩ := h2'.form
        have hn3 : n3 = 0 + (i + (32)) := by have := HL3.out; simp only [List.length_append, List.length_take, List.length_drop] at this; omega
        subst hn3
        have hca : Chg No wr (wr.alloc (Obj.cells #[Value.slice (some ⟨br, orr, none⟩) (32) cr] 30)) := (Chg.refl No wr).alloc _
        have hds : ∀ j, j < w.heap.size → DS d m (.slice A' (0 + i) c') j → DS d m (.slice none 0 0) j := by
          rintro j hj (e | e | e)
          · exact .inl e
          · exact .inr (.inl e)
          · rcases hfr j e.symm with e2 | e2
            · exact .inr (.inr e2.symm)
            · omega
        have hc2 : Chg (DS d m (.slice none 0 0)) w w2 := (HCr.out.no hca).trans h3' hds
        have hcr2 : Chg (DS d m (.slice A' (0 + i) c')) wr w2 := (Chg.mono hca (fun _ _ x => x.elim)).trans h3' (fun _ _ x => x)
        have hnx : ∀ {b : Nat} {t : TypeId} {v : Value}, t ≠ 5 → t ≠ 88 → Boxed wr b t v → ¬ DS d m (.slice A' (0 + i) c') b := by
          rintro b t v ht ht2 hB (e | e | e)
          · subst e; have := (show wr.heap[b]? = _ from hB).symm.trans HDr.out.1; cases this
          · subst e; have := (show wr.heap[b]? = _ from hB).symm.trans HDr.out.2; unfold mapObj at this; split at this <;> cases this
          · exact hB.not_row ht HOr.out e
        have HC2 := Lib.hid hc2
        have HD2 := Lib.hid h1'
        have HX2a := Lib.hid (hcr2.heap HXa.out (hnx (by decide) (by decide) HXa.out))
        have HX2b := Lib.hid (hcr2.heap HXb.out (hnx (by decide) (by decide) HXb.out))
        have HY2 := Lib.hid (HBY.out.chg hcr2 (by
          rintro b hb hbs
          have hb2 := hbd2 b (by first | exact hrb b hb | (cases hb; exact hrb _ rfl))
          rcases hbs with e | e | e
          · exact hb2.1 e
          · exact hb2.2.1 e
          · rcases hfr b e.symm with e2 | e2
            · exact hb2.2.2.1 e2.symm
            · omega))
        have HF2 : From w (.slice none 0 0) (.slice A3 (0 + (i + (32))) c3) := From.trans hfr (Nat.le_trans HCr.out.size hca.size) h4'
        clear hc2 h1' hcr2 h3' h4' h2' hby hca hbx
        go_wp2
        go_roundw
        case rel =>
          refine ⟨i + (32), some (k, .slice A3 (0 + (i + (32))) c3), A3, some ⟨br, orr + 32, none⟩, c3, cr - 32, by omega, congrArg (fun z => Value.slice (some ⟨br, orr + 32, none⟩) z (cr - 32)) (by omega), ?_, ?_, ?_, .inl rfl, ?_, ?_, ?_, HC2, HX2a, HX2b, HF2⟩
          · omega
          · have h := HY2.out
            rw [List.drop_drop] at h
            exact (show n2 - i - 32 = n2 - (i + 32) by omega) ▸ h
          · intro b hb
            first | exact hrb b hb | (cases hb; exact hrb _ rfl)
          · intro hx; cases hx
          · have h := HD2.out
            exact (show wr0 + (i + 31) / 32 + 1 = wr0 + (i + (32) + 31) / 32 by omega) ▸ h
          · have h := HO3.out
            rw [List.append_assoc, ← List.take_add] at h
            exact h
        case measure => simp only [intOf]; omega

    · have t1 : ¬ (0 : Int) < ((n2 - i : Nat) : Int) := by omega
      have hin : i = n2 := by omega
      subst hin
      go_wp2
      go_ret
      rcases hff with rfl | ⟨rfl, -⟩
      · refine ⟨rfl, _, HDr.out, ?_, HCr.out, hfr⟩
        have h := HOr.out
        rw [List.take_of_length_le (by omega)] at h
        exact h
      · have := hfi rfl
        omega
end Go.Proofs.Ytccphnkdnifpfaa

namespace Go.Proofs.Ytccphnkdnifpfaa
set_option linter.unnecessarySimpa false
open Go.RowKit Go.Shelf
set_option linter.unusedVariables false
set_option linter.unusedSimpArgs false
set_option maxRecDepth 100000

theorem DiskAt.dm {w : World} {d m wr : Nat} {f : Option (ByteArray × Value)} (h : DiskAt w d m wr f) : d ≠ m := by
  rintro rfl; have := h.1.symm.trans h.2; unfold mapObj at this; split at this <;> cases this
theorem DiskAt.put {w : World} {d m wr : Nat} {f : Option (ByteArray × Value)} (h : DiskAt w d m wr f) (f' : Option (ByteArray × Value)) : DiskAt (w.putObj m (mapObj f')) d m wr f' ∧ Chg (One m) w (w.putObj m (mapObj f')) := by
  have hc : Chg (One m) w (w.putObj m (mapObj f')) := ⟨rfl, rfl, rfl, (grownBy_putObj' w m _).size, fun i hi hs => (grownBy_putObj' w m _).block i hi (fun e => hs (Option.some.inj e))⟩
  have hlt : m < w.heap.size := (Array.getElem?_eq_some_iff.1 h.2).1
  exact ⟨⟨hc.heap h.1 h.dm, by simp [World.putObj, hlt]⟩, hc⟩
theorem box_ne_map {w : World} {b m : Nat} {t : TypeId} {v : Value} {f : Option (ByteArray × Value)} (h : Boxed w b t v) (hm : w.heap[m]? = some (mapObj f)) : b ≠ m := by
  rintro rfl; have := (show w.heap[b]? = _ from h).symm.trans hm; unfold mapObj at this; split at this <;> cases this
theorem box_ne_disk {w : World} {b d m wr : Nat} {t : TypeId} {v : Value} {f : Option (ByteArray × Value)} (h : Boxed w b t v) (hm : DiskAt w d m wr f) : b ≠ d := by
  rintro rfl; have := (show w.heap[b]? = _ from h).symm.trans hm.1; cases this
theorem DiskAt.count {w : World} {d m wr : Nat} {f : Option (ByteArray × Value)} (h : DiskAt w d m wr f) : DiskAt (w.setCell ⟨d, 1, none⟩ (.int .i64 ((wr : Int) + 1))) d m (wr + 1) f ∧ Chg (One d) w (w.setCell ⟨d, 1, none⟩ (.int .i64 ((wr : Int) + 1))) := by
  have hc : Chg (One d) w (w.setCell ⟨d, 1, none⟩ (.int .i64 ((wr : Int) + 1))) := Chg.put _ _ _ _
  refine ⟨⟨?_, hc.heap h.2 (fun e => h.dm e.symm)⟩, hc⟩
  obtain ⟨hlt, hk⟩ := Array.getElem?_eq_some_iff.1 h.1
  show (w.heap.modify d _)[d]? = _
  rw [Array.getElem?_eq_getElem (by rw [Array.size_modify]; exact hlt), Array.getElem_modify_self, hk]
  simp
/-- The blocks that a disk itself is. -/
def DM (d m : Nat) : Nat → Prop := fun i => i = d ∨ i = m

set_option maxHeartbeats 1600000 in
theorem store_nil (w : World) (d m wr B0 B1 : Nat) (k : ByteArray) (h : DiskAt w d m wr none) (h0 : Boxed w B0 24 (.pointer (some ⟨d, 0, none⟩))) (h1 : Boxed w B1 9 (.string k)) :
    Calls Try.prog 88 #[.pointer (some ⟨B0, 0, none⟩), .pointer (some ⟨B1, 0, none⟩)] w fun e w' => e = .returned (.tuple #[]) ∧ DiskAt w' d m wr (some (k, .slice none 0 0)) ∧ Chg (One m) w w' := by
  obtain ⟨c0, c1, c2', c3, c4⟩ := h.cells
  have e0 := h0.cell
  have e1 := h1.cell
  have hD1 : DiskAt w.drew d m wr none := h
  obtain ⟨hD2, hcm⟩ := hD1.put (some (k, .slice none 0 0))
  have hup := update_none w.drew m k (.slice none 0 0) hD1.2
  have M0 := box_ne_map h0 h.2
  have M1 := box_ne_map h1 h.2
  have MD := h.dm
  have e0 : w.drew.cell? _ = _ := e0
  have e1 : w.drew.cell? _ = _ := e1
  have c0 : w.drew.cell? _ = _ := c0
  clear hD1 h h0 h1
  go_enter Try.func88, Try.ntmps88
  refine wp_region_held_drew (S := (fun W => W.cell? ⟨B0, 0, none⟩ = some (.pointer (some ⟨d, 0, none⟩)) ∧ W.cell? ⟨B1, 0, none⟩ = some (.string k) ∧ W.cell? ⟨d, 0, none⟩ = some (.map (some m)))) (by kernel_rfl) ⟨e0, e1, c0⟩ (fun hSw => ?_)
  refine wpAnyH_take (i := 0) (oi := { dst := some 2, op := Go.Op.load 24 (Go.Operand.tmp 0), type := 24, pos := "disk.go:109", after := #[], guard := none }) (v := ?_) rfl (by kernel_rfl) (by kernel_rfl) (by kernel_rfl) (fun _ _ _ h => h) (Or.inl ⟨by rfl, ?_⟩) hSw ?_
  rotate_left
  · (intro W hW; obtain ⟨hq1, hq2, hq3⟩ := hW; go_simp; try with_reducible rfl)
  try simp only [Act.put, List.setIfInBounds_toArray, List.set_cons_zero, List.set_cons_succ]
  refine wpAnyH_take (i := 1) (oi := { dst := some 3, op := Go.Op.nilCheck (Go.Operand.tmp 2), type := 0, pos := "disk.go:109", after := #[{ on := 0, ground := Go.Ground.data }], guard := none }) (v := ?_) rfl (by kernel_rfl) (by kernel_rfl) (by kernel_rfl) (fun _ _ _ h => h) (Or.inl ⟨by rfl, ?_⟩) hSw ?_
  rotate_left
  · (intro W hW; obtain ⟨hq1, hq2, hq3⟩ := hW; go_simp; try with_reducible rfl)
  try simp only [Act.put, List.setIfInBounds_toArray, List.set_cons_zero, List.set_cons_succ]
  refine wpAnyH_take (i := 2) (oi := { dst := some 4, op := Go.Op.fieldAddr 88 (Go.Operand.tmp 3) 0, type := 0, pos := "disk.go:109", after := #[{ on := 1, ground := Go.Ground.data }], guard := none }) (v := ?_) rfl (by kernel_rfl) (by kernel_rfl) (by kernel_rfl) (fun _ _ _ h => h) (Or.inl ⟨by rfl, ?_⟩) hSw ?_
  rotate_left
  · (intro W hW; obtain ⟨hq1, hq2, hq3⟩ := hW; go_simp; try with_reducible rfl)
  try simp only [Act.put, List.setIfInBounds_toArray, List.set_cons_zero, List.set_cons_succ]
  refine wpAnyH_take (i := 3) (oi := { dst := some 5, op := Go.Op.load 86 (Go.Operand.tmp 4), type := 86, pos := "disk.go:109", after := #[{ on := 2, ground := Go.Ground.data }], guard := none }) (v := ?_) rfl (by kernel_rfl) (by kernel_rfl) (by kernel_rfl) (fun _ _ _ h => h) (Or.inl ⟨by rfl, ?_⟩) hSw ?_
  rotate_left
  · (intro W hW; obtain ⟨hq1, hq2, hq3⟩ := hW; go_simp; try with_reducible rfl)
  try simp only [Act.put, List.setIfInBounds_toArray, List.set_cons_zero, List.set_cons_succ]
  refine wpAnyH_take (i := 4) (oi := { dst := some 6, op := Go.Op.load 9 (Go.Operand.tmp 1), type := 9, pos := "disk.go:109", after := #[], guard := none }) (v := ?_) rfl (by kernel_rfl) (by kernel_rfl) (by kernel_rfl) (fun _ _ _ h => h) (Or.inl ⟨by rfl, ?_⟩) hSw ?_
  rotate_left
  · (intro W hW; obtain ⟨hq1, hq2, hq3⟩ := hW; go_simp; try with_reducible rfl)
  try simp only [Act.put, List.setIfInBounds_toArray, List.set_cons_zero, List.set_cons_succ]
  refine wpAnyH_ready (rs := [5]) (by kernel_rfl) (by simp) ?_
  refine AllReadyH.cons (o := { dst := none, op := Go.Op.mapUpdate 86 (Go.Operand.tmp 5) (Go.Operand.tmp 6) (Go.Operand.const (Go.Value.slice none 0 0)), type := 0, pos := "disk.go:109", after := #[{ on := 3, ground := Go.Ground.data }, { on := 4, ground := Go.Ground.data }, { on := 0, ground := Go.Ground.phase }, { on := 1, ground := Go.Ground.phase }, { on := 2, ground := Go.Ground.phase }, { on := 3, ground := Go.Ground.phase }, { on := 4, ground := Go.Ground.phase }], guard := none }) rfl (fun K hK => ?_) AllReadyH.nil
  rw [if_pos (by rfl)]
  go_simp
  refine hK.out _ _ ⟨hcm.cell e0 M0, hcm.cell e1 M1, hcm.cell c0 MD⟩ (fun hSw => ?_)
  clear hK
  try simp only [Act.put, List.setIfInBounds_toArray, List.set_cons_zero, List.set_cons_succ]
  refine wpAnyH_done (by kernel_rfl) ?_ _
  go_wp2
  go_end0
  exact ⟨rfl, hD2, ⟨hcm.os, hcm.tape, hcm.output, hcm.size, hcm.block⟩⟩

set_option maxHeartbeats 3200000 in
theorem trunc1 (w : World) (d m wr B0 B1 B2 B3 : Nat) (k : ByteArray) (A : Option Addr) (n c q : Nat) (xs : List UInt8) (h : DiskAt w d m wr (some (k, .slice A n c))) (h0 : Boxed w B0 30 (.slice A n c)) (h1 : Boxed w B1 3 (.int .i64 (q : Int))) (h2 : Boxed w B2 24 (.pointer (some ⟨d, 0, none⟩))) (h3 : Boxed w B3 9 (.string k))
    (hb : Bytes w (.slice A n c) xs) (hl : xs.length = n) (hq : q ≤ n) (hn : n ≤ 140737488355328) :
    Calls Try.prog 86 #[.pointer (some ⟨B0, 0, none⟩), .pointer (some ⟨B1, 0, none⟩), .pointer (some ⟨B2, 0, none⟩), .pointer (some ⟨B3, 0, none⟩)] w fun e w' => e = .returned (.tuple #[]) ∧ ∃ v', DiskAt w' d m wr (some (k, v')) ∧ OwnB w' w.heap.size v' (xs.take q) ∧ Chg (One m) w w' := by
  obtain ⟨c0, c1, c2', c3, c4⟩ := h.cells
  have e0 := h0.cell
  have e1 := h1.cell
  have e2 := h2.cell
  have e3 := h3.cell
  have HD := Lib.hid h
  have M0 := box_ne_map h0 h.2
  have M1 := box_ne_map h1 h.2
  have M2 := box_ne_map h2 h.2
  have M3 := box_ne_map h3 h.2
  have MD := h.dm
  have hform : n ≤ c ∧ c ≤ 9223372036854775807 := by
    obtain ⟨A3, c3, h3, h4, h5⟩ := hb.form
    simp only [Value.slice.injEq] at h3
    obtain ⟨-, h6, rfl⟩ := h3
    exact ⟨by omega, h5⟩
  have q1 : (q : Int) ≤ (c : Int) := by omega
  have HB : Hid (Bytes w (.slice A q c) (xs.take q)) := Bytes.takeN hb hl hq (by omega) (Nat.le_refl _)
  clear h h0 h1 h2 h3 hb
  go_enter Try.func86, Try.ntmps86
  refine wp_region_held_drew (S := (fun W => W.cell? ⟨B0, 0, none⟩ = some (.slice A n c) ∧ W.cell? ⟨B1, 0, none⟩ = some (.int .i64 (q : Int)) ∧ W.cell? ⟨B2, 0, none⟩ = some (.pointer (some ⟨d, 0, none⟩)) ∧ W.cell? ⟨B3, 0, none⟩ = some (.string k) ∧ W.cell? ⟨d, 0, none⟩ = some (.map (some m)))) (by kernel_rfl) ⟨e0, e1, e2, e3, c0⟩ (fun hSw => ?_)
  refine wpAnyH_take (i := 0) (oi := { dst := some 4, op := Go.Op.load 24 (Go.Operand.tmp 2), type := 24, pos := "disk.go:137", after := #[], guard := none }) (v := ?_) rfl (by kernel_rfl) (by kernel_rfl) (by kernel_rfl) (fun _ _ _ h => h) (Or.inl ⟨by rfl, ?_⟩) hSw ?_
  rotate_left
  · (intro W hW; obtain ⟨hq1, hq2, hq3, hq4, hq5⟩ := hW; go_simp; try with_reducible rfl)
  try simp only [Act.put, List.setIfInBounds_toArray, List.set_cons_zero, List.set_cons_succ]
  refine wpAnyH_take (i := 1) (oi := { dst := some 5, op := Go.Op.nilCheck (Go.Operand.tmp 4), type := 0, pos := "disk.go:137", after := #[{ on := 0, ground := Go.Ground.data }], guard := none }) (v := ?_) rfl (by kernel_rfl) (by kernel_rfl) (by kernel_rfl) (fun _ _ _ h => h) (Or.inl ⟨by rfl, ?_⟩) hSw ?_
  rotate_left
  · (intro W hW; obtain ⟨hq1, hq2, hq3, hq4, hq5⟩ := hW; go_simp; try with_reducible rfl)
  try simp only [Act.put, List.setIfInBounds_toArray, List.set_cons_zero, List.set_cons_succ]
  refine wpAnyH_take (i := 2) (oi := { dst := some 6, op := Go.Op.fieldAddr 88 (Go.Operand.tmp 5) 0, type := 0, pos := "disk.go:137", after := #[{ on := 1, ground := Go.Ground.data }], guard := none }) (v := ?_) rfl (by kernel_rfl) (by kernel_rfl) (by kernel_rfl) (fun _ _ _ h => h) (Or.inl ⟨by rfl, ?_⟩) hSw ?_
  rotate_left
  · (intro W hW; obtain ⟨hq1, hq2, hq3, hq4, hq5⟩ := hW; go_simp; try with_reducible rfl)
  try simp only [Act.put, List.setIfInBounds_toArray, List.set_cons_zero, List.set_cons_succ]
  refine wpAnyH_take (i := 3) (oi := { dst := some 7, op := Go.Op.load 86 (Go.Operand.tmp 6), type := 86, pos := "disk.go:137", after := #[{ on := 2, ground := Go.Ground.data }], guard := none }) (v := ?_) rfl (by kernel_rfl) (by kernel_rfl) (by kernel_rfl) (fun _ _ _ h => h) (Or.inl ⟨by rfl, ?_⟩) hSw ?_
  rotate_left
  · (intro W hW; obtain ⟨hq1, hq2, hq3, hq4, hq5⟩ := hW; go_simp; try with_reducible rfl)
  try simp only [Act.put, List.setIfInBounds_toArray, List.set_cons_zero, List.set_cons_succ]
  refine wpAnyH_take (i := 4) (oi := { dst := some 8, op := Go.Op.load 9 (Go.Operand.tmp 3), type := 9, pos := "disk.go:137", after := #[], guard := none }) (v := ?_) rfl (by kernel_rfl) (by kernel_rfl) (by kernel_rfl) (fun _ _ _ h => h) (Or.inl ⟨by rfl, ?_⟩) hSw ?_
  rotate_left
  · (intro W hW; obtain ⟨hq1, hq2, hq3, hq4, hq5⟩ := hW; go_simp; try with_reducible rfl)
  try simp only [Act.put, List.setIfInBounds_toArray, List.set_cons_zero, List.set_cons_succ]
  refine wpAnyH_take (i := 5) (oi := { dst := some 9, op := Go.Op.load 30 (Go.Operand.tmp 0), type := 30, pos := "disk.go:137", after := #[], guard := none }) (v := ?_) rfl (by kernel_rfl) (by kernel_rfl) (by kernel_rfl) (fun _ _ _ h => h) (Or.inl ⟨by rfl, ?_⟩) hSw ?_
  rotate_left
  · (intro W hW; obtain ⟨hq1, hq2, hq3, hq4, hq5⟩ := hW; go_simp; try with_reducible rfl)
  try simp only [Act.put, List.setIfInBounds_toArray, List.set_cons_zero, List.set_cons_succ]
  refine wpAnyH_take (i := 6) (oi := { dst := some 10, op := Go.Op.load 3 (Go.Operand.tmp 1), type := 3, pos := "disk.go:137", after := #[], guard := none }) (v := ?_) rfl (by kernel_rfl) (by kernel_rfl) (by kernel_rfl) (fun _ _ _ h => h) (Or.inl ⟨by rfl, ?_⟩) hSw ?_
  rotate_left
  · (intro W hW; obtain ⟨hq1, hq2, hq3, hq4, hq5⟩ := hW; go_simp; try with_reducible rfl)
  try simp only [Act.put, List.setIfInBounds_toArray, List.set_cons_zero, List.set_cons_succ]
  refine wpAnyH_take (i := 7) (oi := { dst := some 11, op := Go.Op.slice 30 (Go.Operand.tmp 9) none (some (Go.Operand.tmp 10)) none, type := 30, pos := "disk.go:137", after := #[{ on := 5, ground := Go.Ground.data }, { on := 6, ground := Go.Ground.data }], guard := none }) (v := ?_) rfl (by kernel_rfl) (by kernel_rfl) (by kernel_rfl) (fun _ _ _ h => h) (Or.inl ⟨by rfl, ?_⟩) hSw ?_
  rotate_left
  · (intro W hW; obtain ⟨hq1, hq2, hq3, hq4, hq5⟩ := hW; go_simp; try with_reducible rfl)
  try simp only [Act.put, List.setIfInBounds_toArray, List.set_cons_zero, List.set_cons_succ]
  refine wpAnyH_ready (rs := [8]) (by kernel_rfl) (by simp) ?_
  refine AllReadyH.cons (o := { dst := some 12, op := Go.Op.call { callee := Go.Callee.value (Go.Operand.func 80), args := #[Go.Operand.tmp 11], argTypes := #[30] }, type := 30, pos := "disk.go:137", after := #[{ on := 7, ground := Go.Ground.data }], guard := none }) rfl (fun K hK => ?_) AllReadyH.nil
  rw [if_pos (by rfl)]
  go_simp
  refine (clone_any _ A q c (xs.take q) (HB.out.no (Chg.refl No w).drew) (by omega)).mono ?_
  rintro e w1 ⟨v', rfl, ho, hc⟩
  have hc1 : Chg No w w1 := (Chg.refl No w).drew.no hc
  have HO1 := Lib.hid ho
  have hD1 := HD.out.chg hc1 (fun x => x) (fun x => x)
  have hup := update_same w1 m k (.slice A n c) v' hD1.2
  obtain ⟨hD2, hcm⟩ := hD1.put (some (k, v'))
  have hc2 : Chg (One m) w (w1.putObj m (mapObj (some (k, v')))) := (hc1.mono (fun _ _ x => x.elim)).trans hcm (fun _ _ x => x)
  refine hK.out _ _ ⟨hc1.cell e0 (fun x => x), hc1.cell e1 (fun x => x), hc1.cell e2 (fun x => x), hc1.cell e3 (fun x => x), hc1.cell c0 (fun x => x)⟩ (fun hSw => ?_)
  clear hK
  try simp only [Act.put, List.setIfInBounds_toArray, List.set_cons_zero, List.set_cons_succ]
  refine wpAnyH_ready (rs := [9]) (by kernel_rfl) (by simp) ?_
  refine AllReadyH.cons (o := { dst := none, op := Go.Op.mapUpdate 86 (Go.Operand.tmp 7) (Go.Operand.tmp 8) (Go.Operand.tmp 12), type := 0, pos := "disk.go:137", after := #[{ on := 3, ground := Go.Ground.data }, { on := 4, ground := Go.Ground.data }, { on := 8, ground := Go.Ground.data }, { on := 8, ground := Go.Ground.chain }, { on := 0, ground := Go.Ground.phase }, { on := 1, ground := Go.Ground.phase }, { on := 2, ground := Go.Ground.phase }, { on := 3, ground := Go.Ground.phase }, { on := 4, ground := Go.Ground.phase }, { on := 5, ground := Go.Ground.phase }, { on := 6, ground := Go.Ground.phase }, { on := 7, ground := Go.Ground.phase }, { on := 8, ground := Go.Ground.phase }], guard := none }) rfl (fun K hK => ?_) AllReadyH.nil
  rw [if_pos (by rfl)]
  go_simp
  refine hK.out _ _ ⟨hc2.cell e0 M0, hc2.cell e1 M1, hc2.cell e2 M2, hc2.cell e3 M3, hc2.cell c0 MD⟩ (fun hSw => ?_)
  clear hK
  try simp only [Act.put, List.setIfInBounds_toArray, List.set_cons_zero, List.set_cons_succ]
  refine wpAnyH_done (by kernel_rfl) ?_ _
  have ho2 : OwnB (w1.putObj m (mapObj (some (k, v')))) w.heap.size v' (xs.take q) := by
    refine (OwnB.mono HO1.out (Nat.le_refl _)).chg hcm (fun b hb hx => ?_)
    have hx : b = m := hx
    obtain ⟨cc, fz, hcc⟩ := OwnB.cells HO1.out b hb
    rw [hx, hD1.2] at hcc
    cases hcc
  clear hup
  go_wp2
  go_end0
  exact ⟨rfl, v', hD2, ho2, hc2⟩

set_option maxHeartbeats 3200000 in
theorem dappend_nil (w : World) (d m wr0 : Nat) (k : ByteArray) (hmay : ∀ w, Calls Try.prog 87 #[.string k] w fun e w' => e = .returned (.bool true) ∧ Chg No w w') (A2 : Option Addr) (c2 : Nat)
    (h : DiskAt w d m wr0 none) (hw : wr0 < 9223372036850000000) :
    Calls Try.prog 61 #[.pointer (some ⟨d, 0, none⟩), .string k, .slice A2 0 c2] w fun e w' => e = .returned (.int .i64 0) ∧ DiskAt w' d m (wr0 + 1) (some (k, .slice none 0 0)) ∧ Chg (DM d m) w w' := by
  have HD := Lib.hid h
  clear h
  go_enter Try.func61, Try.ntmps61
  go_wp2
  go_step3
  go_wp2_with fail
  refine (hmay _).mono ?_
  rintro e w1 ⟨rfl, hc1⟩
  have hx0 : Boxed w1 w.heap.size 24 (.pointer (some ⟨d, 0, none⟩)) := hc1.heap ((Boxed.new w 24 (.pointer (some ⟨d, 0, none⟩))).alloc _) (fun x => x)
  have hx1 : Boxed w1 (w.heap.size + 1) 9 (.string k) := by
    have h0 := Boxed.new (w.alloc (.cells #[.pointer (some ⟨d, 0, none⟩)] 24)) 9 (.string k)
    rw [World.size_alloc] at h0
    exact hc1.heap h0 (fun x => x)
  have hcw : Chg No w w1 := (((Chg.refl No w).alloc _).alloc _).no hc1
  have hD1 := HD.out.chg hcw (fun x => x) (fun x => x)
  obtain ⟨c0, c1, c2', c3, c4⟩ := hD1.cells
  have e0 := hx0.cell
  have e1 := hx1.cell
  have hlk := look_none w1 m k hD1.2
  have hlkd := look_none w1.drew m k hD1.2
  have hmp := run_len_map (P := Try.prog) (w := w1.drew) 86 3 m #[] 0 (Try.underlying86) hD1.2
  have HC1 := Lib.hid hcw
  have HX0 := Lib.hid hx0
  have HX1 := Lib.hid hx1
  have HD1 := Lib.hid hD1
  clear hc1 hcw hx0 hx1 hD1
  go_wp2
  go_region
  have hDd : DiskAt w1.drew d m wr0 none := HD1.out
  have hX0d : Boxed w1.drew w.heap.size 24 (.pointer (some ⟨d, 0, none⟩)) := HX0.out
  have hX1d : Boxed w1.drew (w.heap.size + 1) 9 (.string k) := HX1.out
  clear hlk hlkd c1 c2' c3 c4
  go_wp2_with fail
  refine (disk_raw w1.drew d m wr0 none hDd (by omega) _ _ (fun w' => DiskAt w' d m (wr0 + 1) (some (k, .slice none 0 0)) ∧ Chg (DM d m) w w') (enters_of Try.func88 (by kernel_rfl) rfl) ?_).mono ?_
  · obtain ⟨hD3, hc3⟩ := hDd.count
    refine (store_nil _ d m (wr0 + 1) w.heap.size (w.heap.size + 1) k hD3 (hc3.heap hX0d (box_ne_disk hX0d hDd)) (hc3.heap hX1d (box_ne_disk hX1d hDd))).mono ?_
    rintro e w4 ⟨rfl, hD4, hc4⟩
    refine ⟨rfl, hD4, (((HC1.out.drew).mono (fun _ _ x => x.elim)).trans hc3 (fun i _ hi => .inl hi)).trans hc4 (fun i _ hi => .inr hi)⟩
  rintro e w2 ⟨rfl, hD5, hc5⟩
  have HD5 := Lib.hid hD5
  have HC5 := Lib.hid hc5
  clear hD5 hc5 hDd hX0d hX1d e0 e1
  go_wp2
  all_goals (try rw [Exit.noGoto_ret])
  go_ret
  exact ⟨rfl, HD5.out, HC5.out⟩

set_option maxHeartbeats 3200000 in
theorem dappend_long (w : World) (d m wr0 : Nat) (k : ByteArray) (hmay : ∀ w, Calls Try.prog 87 #[.string k] w fun e w' => e = .returned (.bool true) ∧ Chg No w w') (A A2 : Option Addr) (n c n2 c2 : Nat)
    (h : DiskAt w d m wr0 (some (k, .slice A n c))) (hn1 : n ≤ 4194304) (hn : 4194304 < n + n2) :
    Calls Try.prog 61 #[.pointer (some ⟨d, 0, none⟩), .string k, .slice A2 n2 c2] w fun e w' => e = .returned (.int .i64 3) ∧ Chg No w w' := by
  have HD := Lib.hid h
  clear h
  go_enter Try.func61, Try.ntmps61
  go_wp2
  go_step3
  go_wp2_with fail
  refine (hmay _).mono ?_
  rintro e w1 ⟨rfl, hc1⟩
  have hx0 : Boxed w1 w.heap.size 24 (.pointer (some ⟨d, 0, none⟩)) := hc1.heap ((Boxed.new w 24 (.pointer (some ⟨d, 0, none⟩))).alloc _) (fun x => x)
  have hx1 : Boxed w1 (w.heap.size + 1) 9 (.string k) := by
    have h0 := Boxed.new (w.alloc (.cells #[.pointer (some ⟨d, 0, none⟩)] 24)) 9 (.string k)
    rw [World.size_alloc] at h0
    exact hc1.heap h0 (fun x => x)
  have hcw : Chg No w w1 := (((Chg.refl No w).alloc _).alloc _).no hc1
  have hD1 := HD.out.chg hcw (fun x => x) (fun x => x)
  obtain ⟨c0, c1, c2', c3, c4⟩ := hD1.cells
  have e0 := hx0.cell
  have e1 := hx1.cell
  have hlk := look_same w1 m k _ hD1.2
  have hlkd := look_same w1.drew m k _ hD1.2
  have HC1 := Lib.hid hcw
  clear hc1 hcw hx0 hx1 hD1
  have q1 : (4194304 : Int) - (n : Int) < (n2 : Int) := by omega
  go_wp2
  go_region
  go_wp2
  rw [Exit.noGoto_ret]
  go_ret
  exact ⟨rfl, HC1.out.drew⟩

set_option maxHeartbeats 3200000 in
theorem truncate_calls (w : World) (d m wr : Nat) (k : ByteArray) (A : Option Addr) (n c q : Nat) (xs : List UInt8) (h : DiskAt w d m wr (some (k, .slice A n c))) (hw : wr < 9223372036850000000)
    (hb : Bytes w (.slice A n c) xs) (hl : xs.length = n) (hq : q < n) (hn : n ≤ 140737488355328) (hbd : ∀ b, (Value.slice A n c).ownBlock = some b → b ≠ d) :
    Calls Try.prog 55 #[.pointer (some ⟨d, 0, none⟩), .string k, .int .i64 (q : Int)] w fun e w' => e = .returned (.int .i64 0) ∧ ∃ v', DiskAt w' d m (wr + 1) (some (k, v')) ∧ OwnB w' w.heap.size v' (xs.take q) ∧ Chg (DM d m) w w' := by
  have HD := Lib.hid h
  have HB := Lib.hid hb
  have HBD := Lib.hid hbd
  have dlt : d < w.heap.size := (Array.getElem?_eq_some_iff.1 h.1).1
  have mlt : m < w.heap.size := (Array.getElem?_eq_some_iff.1 h.2).1
  have q2 : (q : Int) < (n : Int) := by omega
  have q3 : ¬ ((n : Int) < (q : Int)) := by omega
  have q4 : ¬ ((q : Int) < 0) := by omega
  have q5 : ((q : Int) == (n : Int)) = false := by rw [beq_eq_false_iff_ne]; omega
  have HX : Hid (∀ w3, w3 = (((w.alloc (.cells #[.pointer (some ⟨d, 0, none⟩)] 24)).alloc (.cells #[.string k] 9)).alloc (.cells #[.int .i64 (q : Int)] 3)) → Boxed w3 w.heap.size 24 (.pointer (some ⟨d, 0, none⟩)) ∧ Boxed w3 (w.heap.size + 1) 9 (.string k) ∧ Boxed w3 (w.heap.size + 2) 3 (.int .i64 (q : Int)) ∧ w3.heap.size = w.heap.size + 3 ∧ Chg No w w3) := by
    rintro w3 rfl
    have h1 := Boxed.new (w.alloc (.cells #[.pointer (some ⟨d, 0, none⟩)] 24)) 9 (.string k)
    have h2 := Boxed.new ((w.alloc (.cells #[.pointer (some ⟨d, 0, none⟩)] 24)).alloc (.cells #[.string k] 9)) 3 (.int .i64 (q : Int))
    simp only [World.size_alloc] at h1 h2
    refine ⟨((Boxed.new w _ _).alloc _).alloc _, h1.alloc _, h2, by simp only [World.size_alloc], (((Chg.refl No w).alloc _).alloc _).alloc _⟩
  clear h hb hbd
  go_enter Try.func55, Try.ntmps55
  go_wp2
  generalize hw3 : (((w.alloc (.cells #[.pointer (some ⟨d, 0, none⟩)] 24)).alloc (.cells #[.string k] 9)).alloc (.cells #[.int .i64 (q : Int)] 3)) = w3
  obtain ⟨b0, b1, b2, hsz, hc3⟩ := HX.out w3 hw3.symm
  have hD3 := HD.out.chg hc3 (fun x => x) (fun x => x)
  obtain ⟨c0, c1, c2', c3, c4⟩ := hD3.cells
  have e0 := b0.cell
  have e1 := b1.cell
  have e2 := b2.cell
  have hlk := look_same w3 m k _ hD3.2
  have hlke := look_same w3.drew m k _ hD3.2
  have hlkd := fun o => look_same (w3.alloc o).drew m k _ (((Chg.refl No w3).alloc o).drew.heap hD3.2 (fun x => x))
  have c0a := fun o => ((Chg.refl No w3).alloc o).drew.cell c0 (fun x => x)
  have e0a := fun o => ((Chg.refl No w3).alloc o).drew.cell e0 (fun x => x)
  have e1a := fun o => ((Chg.refl No w3).alloc o).drew.cell e1 (fun x => x)
  clear hw3
  go_region
  clear hlk hlkd hlke c0 c1 c2' c3 c4 c0a e0a e1a e0 e1 e2
  have hcd : Chg No w3 (w3.alloc (.cells #[.slice A n c] 30)).drew := ((Chg.refl No w3).alloc _).drew
  have b3 : Boxed (w3.alloc (.cells #[.slice A n c] 30)).drew w3.heap.size 30 (.slice A n c) := (Chg.refl No _).drew.heap (Boxed.new w3 30 (.slice A n c)) (fun x => x)
  rw [hsz] at b3
  generalize (w3.alloc (.cells #[.slice A n c] 30)).drew = w4 at hcd b3 ⊢
  have b0 := hcd.heap b0 (fun x => x)
  have b1 := hcd.heap b1 (fun x => x)
  have b2 := hcd.heap b2 (fun x => x)
  have hD4 := hD3.chg hcd (fun x => x) (fun x => x)
  have hc4 := hc3.no hcd
  have e0 : w4.cell? ⟨w.heap.size, 0, none⟩ = _ := Boxed.cell b0
  have e1 : w4.cell? ⟨w.heap.size + 1, 0, none⟩ = _ := Boxed.cell b1
  have e2 : w4.cell? ⟨w.heap.size + 2, 0, none⟩ = _ := Boxed.cell b2
  have e3 : w4.cell? ⟨w.heap.size + 3, 0, none⟩ = _ := Boxed.cell b3
  have HC4 := Lib.hid hc4
  have HB0 : Hid (Boxed w4 w.heap.size 24 (.pointer (some ⟨d, 0, none⟩))) := b0
  have HB1 : Hid (Boxed w4 (w.heap.size + 1) 9 (.string k)) := b1
  have HB2 : Hid (Boxed w4 (w.heap.size + 2) 3 (.int .i64 (q : Int))) := b2
  have HB3 : Hid (Boxed w4 (w.heap.size + 3) 30 (.slice A n c)) := b3
  have HD4 := Lib.hid hD4
  clear hD3 hD4 hc4 hcd b0 b1 b2 b3 hc3
  go_wp2_with fail
  refine (disk_raw w4 d m wr _ HD4.out (by omega) _ _ (fun w' => ∃ v', DiskAt w' d m (wr + 1) (some (k, v')) ∧ OwnB w' w.heap.size v' (xs.take q) ∧ Chg (DM d m) w w') (enters_of Try.func86 (by kernel_rfl) rfl) ?_).mono ?_
  · obtain ⟨hD3, hc3⟩ := HD4.out.count
    have hb4 := HB.out.no HC4.out
    refine (trunc1 _ d m (wr + 1) (w.heap.size + 3) (w.heap.size + 2) w.heap.size (w.heap.size + 1) k A n c q xs hD3 (hc3.heap HB3.out (box_ne_disk HB3.out HD4.out)) (hc3.heap HB2.out (box_ne_disk HB2.out HD4.out)) (hc3.heap HB0.out (box_ne_disk HB0.out HD4.out)) (hc3.heap HB1.out (box_ne_disk HB1.out HD4.out)) (hb4.chg hc3 (fun b hb e => HBD.out b hb e)) hl (by omega) hn).mono ?_
    rintro e w5 ⟨rfl, v', hD5, ho5, hc5⟩
    exact ⟨rfl, v', hD5, ho5.mono (Nat.le_trans HC4.out.size hc3.size), ((HC4.out.mono (fun _ _ x => x.elim)).trans hc3 (fun i _ hi => .inl hi)).trans hc5 (fun i _ hi => .inr hi)⟩
  rintro e w5 ⟨rfl, v', hD5, ho5, hc5⟩
  have HD5 := Lib.hid hD5
  have HO5 := Lib.hid ho5
  have HC5 := Lib.hid hc5
  clear hD5 ho5 hc5 e0 e1 e2 e3
  go_wp2
  go_ret
  exact ⟨rfl, v', HD5.out, HO5.out, HC5.out⟩

theorem writes_calls (w : World) (d m wr : Nat) (f : Option (ByteArray × Value)) (h : DiskAt w d m wr f) :
    Calls Try.prog 14 #[.pointer (some ⟨d, 0, none⟩)] w fun e w' => e = .returned (.int .i64 (wr : Int)) ∧ Chg No w w' := by
  obtain ⟨c0, c1, c2', c3, c4⟩ := h.cells
  go_enter Try.func14, Try.ntmps14
  go_wp2
  go_ret
  exact ⟨rfl, Chg.refl _ _⟩
end Go.Proofs.Ytccphnkdnifpfaa

namespace Go.Proofs.Ytccphnkdnifpfaa
set_option linter.unnecessarySimpa false
open Go.RowKit Go.Shelf
set_option linter.unusedVariables false
set_option linter.unusedSimpArgs false
set_option maxRecDepth 100000

/-- A journal's cells. -/
def JCells (w : World) (j d : Nat) (k : ByteArray) (va vp : Value) (sz : Nat) (cut : Bool) : Prop :=
  w.heap[j]? = some (.cells #[.pointer (some ⟨d, 0, none⟩), .string k, va, vp, .int .i64 (sz : Int), .bool cut] 112 (0, 0))
section
variable {w : World} {j d : Nat} {k : ByteArray} {va vp : Value} {sz : Nat} {cut : Bool}
theorem JCells.lt (h : JCells w j d k va vp sz cut) : j < w.heap.size := (Array.getElem?_eq_some_iff.1 h).1
theorem JCells.c0 (h : JCells w j d k va vp sz cut) : w.cell? ⟨j, 0, none⟩ = some (.pointer (some ⟨d, 0, none⟩)) := by simp [World.cell?, show w.heap[j]? = _ from h]
theorem JCells.c1 (h : JCells w j d k va vp sz cut) : w.cell? ⟨j, 1, none⟩ = some (.string k) := by simp [World.cell?, show w.heap[j]? = _ from h]
theorem JCells.c2 (h : JCells w j d k va vp sz cut) : w.cell? ⟨j, 2, none⟩ = some va := by simp [World.cell?, show w.heap[j]? = _ from h]
theorem JCells.c3 (h : JCells w j d k va vp sz cut) : w.cell? ⟨j, 3, none⟩ = some vp := by simp [World.cell?, show w.heap[j]? = _ from h]
theorem JCells.c4 (h : JCells w j d k va vp sz cut) : w.cell? ⟨j, 4, none⟩ = some (.int .i64 (sz : Int)) := by simp [World.cell?, show w.heap[j]? = _ from h]
theorem JCells.c5 (h : JCells w j d k va vp sz cut) : w.cell? ⟨j, 5, none⟩ = some (.bool cut) := by simp [World.cell?, show w.heap[j]? = _ from h]
theorem JCells.fr (h : JCells w j d k va vp sz cut) (i : Nat) : w.frozen? ⟨j, i, none⟩ = false := by simp [World.frozen?, show w.heap[j]? = _ from h]
theorem JCells.set (h : JCells w j d k va vp sz cut) (i : Nat) (u : Value) : (w.setCell ⟨j, i, none⟩ u).heap[j]? = some (.cells (#[.pointer (some ⟨d, 0, none⟩), .string k, va, vp, .int .i64 (sz : Int), .bool cut].setIfInBounds i u) 112 (0, 0)) := by
  unfold World.setCell
  simp [Array.getElem?_modify, show w.heap[j]? = _ from h]
theorem JCells.set2 (h : JCells w j d k va vp sz cut) (u : Value) : JCells (w.setCell ⟨j, 2, none⟩ u) j d k u vp sz cut := h.set 2 u
theorem JCells.set3 (h : JCells w j d k va vp sz cut) (u : Value) : JCells (w.setCell ⟨j, 3, none⟩ u) j d k va u sz cut := h.set 3 u
theorem JCells.set4 (h : JCells w j d k va vp sz cut) (n : Nat) (x : Int) (hx : x = (n : Int)) : JCells (w.setCell ⟨j, 4, none⟩ (.int .i64 x)) j d k va vp n cut := by subst hx; exact h.set 4 _
end

/-- The cells of the parts of payloads, from a place on. -/
def partsC (o : Nat) : List (List UInt8) → List Value
  | [] => []
  | p :: ps => .int .i64 (o : Int) :: .int .i64 ((o + p.length : Nat) : Int) :: partsC (o + p.length) ps
theorem partsC_len : ∀ (ps : List (List UInt8)) (o : Nat), (partsC o ps).length = ps.length * 2
  | [], _ => rfl
  | p :: ps, o => by simp [partsC, partsC_len ps]; omega
theorem partsC_snoc : ∀ (ps : List (List UInt8)) (o : Nat) (p : List UInt8), partsC o (ps ++ [p]) = partsC o ps ++ [.int .i64 ((o + ps.flatten.length : Nat) : Int), .int .i64 ((o + ps.flatten.length + p.length : Nat) : Int)]
  | [], o, p => by simp [partsC]
  | q :: ps, o, p => by simp [partsC, partsC_snoc ps, Nat.add_assoc]
theorem infoPart : (Try.prog.info? 147).map (fun i => (i.zero, i.size, i.bytes)) = some (some (.agg #[.int .i64 0, .int .i64 0]), 2, 16) := by kernel_rfl
theorem Src.part {P : Program} {W : World} {tx e' t : TypeId} {g : Nat} (hk : P.underlying tx = some (.slice e')) (a b : Int) (hg : W.heap[g]? = some (.cells #[.int .i64 a, .int .i64 b] t (0, 0))) :
    Src P 2 tx (.slice (some ⟨g, 0, none⟩) 1 1) 1 [.int .i64 a, .int .i64 b] W :=
  Src.ofSlice _ hk _ _ _ [.int .i64 a, .int .i64 b] (by simp) (fun i v hj => by
    rw [Addr.add_lit, Nat.zero_add]
    match i, hj with
    | 0, hj => simpa [World.cell?, hg] using hj
    | 1, hj => simpa [World.cell?, hg] using hj
    | i + 2, hj => simp at hj) (fun v hv => by
      simp only [List.mem_cons, List.not_mem_nil, or_false] at hv
      rcases hv with rfl | rfl <;> rfl)
theorem ownsRow_cells {w : World} {base size n : Nat} {e : TypeId} {v : Value} {xs : List Value} (h : w.ownsRow base e size v n xs) : ∀ k, v.ownBlock = some k → ∃ c fz, w.heap[k]? = some (.cells c e fz) := by
  intro k hk
  rcases h.2 with ⟨rfl, _⟩ | ⟨g, cap, cur, rfl, _, hg, _⟩
  · simp [Value.ownBlock] at hk
  · simp [Value.ownBlock] at hk
    subst hk
    exact ⟨cur, _, hg⟩
theorem ownsRow_chg {S : Nat → Prop} {w w' : World} {base size n : Nat} {e : TypeId} {v : Value} {xs : List Value} (h : w.ownsRow base e size v n xs) (hc : Chg S w w') (hs : ∀ b, v.ownBlock = some b → ¬ S b) : w'.ownsRow base e size v n xs := by
  obtain ⟨h1, h2⟩ := h
  refine ⟨h1, h2.imp id ?_⟩
  rintro ⟨g, cap, cur, rfl, hg, hh, r⟩
  exact ⟨g, cap, cur, rfl, hg, hc.heap hh (hs g rfl), r⟩
theorem ownsRow_form {w : World} {base size n : Nat} {e : TypeId} {v : Value} {xs : List Value} (h : w.ownsRow base e size v n xs) : ∃ A c, v = .slice A n c := by
  rcases h.2 with ⟨rfl, rfl⟩ | ⟨g, cap, cur, rfl, _⟩
  · exact ⟨_, _, rfl⟩
  · exact ⟨_, _, rfl⟩
section
variable {P : Program} {w : World}
theorem wpList_app2 {ops : Array Oper} {rest : List Oper} {o : Oper} {a : Act} {Q : Exit → Act → World → Prop} (hgd : o.guard = none) (s x : Operand) (t tx : TypeId)
    (ho : o.op = .call { callee := .builtin .append, args := #[s, x], argTypes := #[t, tx] })
    (base : Nat) (e : TypeId) (z : Value) (size bytes : Nat) (hinfo : (P.info? e).map (fun i => (i.zero, i.size, i.bytes)) = some (some z, size, bytes)) (ht : P.underlying t = some (.slice e))
    (hzs : z.cells.size = size) (hsz : 0 < size)
    (v xv : Value) (n m : Nat) (xs news : List Value) (hs : a.eval s = v) (hx : a.eval x = xv)
    (hown : w.ownsRow base e size v n xs) (hsrc : Src P size tx xv m news w)
    (hbytes : (n + m) * bytes ≤ 140737488355328) (h63 : n + m ≤ maxLen) (hbase : base ≤ w.heap.size)
    (h : ∀ v' w', w'.ownsRow base e size v' (n + m) (xs ++ news) → w.grownBy w' v.ownBlock → (v'.ownBlock = v.ownBlock ∨ v'.ownBlock = some w.heap.size) → wpList P ops Q rest (a.put o.dst v') w') : wpList P ops Q (o :: rest) a w := by
  refine wpList_plain hgd fun _ hK => ?_
  exact wp_app2 s x t tx ho base e z size bytes hinfo ht hzs hsz v xv n m xs news hs hx hown hsrc hbytes h63 hbase (fun v' w' h1 h2 h3 => hK _ _ (h v' w' h1 h2 h3))
end

/-- The blocks that a journal itself is. -/
def JS (j : Nat) (va vp : Value) : Nat → Prop := fun i => i = j ∨ some i = va.ownBlock ∨ some i = vp.ownBlock

set_option maxHeartbeats 3200000 in
theorem add_calls (w : World) (base j d : Nat) (k : ByteArray) (A A2 AP : Option Addr) (n c n2 c2 np cp : Nat) (sz sz2 : Nat) (ps : List (List UInt8)) (p : List UInt8)
    (h : JCells w j d k (.slice A n c) (.slice AP np cp) sz false) (ho : OwnB w base (.slice A n c) ps.flatten) (hp : w.ownsRow base 147 2 (.slice AP np cp) np (partsC 0 ps))
    (hl : ps.flatten.length = n) (hb : Bytes w (.slice A2 n2 c2) p) (hl2 : p.length = n2) (hn : n + n2 ≤ 1099511627776) (hnp : np ≤ 1099511627776) (hsz : sz + sz2 ≤ 1099511627776) (hbase : base ≤ w.heap.size) :
    Calls Try.prog 54 #[.pointer (some ⟨j, 0, none⟩), .slice A2 n2 c2, .int .i64 (sz2 : Int)] w fun e w' => e = .returned (.tuple #[]) ∧ ∃ va' vp', JCells w' j d k va' vp' (sz + sz2) false ∧ OwnB w' base va' (ps ++ [p]).flatten ∧ w'.ownsRow base 147 2 vp' (np + 1) (partsC 0 (ps ++ [p])) ∧
      Chg (JS j (.slice A n c) (.slice AP np cp)) w w' ∧ From w (.slice A n c) va' ∧ From w (.slice AP np cp) vp' := by
  have HJ := Lib.hid h
  have HO := Lib.hid ho
  have HP := Lib.hid hp
  have HB := Lib.hid hb
  have HL := Lib.hid hl
  have HL2 := Lib.hid hl2
  have c2' := h.c2
  have hjn : ∀ {e : TypeId} {size m : Nat} {v : Value} {xs : List Value}, e ≠ 112 → w.ownsRow base e size v m xs → ¬ some j = v.ownBlock := by
    intro e size m v xs he ho hx
    obtain ⟨cc, fz, hcc⟩ := ownsRow_cells ho j hx.symm
    have := (show w.heap[j]? = _ from HJ.out).symm.trans hcc
    cases this
    exact he rfl
  have hja : ¬ some j = (Value.slice A n c).ownBlock := hjn (by decide) HO.out
  have hjp : ¬ some j = (Value.slice AP np cp).ownBlock := hjn (by decide) HP.out
  have hap : ∀ b, (Value.slice AP np cp).ownBlock = some b → ¬ some b = (Value.slice A n c).ownBlock := by
    intro b hb hx
    obtain ⟨cc, fz, hcc⟩ := ownsRow_cells HP.out b hb
    obtain ⟨cc2, fz2, hcc2⟩ := ownsRow_cells HO.out b hx.symm
    have := hcc.symm.trans hcc2
    cases this
  clear h ho hp hb hl hl2
  go_enter Try.func54, Try.ntmps54
  go_wp2_with (at_builtin; (refine wpList_app2 rfl (.tmp 16) (.tmp 17) 30 30 rfl base 5 (.int .u8 0) 1 1 infoU8 Try.underlying30 rfl (by decide) (.slice A n c) (.slice A2 n2 c2) n n2 (u8s ps.flatten) (u8s p) rfl rfl ?own ?src ?b1 ?b2 ?b3 ?_; (case own => exact OwnB.n HO.out HL.out); (case src => exact Src.ofBytes Try.underlying30 HB.out HL2.out); (case b1 => omega); (case b2 => unfold maxLen; omega); (case b3 => exact hbase); intro va' w0 howna hga hfroma; refine Hid.out ?_))
  refine Lib.hid ?_
  have hc0 : Chg (fun i => some i = (Value.slice A n c).ownBlock) w w0 := ⟨hga.os, hga.tape, hga.output, hga.size, fun i hi hn => hga.block i hi hn⟩
  have hj0 : JCells w0 j d k (.slice A n c) (.slice AP np cp) sz false := hc0.heap HJ.out hja
  have hO0 : OwnB w0 base va' (ps ++ [p]).flatten := .of howna (by rw [List.flatten_append, u8s_append]; simp)
  have f20 := hj0.fr 2
  have e20 := hj0.c2
  have hP0 := ownsRow_chg HP.out hc0 hap
  have hf0 : From w (.slice A n c) va' := From.ofApp hfroma
  obtain ⟨A3, n3, c3, rfl, HL3, HO3⟩ := hO0.form
  have hja0 : ¬ some j = (Value.slice A3 n3 c3).ownBlock := by
    intro e
    rcases hf0 j e.symm with e2 | e2
    · exact hja e2.symm
    · have := HJ.out.lt; omega
  have hpa0 : ∀ b, (Value.slice AP np cp).ownBlock = some b → ¬ some b = (Value.slice A3 n3 c3).ownBlock := by
    intro b hb hx
    obtain ⟨cc, fz, hcc⟩ := ownsRow_cells hP0 b hb
    obtain ⟨cc2, fz2, hcc2⟩ := ownsRow_cells HO3.out b hx.symm
    have := hcc.symm.trans hcc2
    cases this
  have hn3 : n3 = n + n2 := by have := HL3.out; have h1 := HL.out; have h2 := HL2.out; simp only [List.flatten_append, List.length_append, List.flatten_cons, List.flatten_nil, List.append_nil] at this; omega
  subst hn3
  have hc1 : Chg (JS j (.slice A n c) (.slice AP np cp)) w (w0.setCell ⟨j, 2, none⟩ (.slice A3 (n + n2) c3)) := (hc0.mono (S' := JS j (.slice A n c) (.slice AP np cp)) (fun i _ hi => .inr (.inl hi))).setCell (p := ⟨j, 2, none⟩) (.inr (.inl rfl)) _
  have hcs : Chg (One j) w0 (w0.setCell ⟨j, 2, none⟩ (.slice A3 (n + n2) c3)) := Chg.put _ _ _ _
  have hj1' := hj0.set2 (.slice A3 (n + n2) c3)
  have hP1 := ownsRow_chg hP0 hcs (fun b hb e => by have e : b = j := e; subst e; exact hjp hb.symm)
  have hO1 := HO3.out.chg hcs (fun b hb e => by have e : b = j := e; subst e; exact hja0 hb.symm)
  clear hga howna hc0 hj0 hO0 hcs hP0 HO3
  have HC1 := Lib.hid hc1
  have HJ1 := Lib.hid hj1'
  have HP1 := Lib.hid hP1
  have HO1 := Lib.hid hO1
  have HF := Lib.hid hf0
  clear hc1 hj1' hP1 hO1 hf0 c2'
  go_wp2
  clear e20 f20
  have hs01 : w.heap.size ≤ (w0.setCell ⟨j, 2, none⟩ (.slice A3 (n + n2) c3)).heap.size := HC1.out.size
  generalize w0.setCell ⟨j, 2, none⟩ (.slice A3 (n + n2) c3) = w1 at *
  have e2 := HJ1.out.c2
  have e3 := HJ1.out.c3
  have f3 := HJ1.out.fr 3
  have hj1 := HJ1.out.lt
  have e2a := fun o => ((Chg.refl No w1).alloc o).cell e2 (fun x => x)
  have e3a := fun o => ((Chg.refl No w1).alloc o).cell e3 (fun x => x)
  go_region_law (rw [if_pos (by rfl)]; refine wp_app2 (.tmp 25) (.tmp 33) 110 110 (by rfl) base 147 (.agg #[.int .i64 0, .int .i64 0]) 2 16 infoPart Try.underlying110 (by rfl) (by decide) (.slice AP np cp) (.slice (some ⟨w1.heap.size, 0, none⟩) 1 1) np 1 (partsC 0 ps) [.int .i64 (n : Int), .int .i64 ((n : Int) + (n2 : Int))] (by rfl) (by rfl) (by exact World.ownsRow.alloc HP1.out _) (by exact Src.part Try.underlying110 _ _ (heap_alloc_new w1 _)) (by omega) (by unfold maxLen; omega) (by simp; omega) ?_; intro vp' w2 hownp hgp hfromp; obtain ⟨AQ, cQ, rfl⟩ := ownsRow_form hownp; have hc2 : Chg (fun i => some i = (Value.slice AP np cp).ownBlock) w1 w2 := Chg.grown (((Chg.refl _ w1).alloc _).drew) hgp (fun k hk => .inr hk.symm); have hjc2 : JCells w2 j d k (.slice A3 (n + n2) c3) (.slice AP np cp) sz false := hc2.heap HJ1.out hjp; have cc2 := hjc2.c3; have fr2 := hjc2.fr 3)
  all_goals (
    have hO2 := HO1.out.chg hc2 (fun b hb e => hpa0 b e.symm hb.symm)
    have hcs3 : Chg (One j) w2 (w2.setCell ⟨j, 3, none⟩ (.slice AQ (np + 1) cQ)) := Chg.put _ _ _ _
    have hjc3 := hjc2.set3 (.slice AQ (np + 1) cQ)
    have hfp : From w (.slice AP np cp) (.slice AQ (np + 1) cQ) := fun b hb => (From.ofApp hfromp b hb).imp id (fun e => by simp at e; omega)
    have hjq : ¬ some j = (Value.slice AQ (np + 1) cQ).ownBlock := by
      intro e
      rcases hfp j e.symm with e2 | e2
      · exact hjp e2.symm
      · have := HJ.out.lt; omega
    have hO3 := hO2.chg hcs3 (fun b hb e => by have e : b = j := e; subst e; exact hja0 hb.symm)
    have hP3 := ownsRow_chg hownp hcs3 (fun b hb e => by have e : b = j := e; subst e; exact hjq hb.symm)
    have hc3 : Chg (JS j (.slice A n c) (.slice AP np cp)) w (w2.setCell ⟨j, 3, none⟩ (.slice AQ (np + 1) cQ)) := (HC1.out.trans hc2 (fun i _ hi => .inr (.inr hi))).trans hcs3 (fun i _ hi => .inl hi)
    clear hgp hownp hc2 hjc2 cc2 fr2 hO2 hcs3 hfromp e2a e3a e2 e3 f3
    have HO3 := Lib.hid hO3
    have HP3 := Lib.hid hP3
    have HC3 := Lib.hid hc3
    have HJ3 := Lib.hid hjc3
    clear hO3 hP3 hc3 hjc3
    generalize w2.setCell ⟨j, 3, none⟩ (.slice AQ (np + 1) cQ) = w3 at *
    have e4 := HJ3.out.c4
    have f4 := HJ3.out.fr 4
    have hw1 : IntKind.i64.wrap ((sz : Int) + (sz2 : Int)) = (sz : Int) + (sz2 : Int) := by rw [IntKind.wrap_i64]; omega
    go_wp2
    go_end0
    have hcs4 : Chg (One j) w3 (w3.setCell ⟨j, 4, none⟩ (.int .i64 ((sz : Int) + (sz2 : Int)))) := Chg.put _ _ _ _
    refine ⟨rfl, _, _, HJ3.out.set4 (sz + sz2) _ (by omega), HO3.out.chg hcs4 (fun b hb e => by have e : b = j := e; subst e; exact hja0 hb.symm), ?_, HC3.out.trans hcs4 (fun i _ hi => .inl hi), HF.out, hfp⟩
    have h := ownsRow_chg HP3.out hcs4 (fun b hb e => by have e : b = j := e; subst e; exact hjq hb.symm)
    rw [partsC_snoc]
    have e1 : (0 + ps.flatten.length : Nat) = n := by have := HL.out; omega
    have e2 : p.length = n2 := HL2.out
    rw [e1, e2]
    exact h)

theorem len_calls (w : World) (j d : Nat) (k : ByteArray) (va : Value) (AP : Option Addr) (np cp sz : Nat) (cut : Bool) (h : JCells w j d k va (.slice AP np cp) sz cut) :
    Calls Try.prog 38 #[.pointer (some ⟨j, 0, none⟩)] w fun e w' => e = .returned (.int .i64 (np : Int)) ∧ w' = w := by
  have e3 := h.c3
  go_enter Try.func38, Try.ntmps38
  go_wp2
  go_ret
  exact ⟨rfl, rfl⟩
theorem len_none (w : World) : Calls Try.prog 38 #[.pointer none] w fun e w' => e = .returned (.int .i64 0) ∧ w' = w := by
  go_enter Try.func38, Try.ntmps38
  go_wp2
  go_ret
  exact ⟨rfl, rfl⟩
end Go.Proofs.Ytccphnkdnifpfaa

namespace Go.Proofs.Ytccphnkdnifpfaa
set_option linter.unnecessarySimpa false
set_option linter.unusedVariables false
set_option linter.unusedSimpArgs false

theorem wraps_u64 (n : Int) (h₀ : 0 ≤ n) (h₁ : n < 2 ^ 64) : IntKind.u64.wrap n = n := by rw [IntKind.wrap_u64]; omega
theorem wrap_u64_nat (n : Nat) (h : n < 18446744073709551616) : IntKind.u64.wrap (n : Int) = n := by rw [IntKind.wrap_u64]; omega
theorem wrap_u8_nat (n : Nat) : IntKind.u8.wrap (n : Int) = ((n % 256 : Nat) : Int) := by rw [IntKind.wrap_u8]; omega
theorem and127 (u : Nat) (h : u < 256) : bits .and .u8 (u : Int) 127 = ((u % 128 : Nat) : Int) := by
  have := bits_mask .u8 8 (by decide) wraps_u8 7 (by decide) (u : Int) (by omega) (by omega)
  simp at this
  rw [this]; omega
theorem or_u64 (a b : Nat) (ha : a < 18446744073709551616) (hb : b < 18446744073709551616) : bits .or .u64 (a : Int) (b : Int) = ((a ||| b : Nat) : Int) :=
  (bits_nat .u64 64 (by decide) wraps_u64 a b (by omega) (by omega)).2
theorem and_u64 (a b : Nat) (ha : a < 18446744073709551616) (hb : b < 18446744073709551616) : bits .and .u64 (a : Int) (b : Int) = ((a &&& b : Nat) : Int) :=
  (bits_nat .u64 64 (by decide) wraps_u64 a b (by omega) (by omega)).1
theorem or_u8 (a b : Nat) (ha : a < 256) (hb : b < 256) : bits .or .u8 (a : Int) (b : Int) = ((a ||| b : Nat) : Int) :=
  (bits_nat .u8 8 (by decide) wraps_u8 a b (by omega) (by omega)).2
theorem or_add (a b i : Nat) (h : b < 2 ^ i) : b ||| a * 2 ^ i = b + a * 2 ^ i := by
  rw [Nat.or_comm, Nat.mul_comm, ← Nat.two_pow_add_eq_or_of_lt h, Nat.add_comm]

theorem pow128_le (k : Nat) (h : k ≤ 9) : 128 ^ k ≤ 9223372036854775808 := by
  have := Nat.pow_le_pow_right (n := 128) (by decide) h
  exact Nat.le_trans this (by decide)

theorem shl_or (k y u : Nat) (hk : k ≤ 9) (hy : y < 128 ^ k) (hu : u < 256) (h9 : k = 9 → u ≤ 1) :
    bits .or .u64 (y : Int) (IntKind.u64.wrap (IntKind.u64.wrap (bits .and .u8 (u : Int) 127) * 2 ^ (7 * k))) = ((y + u % 128 * 128 ^ k : Nat) : Int) := by
  have hp : (2 : Nat) ^ (7 * k) = 128 ^ k := by rw [Nat.pow_mul]
  have hb : u % 128 * 128 ^ k < 18446744073709551616 := by
    by_cases h : k = 9
    · have := h9 h; subst h
      have : u % 128 ≤ 1 := by omega
      exact Nat.lt_of_le_of_lt (Nat.mul_le_mul_right _ this) (by decide)
    · have h1 := Nat.pow_le_pow_right (n := 128) (by decide) (show k ≤ 8 by omega)
      have h2 : u % 128 ≤ 127 := by omega
      exact Nat.lt_of_le_of_lt (Nat.mul_le_mul h2 h1) (by decide)
  have hy2 := Nat.lt_of_lt_of_le hy (pow128_le k hk)
  rw [and127 u hu, wrap_u64_nat _ (by omega)]
  have e : ((u % 128 : Nat) : Int) * 2 ^ (7 * k) = ((u % 128 * 128 ^ k : Nat) : Int) := by
    rw [← hp]; simp
  rw [e, wrap_u64_nat _ hb, or_u64 _ _ (by omega) hb]
  rw [← hp, or_add _ _ _ (by rw [hp]; exact hy)]
theorem shl_or_9 (y u : Nat) (hy : y < 128 ^ 9) (hu : u < 256) (h9 : u ≤ 1) :
    bits .or .u64 (y : Int) (IntKind.u64.wrap (IntKind.u64.wrap (bits .and .u8 (u : Int) 127) * 9223372036854775808)) = ((y + u % 128 * 128 ^ 9 : Nat) : Int) :=
  shl_or 9 y u (by decide) hy hu (fun _ => h9)
theorem xor_u8 (a b : UInt8) : bits .xor .u8 (a.toNat : Int) (b.toNat : Int) = ((a ^^^ b).toNat : Int) := by
  have ha : a.toNat < 256 := a.toNat_lt
  have hb : b.toNat < 256 := b.toNat_lt
  have hx : a.toNat ^^^ b.toNat < 2 ^ 8 := Nat.xor_lt_two_pow (by omega) (by omega)
  have h1 : (BitVec.ofInt 8 (a.toNat : Int)).toNat = a.toNat := by
    rw [BitVec.ofInt_natCast, BitVec.toNat_ofNat]; exact Nat.mod_eq_of_lt (by omega)
  have h2 : (BitVec.ofInt 8 (b.toNat : Int)).toNat = b.toNat := by
    rw [BitVec.ofInt_natCast, BitVec.toNat_ofNat]; exact Nat.mod_eq_of_lt (by omega)
  show IntKind.u8.wrap ((BitVec.ofInt 8 (a.toNat : Int) ^^^ BitVec.ofInt 8 (b.toNat : Int)).toNat : Int) = _
  rw [BitVec.toNat_xor, h1, h2, IntKind.wrap_u8, UInt8.toNat_xor]
  omega
end Go.Proofs.Ytccphnkdnifpfaa

namespace Go.Proofs.Ytccphnkdnifpfaa
set_option linter.unnecessarySimpa false
open Go.RowKit
set_option linter.unusedVariables false
set_option linter.unusedSimpArgs false

def hstep (h : Nat) (c : UInt8) : Nat := (h ^^^ c.toNat) * 1099511628211 % 18446744073709551616
def hashF (xs : List UInt8) : Nat := xs.foldl hstep 14695981039346656037
theorem hstep_lt (h : Nat) (c : UInt8) : hstep h c < 18446744073709551616 := Nat.mod_lt _ (by decide)
theorem hash_foldl_lt (xs : List UInt8) : ∀ h : Nat, h < 18446744073709551616 → xs.foldl hstep h < 18446744073709551616 := by
  induction xs with
  | nil => intro h hh; exact hh
  | cons c t ih => intro h hh; exact ih _ (hstep_lt h c)
theorem hashF_lt (xs : List UInt8) : hashF xs < 18446744073709551616 := hash_foldl_lt xs _ (by decide)
theorem hstep_wrap (h : Nat) (c : UInt8) (hh : h < 18446744073709551616) : IntKind.u64.wrap (bits .xor .u64 (h : Int) (c.toNat : Int) * 1099511628211) = ((hstep h c : Nat) : Int) := by
  have hc : c.toNat < 256 := c.toNat_lt
  rw [bits_xor_u64_nat _ _ hh (by omega), IntKind.wrap_u64]
  unfold hstep
  simp

set_option maxHeartbeats 800000 in
theorem hash_calls (w : World) (A : Option Addr) (n c : Nat) (xs : List UInt8) (h : Bytes w (.slice A n c) xs) (hl : xs.length = n) (hx : n ≤ 140737488355328) :
    Calls Try.prog 40 #[.slice A n c] w fun e w' => e = .returned (.int .u64 (hashF xs : Int)) ∧ w = w' := by
  have H := Lib.hid h
  have HL := Lib.hid hl
  clear h hl
  go_enter Try.func40, Try.ntmps40
  go_wp2
  go_loop [3, 8] (fun x i => ∃ k : Nat, k ≤ n ∧ i = .int .i64 (k : Int) ∧ x = .int .u64 (((xs.take k).foldl hstep 14695981039346656037 : Nat) : Int)) (fun _ i => n - (intOf i).toNat)
  case atStart => exact ⟨0, by omega, rfl, rfl⟩
  case round =>
    obtain ⟨k, hk, rfl, rfl⟩ := hrel
    by_cases hlt : k < n
    · obtain ⟨b, o, rfl, hcell⟩ := H.out.addr (by rw [HL.out]; omega)
      have hc := hcell k (by rw [HL.out]; exact hlt)
      have HT := Lib.hid (foldl_take hstep 14695981039346656037 xs k (by rw [HL.out]; exact hlt))
      have HB := Lib.hid (hash_foldl_lt (xs.take k) 14695981039346656037 (by decide))
      generalize xs[k]'(by rw [HL.out]; exact hlt) = u at hc HT
      have hu : u.toNat < 256 := u.toNat_lt
      clear hcell
      generalize hy : (xs.take k).foldl hstep 14695981039346656037 = y at *
      have HY := Lib.hid hy
      clear hy
      go_wp2
      go_round
      case rel => exact ⟨k + 1, hlt, by go_num, by rw [HT.out]; exact congrArg (Value.int .u64) (hstep_wrap y u HB.out)⟩
      case measure => simp [intOf]; omega
    · have : k = n := by omega
      subst this
      have HF : Hid ((xs.take k).foldl hstep 14695981039346656037 = hashF xs) := by rw [List.take_of_length_le (by rw [HL.out]; exact Nat.le_refl _)]; rfl
      go_wp2
      go_ret
      exact ⟨by rw [← HF.out]; rfl, rfl⟩

/-- A number's short form. -/
def leb (n : Nat) : List UInt8 := if n < 128 then [UInt8.ofNat n] else UInt8.ofNat (n % 128 + 128) :: leb (n / 128)
termination_by n
decreasing_by omega
theorem leb_small (n : Nat) (h : n < 128) : leb n = [UInt8.ofNat n] := by rw [leb, if_pos h]
theorem leb_big (n : Nat) (h : ¬ n < 128) : leb n = UInt8.ofNat (n % 128 + 128) :: leb (n / 128) := by rw [leb, if_neg h]
theorem leb_len (k : Nat) : ∀ n, n < 128 ^ (k + 1) → (leb n).length ≤ k + 1 := by
  induction k with
  | zero => intro n h; rw [leb_small n (by simpa using h)]; simp
  | succ k ih =>
    intro n h
    by_cases h1 : n < 128
    · rw [leb_small n h1]; simp
    · rw [leb_big n h1]
      have := ih (n / 128) (by rw [Nat.pow_succ] at h; exact Nat.div_lt_of_lt_mul (by rw [Nat.mul_comm]; exact h))
      simp only [List.length_cons]
      omega
theorem leb_len10 (n : Nat) (h : n < 18446744073709551616) : (leb n).length ≤ 10 := leb_len 9 n (Nat.lt_of_lt_of_le h (by decide))

theorem or128_nat : ∀ a, a < 256 → a ||| 128 = a % 128 + 128 := by decide +kernel
theorem or128 (y : Nat) : bits .or .u8 (IntKind.u8.wrap (y : Int)) 128 = (((UInt8.ofNat (y % 128 + 128)).toNat : Nat) : Int) := by
  rw [wrap_u8_nat]
  have h := or_u8 (y % 256) 128 (by omega) (by decide)
  have e : ∀ a, a < 256 → a ||| 128 = a % 128 + 128 := or128_nat
  rw [show ((128 : Nat) : Int) = 128 from rfl] at h
  rw [h, e _ (by omega)]
  have : (UInt8.ofNat (y % 128 + 128)).toNat = y % 128 + 128 := by simp; omega
  rw [this]
  congr 2
  omega
theorem leb_pos (y : Nat) : 0 < (leb y).length := by
  by_cases h : y < 128
  · rw [leb_small y h]; simp
  · rw [leb_big y h]; simp
theorem wrap_small (y : Nat) : IntKind.u8.wrap (y : Int) = (((UInt8.ofNat y).toNat : Nat) : Int) := by
  rw [wrap_u8_nat]; simp

set_option maxRecDepth 100000 in
set_option maxHeartbeats 800000 in
theorem putuint_calls (w : World) (A : Option Addr) (n c : Nat) (bs : List UInt8) (h : Bytes w (.slice A n c) bs) (hl : bs.length = n) (x : Nat) (xv : Int) (hxv : xv = (x : Int)) (hx64 : x < 18446744073709551616) (hx : n ≤ 140737488355318) :
    Calls Try.prog 73 #[.slice A n c, .int .u64 xv] w fun e w' => ∃ v, e = .returned v ∧ OwnB w' w.heap.size v (bs ++ leb x) ∧ Chg No w w' := by
  subst hxv
  have H := Lib.hid h
  have HL := Lib.hid hl
  clear h hl
  go_enter Try.func73, Try.ntmps73
  go_wp2_with fail
  refine (clone_any _ _ _ _ _ H.out (by omega)).mono ?_
  rintro e w1 ⟨v1, rfl, hown1, hc1⟩
  have HO1 := Lib.hid hown1
  have HC1 := Lib.hid hc1
  clear hown1 hc1
  go_wp2
  go_loopw [1, 5] (fun xv v wr => ∃ (y : Nat) (acc : List UInt8), y ≤ x ∧ xv = .int .u64 (y : Int) ∧ Hid (OwnB wr w.heap.size v (bs ++ acc)) ∧ Hid (acc ++ leb y = leb x) ∧ Hid (Chg No w wr)) (fun xv _ _ => (intOf xv).toNat)
  case atStart => exact ⟨x, [], Nat.le_refl _, rfl, by simpa [Hid] using HO1.out, by simp [Hid], HC1.out⟩
  case round =>
    obtain ⟨y, acc, hy, rfl, HO, HA, HC⟩ := hrel
    have hlen : bs.length + acc.length + 1 ≤ 140737488355328 := by
      have h1 := congrArg List.length HA.out
      have h2 := leb_len10 x hx64
      have h3 := HL.out
      have h4 := leb_pos y
      simp only [List.length_append] at h1
      omega
    have HLen := Lib.hid hlen
    have hsz : w.heap.size ≤ wr.heap.size := HC.out.size
    by_cases hb : y < 128
    · have HE := Lib.hid (leb_small y hb)
      have HV : Hid (((UInt8.ofNat y).toNat : Int) = (y : Int)) := by simp only [Hid, UInt8.toNat_ofNat']; omega
      go_wp2_with (at_builtin; (refine wpList_app _ rfl (.tmp 18) (.tmp 21) 30 30 rfl w.heap.size 5 (.int .u8 0) 1 1 infoU8 Try.underlying30 rfl (by decide) u5 (.slice (some ⟨wr.heap.size, 0, none⟩) 1 1) (bs ++ acc).length 1 (u8s (bs ++ acc)) [.int .u8 (y : Int)] rfl rfl ?own ?src ?b1 ?b2 ?b3 ?_; (case own => exact HO.out.alloc _); (case src => exact Src.one Try.underlying30 _ rfl); (case b1 => simp only [List.length_append]; have := HLen.out; omega); (case b2 => unfold maxLen; simp only [List.length_append]; have := HLen.out; omega); (case b3 => simp; omega); intro v' w' hown hg))
      go_ret
      refine ⟨_, rfl, .of hown ?_, (HC.out.alloc _).grown hg ?_⟩
      · rw [← HA.out, HE.out, ← List.append_assoc]; exact u8s_snoc _ _ _ HV.out
      · intro k hk
        exact .inl (HO.out.block k hk).1
    · have HE := Lib.hid (leb_big y hb)
      have HV := Lib.hid (or128 y)
      go_wp2_with (at_builtin; (refine wpList_app _ rfl (.tmp 10) (.tmp 14) 30 30 rfl w.heap.size 5 (.int .u8 0) 1 1 infoU8 Try.underlying30 rfl (by decide) u5 (.slice (some ⟨wr.heap.size, 0, none⟩) 1 1) (bs ++ acc).length 1 (u8s (bs ++ acc)) [.int .u8 (bits .or .u8 (IntKind.u8.wrap (y : Int)) 128)] rfl rfl ?own ?src ?b1 ?b2 ?b3 ?_; (case own => exact HO.out.alloc _); (case src => exact Src.one Try.underlying30 _ rfl); (case b1 => simp only [List.length_append]; have := HLen.out; omega); (case b2 => unfold maxLen; simp only [List.length_append]; have := HLen.out; omega); (case b3 => simp; omega); intro v' w' hown hg))
      go_roundw
      case rel =>
        refine ⟨y / 128, acc ++ [UInt8.ofNat (y % 128 + 128)], by omega, by go_num, ?_, ?_, ?_⟩
        · refine OwnB.of hown ?_
          rw [← List.append_assoc]; exact u8s_snoc _ _ _ HV.out.symm
        · rw [Hid, ← HA.out, HE.out]; simp
        · exact (HC.out.alloc _).grown hg (fun k hk => .inl (HO.out.block k hk).1)
      case measure => simp [intOf]; omega
end Go.Proofs.Ytccphnkdnifpfaa

namespace Go.Proofs.Ytccphnkdnifpfaa
set_option linter.unnecessarySimpa false
open Go.RowKit
set_option linter.unusedVariables false
set_option linter.unusedSimpArgs false

/-- A number's wide form. -/
def wide (x : Nat) : List UInt8 := (List.range 8).map fun j => UInt8.ofNat (x / 256 ^ (7 - j))
theorem wide_len (x : Nat) : (wide x).length = 8 := by simp [wide]
theorem wide_take (x k : Nat) (hk : k < 8) : (wide x).take (k + 1) = (wide x).take k ++ [UInt8.ofNat (x / 256 ^ (7 - k))] := by
  rw [List.take_succ_eq_append_getElem (by rw [wide_len]; exact hk)]
  simp [wide]

theorem wide_byte (x k : Nat) (hk : k < 8) : ((UInt8.ofNat (x / 256 ^ (7 - k))).toNat : Int) = (x : Int) / 2 ^ (56 - 8 * k) % 256 := by
  have e : (2 : Nat) ^ (56 - 8 * k) = 256 ^ (7 - k) := by
    rw [show 56 - 8 * k = 8 * (7 - k) by omega, Nat.pow_mul]
  rw [UInt8.toNat_ofNat', ← e]
  simp

set_option maxRecDepth 100000 in
set_option maxHeartbeats 800000 in
theorem putword_calls (w : World) (A : Option Addr) (n c : Nat) (bs : List UInt8) (h : Bytes w (.slice A n c) bs) (hl : bs.length = n) (x : Nat) (xv : Int) (hxv : xv = (x : Int)) (hx64 : x < 18446744073709551616) (hx : n ≤ 140737488355318) :
    Calls Try.prog 72 #[.slice A n c, .int .u64 xv] w fun e w' => ∃ v, e = .returned v ∧ OwnB w' w.heap.size v (bs ++ wide x) ∧ Chg No w w' := by
  subst hxv
  have H := Lib.hid h
  have HL := Lib.hid hl
  clear h hl
  go_enter Try.func72, Try.ntmps72
  go_wp2_with fail
  refine (clone_any _ _ _ _ _ H.out (by omega)).mono ?_
  rintro e w1 ⟨v1, rfl, hown1, hc1⟩
  have HO1 := Lib.hid hown1
  have HC1 := Lib.hid hc1
  clear hown1 hc1
  go_wp2
  go_loopw [5, 6] (fun v s wr => ∃ k : Nat, k ≤ 8 ∧ s = .int .i64 (56 - 8 * (k : Int)) ∧ Hid (OwnB wr w.heap.size v (bs ++ (wide x).take k)) ∧ Hid (Chg No w wr)) (fun _ s _ => (intOf s + 8).toNat)
  case atStart => exact ⟨0, by omega, by simp, by simpa [Hid] using HO1.out, HC1.out⟩
  case round =>
    obtain ⟨k, hk, rfl, HO, HC⟩ := hrel
    have HLen : Hid (bs.length + 8 ≤ 140737488355328) := by have := HL.out; simp only [Hid]; omega
    by_cases hb : k < 8
    · have HT := Lib.hid (wide_take x k hb)
      have hs0 : 0 ≤ 56 - 8 * (k : Int) := by omega
      have HV := Lib.hid (wide_byte x k hb)
      have hsz : w.heap.size ≤ wr.heap.size := HC.out.size
      go_wp2_with (at_builtin; go_loud (refine wpList_app _ rfl (.tmp 13) (.tmp 18) 30 30 rfl w.heap.size 5 (.int .u8 0) 1 1 infoU8 Try.underlying30 rfl (by decide) u5 (.slice (some ⟨wr.heap.size, 0, none⟩) 1 1) (bs ++ (wide x).take k).length 1 (u8s (bs ++ (wide x).take k)) [.int .u8 ((x : Int) / 2 ^ (56 - 8 * k) % 256)] rfl rfl ?own ?src ?b1 ?b2 ?b3 ?_; (case own => exact HO.out.alloc _); (case src => exact Src.one Try.underlying30 _ rfl); (case b1 => simp only [List.length_append, List.length_take]; have := HLen.out; omega); (case b2 => unfold maxLen; simp only [List.length_append, List.length_take]; have := HLen.out; omega); (case b3 => simp; omega); intro v' w' hown hg))
      go_roundw
      case rel =>
        refine ⟨k + 1, by omega, by go_num, ?_, ?_⟩
        · refine OwnB.of hown ?_
          rw [HT.out, ← List.append_assoc]; exact u8s_snoc _ _ _ HV.out
        · exact (HC.out.alloc _).grown hg (fun k hk => .inl (HO.out.block k hk).1)
      case measure => simp [intOf]; omega
    · go_wp2
      go_ret
      have : k = 8 := by omega
      subst this
      have := HO.out
      rw [List.take_of_length_le (by rw [wide_len]; omega)] at this
      exact ⟨_, rfl, this, HC.out⟩

set_option maxHeartbeats 400000 in
theorem puttext_calls (w : World) (A : Option Addr) (n c : Nat) (bs : List UInt8) (h : Bytes w (.slice A n c) bs) (hl : bs.length = n) (s : ByteArray) (hx : n + s.size ≤ 140737488355318) :
    Calls Try.prog 74 #[.slice A n c, .string s] w fun e w' => ∃ v, e = .returned v ∧ OwnB w' w.heap.size v (bs ++ (leb s.size ++ s.data.toList)) ∧ Chg No w w' := by
  have H := Lib.hid h
  have HL := Lib.hid hl
  clear h hl
  go_enter Try.func74, Try.ntmps74
  go_wp2_with fail
  refine (putuint_calls _ _ _ _ bs H.out HL.out s.size _ rfl (by omega) (by omega)).mono ?_
  rintro e w1 ⟨v1, rfl, hown1, hc1⟩
  have HO1 := Lib.hid hown1
  have HC1 := Lib.hid hc1
  have hsz := hc1.size
  have hlen := leb_len10 s.size (by omega)
  have HLen := Lib.hid hlen
  clear hown1 hc1 hlen
  go_wp2_with (at_builtin; go_loud (refine wpList_app _ rfl (.tmp 9) (.tmp 10) 30 9 rfl w.heap.size 5 (.int .u8 0) 1 1 infoU8 Try.underlying30 rfl (by decide) v1 (.string s) (bs ++ leb s.size).length s.size (u8s (bs ++ leb s.size)) (u8s s.data.toList) rfl rfl ?own ?src ?b1 ?b2 ?b3 ?_; (case own => exact HO1.out); (case src => exact Src.ofText Try.underlying9 s); (case b1 => simp only [List.length_append]; have := HLen.out; have := HL.out; omega); (case b2 => unfold maxLen; simp only [List.length_append]; have := HLen.out; have := HL.out; omega); (case b3 => omega); intro v' w' hown hg))
  go_ret
  exact ⟨_, rfl, .of hown (by rw [← u8s_append, List.append_assoc]), HC1.out.grown hg (fun k hk => .inl (HO1.out.block k hk).1)⟩

/-- A digit. -/
def hexd (d : Nat) : UInt8 := UInt8.ofNat (if d < 10 then 48 + d else 87 + d)
/-- A number in sixteen digits. -/
def hexF (x : Nat) : List UInt8 := (List.range 16).map fun j => hexd (x / 16 ^ (15 - j) % 16)

theorem digits_get : ∀ (q : Nat) (h : q < 16), ((⟨#[48, 49, 50, 51, 52, 53, 54, 55, 56, 57, 97, 98, 99, 100, 101, 102]⟩ : ByteArray)[q]'h).toNat = (hexd q).toNat := by decide
theorem and15_u64 (y : Nat) (h : y < 18446744073709551616) : bits .and .u64 (y : Int) 15 = ((y % 16 : Nat) : Int) := by
  have := and_u64 y 15 h (by decide)
  rw [show ((15 : Nat) : Int) = 15 from rfl] at this
  rw [this, show 15 = 2 ^ 4 - 1 from rfl, Nat.and_two_pow_sub_one_eq_mod]

end Go.Proofs.Ytccphnkdnifpfaa

namespace Go.Proofs.Ytccphnkdnifpfaa
set_option linter.unnecessarySimpa false
open Go.RowKit
set_option linter.unusedVariables false
set_option linter.unusedSimpArgs false

/-- What a digit says. -/
def hexv (c : Nat) : Option Nat := if 48 ≤ c ∧ c ≤ 57 then some (c - 48) else if 97 ≤ c ∧ c ≤ 102 then some (c - 87) else none
theorem hexv_lt {c d : Nat} (h : hexv c = some d) : d < 16 := by
  unfold hexv at h
  split at h
  · cases h; omega
  · split at h
    · cases h; omega
    · cases h
def unhexGo (x : Nat) : List UInt8 → Option Nat
  | [] => some x
  | c :: t => match hexv c.toNat with
    | none => none
    | some d => unhexGo (x * 16 + d) t
/-- The number of sixteen digits. -/
def unhexF (xs : List UInt8) : Option Nat := if xs.length = 16 then unhexGo 0 xs else none
theorem unhexGo_bad (x : Nat) (c : UInt8) (t : List UInt8) (h : hexv c.toNat = none) : unhexGo x (c :: t) = none := by simp [unhexGo, h]
theorem unhexGo_ok (x d : Nat) (c : UInt8) (t : List UInt8) (h : hexv c.toNat = some d) : unhexGo x (c :: t) = unhexGo (x * 16 + d) t := by simp [unhexGo, h]

def unhexR (xs : List UInt8) : Ending := match unhexF xs with
  | none => .returned (.tuple #[.int .u64 0, .int .i64 8])
  | some x => .returned (.tuple #[.int .u64 (x : Int), .int .i64 0])
theorem unhexR_none {xs : List UInt8} (h : unhexF xs = none) : unhexR xs = .returned (.tuple #[.int .u64 0, .int .i64 8]) := by simp [unhexR, h]
theorem unhexR_some {xs : List UInt8} {x : Nat} (h : unhexF xs = some x) : unhexR xs = .returned (.tuple #[.int .u64 (x : Int), .int .i64 0]) := by simp [unhexR, h]
theorem shl4_or (y d : Nat) (hy : y < 1152921504606846976) (hd : d < 16) (dv : Int) (hdv : dv = (d : Int)) : bits .or .u64 ((y : Int) * 16) dv = ((y * 16 + d : Nat) : Int) := by
  subst hdv
  have e : (y : Int) * 16 = ((y * 16 : Nat) : Int) := by simp
  rw [e, or_u64 _ _ (by omega) (by omega), Nat.or_comm]
  have := or_add y d 4 (by simpa using hd)
  simp only [Nat.reducePow] at this
  rw [this, Nat.add_comm]
theorem pow16_lt (k : Nat) (h : k ≤ 15) : 16 ^ k ≤ 1152921504606846976 := by
  have := Nat.pow_le_pow_right (n := 16) (by decide) h
  exact Nat.le_trans this (by decide)

end Go.Proofs.Ytccphnkdnifpfaa

