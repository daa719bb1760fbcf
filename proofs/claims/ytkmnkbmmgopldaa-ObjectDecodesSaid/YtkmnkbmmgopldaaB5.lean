/-
  Encode of a commit.
-/
import Derived.Test.YtkmnkbmmgopldaaB4
import Derived.Test.YtkmnkbmmgopldaaN3
namespace Go.Proofs.Ytkmnkbmmgopldaa
open Go.RowKit
set_option linter.unusedVariables false
set_option linter.unusedSimpArgs false
set_option maxRecDepth 100000

/-- A whole number as one of 64 bits. -/
def du (d : Int) : Nat := (d % 18446744073709551616).toNat
theorem du_lt (d : Int) : du d < 18446744073709551616 := by unfold du; omega
def commitB (t : Nat) (ps : List Nat) (a : List UInt8) (d : Int) (x : List UInt8) : List UInt8 :=
  [99] ++ wide t ++ leb ps.length ++ ps.flatMap wide ++ (leb a.length ++ a) ++ wide (du d) ++ (leb x.length ++ x)
theorem wrap_du (d : Int) : IntKind.u64.wrap d = (du d : Int) := by
  have : IntKind.u64.wrap d = d % 18446744073709551616 := by
    simp [IntKind.wrap, IntKind.signed, IntKind.bits]
  rw [this]; unfold du; omega

theorem commitF_zero {t : Nat} {ps : List Nat} {a x : List UInt8} (h : commitF t ps a x = 0) : t ≠ 0 ∧ ps.length ≤ 8 ∧ 0 ∉ ps ∧ a.length ≤ 64 ∧ rightF a = true ∧ x.length ≤ 1024 ∧ rightF x = true := by
  unfold commitF at h
  by_cases h1 : t = 0
  · rw [if_pos h1] at h; cases h
  rw [if_neg h1] at h
  by_cases h2 : 8 < ps.length
  · rw [if_pos h2] at h; cases h
  rw [if_neg h2] at h
  by_cases h3 : 0 ∈ ps
  · rw [if_pos h3] at h; cases h
  rw [if_neg h3] at h
  by_cases h4 : 64 < a.length
  · rw [if_pos h4] at h; cases h
  rw [if_neg h4] at h
  by_cases h5 : rightF a = false
  · rw [if_pos h5] at h; cases h
  rw [if_neg h5] at h
  by_cases h6 : 1024 < x.length
  · rw [if_pos h6] at h; cases h
  rw [if_neg h6] at h
  by_cases h7 : rightF x = false
  · rw [if_pos h7] at h; cases h
  exact ⟨h1, by omega, h3, by omega, by simpa using h5, by omega, by simpa using h7⟩

set_option maxHeartbeats 800000 in
/-- What Check refuses, Encode refuses. -/
theorem encode_refused (w : World) (o : Value) (k : Nat) (hk : k ≠ 0) (h : Calls Try.prog 14 #[o] w fun e w' => e = .returned (.int .i64 (k : Int)) ∧ Chg No w w') :
    Calls Try.prog 21 #[o] w fun e w' => e = .returned (.tuple #[.slice none 0 0, .int .i64 (k : Int)]) ∧ Chg No w w' := by
  have hb : ((k : Int) != 0) = true := by simp; omega
  go_enter Try.func21, Try.ntmps21
  go_wp2_with fail
  refine h.mono ?_
  rintro e w1 ⟨rfl, hc1⟩
  go_wp2
  go_ret2
  exact ⟨rfl, hc1⟩

set_option maxHeartbeats 3200000 in
theorem encode_commit (w : World) (t : Nat) (A : Option Addr) (n c : Nat) (ps : List Nat) (a : ByteArray) (d : Int) (x : ByteArray) (h : Sl u64v w (.slice A n c) ps) (hF : commitF t ps a.data.toList x.data.toList = 0)
    (ht : t < 18446744073709551616) (hps : ∀ p ∈ ps, p < 18446744073709551616) :
    Calls Try.prog 21 #[commitV (t : Int) (.slice A n c) a d x] w fun e w' => ∃ v, e = .returned (.tuple #[v, .int .i64 0]) ∧ OwnB w' w.heap.size v (commitB t ps a.data.toList d x.data.toList) ∧ Chg No w w' := by
  have HZ := commitF_zero hF
  have hl := h.len
  have hal := size_list a
  have hxl := size_list x
  have fb := fun w => ta_commit_blob w
  have ft := fun w => ta_commit_tree w
  have fc := fun w => ta1_commit_commit w
  have hn8 : n ≤ 8 := by omega
  have ha64 : a.size ≤ 64 := by omega
  have hx1024 : x.size ≤ 1024 := by omega
  have H := Lib.hid h
  have HL := Lib.hid hl
  have HPS := Lib.hid hps
  have HAL := Lib.hid hal
  have HXL := Lib.hid hxl
  have HF := Lib.hid hF
  clear h hl hps hF HZ hal hxl
  go_enter Try.func21, Try.ntmps21
  go_wp2_with fail
  refine (check_commit w t A n c ps a d x H.out (by omega) (by omega) (by omega)).mono ?_
  rintro e w1 ⟨rfl, hc1⟩
  rw [HF.out]
  have HC1 := Lib.hid hc1
  have hs1 := hc1.size
  clear hc1
  have own0 : Hid (OwnB (((((w1.alloc (.cells #[.slice none 0 0] 38)).alloc (.cells #[.slice none 0 0] 40)).alloc (.cells #[.slice none 0 0] 33)).alloc (.cells #[.int .u64 (t : Int), .slice A n c, .string a, .int .i64 d, .string x] 27)).alloc (.cells #[.int .u8 99] 5)) w.heap.size (.slice none 0 0) []) := World.ownsRow_nil _ _ _ _
  have src0 : Hid (Src Try.prog 1 38 (.slice (some ⟨w1.heap.size + 1 + 1 + 1 + 1, 0, none⟩) 1 1) 1 (u8s [99]) (((((w1.alloc (.cells #[.slice none 0 0] 38)).alloc (.cells #[.slice none 0 0] 40)).alloc (.cells #[.slice none 0 0] 33)).alloc (.cells #[.int .u64 (t : Int), .slice A n c, .string a, .int .i64 d, .string x] 27)).alloc (.cells #[.int .u8 99] 5))) := by
    have := Src.one (P := Try.prog) (t := 5) (w := (((w1.alloc (.cells #[.slice none 0 0] 38)).alloc (.cells #[.slice none 0 0] 40)).alloc (.cells #[.slice none 0 0] 33)).alloc (.cells #[.int .u64 (t : Int), .slice A n c, .string a, .int .i64 d, .string x] 27)) Try.underlying38 (.int .u8 99) rfl
    simp only [World.size_alloc] at this
    exact this
  go_wp2_with (at_builtin; (refine wpList_app2 rfl (.tmp 70) (.tmp 71) 38 38 rfl w.heap.size 5 (.int .u8 0) 1 1 infoU8 Try.underlying38 rfl (by decide) (.slice none 0 0) (.slice (some ⟨w1.heap.size + 1 + 1 + 1 + 1, 0, none⟩) 1 1) 0 1 (u8s []) (u8s [99]) rfl rfl ?own ?src ?b1 ?b2 ?b3 ?_; (case own => exact OwnB.n own0.out rfl); (case src => exact src0.out); (case b1 => omega); (case b2 => unfold maxLen; omega); (case b3 => simp; omega); intro vb w4 hown4 hg4 hfrom4; refine Hid.out ?_))
  refine Lib.hid ?_
  have hO4 : OwnB w4 w.heap.size vb [99] := OwnB.of hown4 (by simp [u8s])
  have hC4 : Chg No w w4 := (((((HC1.out.alloc _).alloc _).alloc _).alloc _).alloc _).grown hg4 (fun k hk => by simp [Value.ownBlock] at hk)
  have hG4 : Box 38 w4 w1.heap.size (.slice none 0 0) := by
    have := Box.new w1 (.slice none 0 0) 38
    have := (((((this.no ((Chg.refl No _).alloc (.cells #[.slice none 0 0] 40)))).no ((Chg.refl No _).alloc (.cells #[.slice none 0 0] 33))).no ((Chg.refl No _).alloc (.cells #[.int .u64 (t : Int), .slice A n c, .string a, .int .i64 d, .string x] 27))).no ((Chg.refl No _).alloc (.cells #[.int .u8 99] 5)))
    exact this.chg (Chg.ofGrown (S := No) hg4 (fun k hk => by simp [Value.ownBlock] at hk)) (fun x => x)
  have hP4 : w4.heap[w1.heap.size + 1 + 1 + 1]? = some (.cells #[.int .u64 (t : Int), .slice A n c, .string a, .int .i64 d, .string x] 27 (0, 0)) := by
    have := heap_alloc_new (((w1.alloc (.cells #[.slice none 0 0] 38)).alloc (.cells #[.slice none 0 0] 40)).alloc (.cells #[.slice none 0 0] 33)) (.cells #[.int .u64 (t : Int), .slice A n c, .string a, .int .i64 d, .string x] 27)
    simp only [World.size_alloc] at this
    exact (Chg.ofGrown (S := No) hg4 (fun k hk => by simp [Value.ownBlock] at hk)).heap (((Chg.refl No _).alloc (.cells #[.int .u8 99] 5)).heap this (fun x => x)) (fun x => x)
  obtain ⟨AB, nb, cb, rfl, HLB, HOB⟩ := hO4.form
  have hc4 := hG4.c
  have hf4 := hG4.fr
  have HW5 : Hid (Chg No w (w4.setCell ⟨w1.heap.size, 0, none⟩ (.slice AB nb cb)) ∧ Box 38 (w4.setCell ⟨w1.heap.size, 0, none⟩ (.slice AB nb cb)) w1.heap.size (.slice AB nb cb) ∧ OwnB (w4.setCell ⟨w1.heap.size, 0, none⟩ (.slice AB nb cb)) w.heap.size (.slice AB nb cb) [99] ∧
      (w4.setCell ⟨w1.heap.size, 0, none⟩ (.slice AB nb cb)).heap[w1.heap.size + 1 + 1 + 1]? = some (.cells #[.int .u64 (t : Int), .slice A n c, .string a, .int .i64 d, .string x] 27 (0, 0))) :=
    ⟨hC4.one (Chg.put w4 _ 0 _) (.inl hs1), hG4.set _, HOB.out.chg (Chg.put w4 _ 0 _) (HOB.out.apart hG4 (by decide)), (Chg.put w4 _ 0 _).heap hP4 (by show ¬ _ = _; omega)⟩
  have e0 := cellAt hP4 0 _ rfl
  clear hO4 hC4 hP4 hown4 hg4 hfrom4 own0 src0 HOB HC1
  have hs4 : w1.heap.size < w4.heap.size := hG4.lt
  clear hG4
  go_wp2_with fail
  clear e0 hc4 hf4
  generalize hgc : w1.heap.size + 1 + 1 + 1 = gc at *
  generalize hgg : w1.heap.size = g at *
  generalize hw5 : w4.setCell ⟨g, 0, none⟩ (.slice AB nb cb) = w5 at *
  have hs5 : g < w5.heap.size := by rw [← hw5]; simpa using hs4
  have hs45 : w5.heap.size = w4.heap.size := by rw [← hw5]; simp
  clear hw5 hs4
  obtain ⟨hC5, hB5, hO5, hP5⟩ := HW5.out
  have hne : gc ≠ g := by omega
  refine (word_cl _ g w.heap.size _ [99] _ 1 1 [t] (by have := hC5.size; simp; omega) (hB5.no ((Chg.refl No w5).alloc _)) (OwnB.alloc hO5 _) ?_ (by simpa using ht) (by omega) (by simp)).mono ?_
  · intro W hW
    refine ⟨_, _, rfl, Nat.le_refl _, by unfold maxLen; omega, fun _ => ⟨w5.heap.size, 0, by rw [hs45], fun j u hj => ?_⟩⟩
    rcases j with _ | j
    · simp [u64v] at hj
      subst hj
      exact hW.cell (cellAt (heap_alloc_new w5 _) 0 _ rfl) (by intro hx; have hx : w5.heap.size = g := hx; omega)
    · simp at hj
  clear HW5 hs45
  rintro e w6 ⟨rfl, v6, hB6, hO6, hc6⟩
  have hC6 : Chg No w w6 := (hC5.alloc _).one hc6 (.inl hs1)
  have hP6 := hc6.heap (((Chg.refl No w5).alloc _).heap hP5 (fun x => x)) hne
  rw [show [99] ++ List.flatMap wide [t] = [99] ++ wide t from by simp] at hO6
  have hl6 : ([99] ++ wide t).length = 9 := by simp [wide_len]
  generalize hb6 : [99] ++ wide t = b6 at *
  have HB6' := Lib.hid hb6
  clear hc6 hC5 hB5 hO5 hP5
  clear hb6
  obtain ⟨A6, n6, c6, rfl, HL6, HO6⟩ := hO6.form
  have hn6 : n6 ≤ 9 := by rw [← HL6.out, hl6]; exact Nat.le_refl _
  have x1 := hB6.c
  have x3 := cellAt hP6 1 _ rfl
  have hwn : IntKind.u64.wrap (n : Int) = (n : Int) := wrap_u64_nat _ (by omega)
  have HB6 := Lib.hid hB6
  have HP6 := Lib.hid hP6
  have HC6 := Lib.hid hC6
  have hs6 := hC6.size
  clear hB6 hO6 hP6 hl6 hC6
  go_wp2_with fail
  refine (putuint_calls w6 A6 n6 c6 b6 HO6.out.bytes HL6.out n (n : Int) rfl (by omega) (by omega)).mono ?_
  rintro e w7 ⟨v7, rfl, hO7, hc7⟩
  have hl7 : (b6 ++ leb n).length ≤ 19 := by rw [List.length_append, HL6.out]; have := leb_len10 n (by omega); omega
  generalize hb7 : b6 ++ leb n = b7 at *
  obtain ⟨A7, n7, c7, rfl, HL7, HO7⟩ := hO7.form
  have hB7 := HB6.out.no hc7
  have y1 := hB7.c
  have y2 := hB7.fr
  have y3 := cellAt (hc7.heap HP6.out (fun x => x)) 1 _ rfl
  have hO7' : OwnB w7 w.heap.size (.slice A7 n7 c7) b7 := hO7.mono hs6
  have H8 : Hid (Chg No w (w7.setCell ⟨g, 0, none⟩ (.slice A7 n7 c7)) ∧ Box 38 (w7.setCell ⟨g, 0, none⟩ (.slice A7 n7 c7)) g (.slice A7 n7 c7) ∧ OwnB (w7.setCell ⟨g, 0, none⟩ (.slice A7 n7 c7)) w.heap.size (.slice A7 n7 c7) b7 ∧
      (w7.setCell ⟨g, 0, none⟩ (.slice A7 n7 c7)).heap[gc]? = some (.cells #[.int .u64 (t : Int), .slice A n c, .string a, .int .i64 d, .string x] 27 (0, 0))) :=
    ⟨(HC6.out.no hc7).one (Chg.put w7 _ 0 _) (.inl hs1), hB7.set _, hO7'.chg (Chg.put w7 _ 0 _) (hO7'.apart hB7 (by decide)), (Chg.put w7 _ 0 _).heap (hc7.heap HP6.out (fun x => x)) hne⟩
  have HB7 := Lib.hid hb7
  clear hB7 hO7 hO7' hc7 HO7 HB6 HP6 HC6 HO6 x1 x3 hwn hb7
  go_wp2_with fail
  clear y1 y2 y3
  generalize w7.setCell ⟨g, 0, none⟩ (.slice A7 n7 c7) = w8 at *
  obtain ⟨hC8, hB8, hO8, hP8⟩ := H8.out
  refine (word_cl w8 g w.heap.size _ b7 A n c ps hC8.size hB8 hO8 (fun W hW => H.out.no (hC8.one hW (.inl hs1))) HPS.out (by omega) (by omega)).mono ?_
  clear H8
  rintro e w9 ⟨rfl, v9, hB9, hO9, hc9⟩
  have hC9 : Chg No w w9 := hC8.one hc9 (.inl hs1)
  have hP9 := hc9.heap hP8 hne
  have hl9 : (b7 ++ ps.flatMap wide).length ≤ 83 := by rw [List.length_append, wides_len, HL.out]; omega
  generalize hb9 : b7 ++ ps.flatMap wide = b9 at *
  have HB9' := Lib.hid hb9
  clear hc9 hC8 hB8 hO8 hP8 hb9
  obtain ⟨A9, n9, c9, rfl, HL9, HO9⟩ := hO9.form
  have hn9 : n9 ≤ 83 := by rw [← HL9.out]; exact hl9
  have x1 := hB9.c
  have x3 := cellAt hP9 2 _ rfl
  have HB9 := Lib.hid hB9
  have HP9 := Lib.hid hP9
  have HC9 := Lib.hid hC9
  have hs9 := hC9.size
  clear hB9 hO9 hP9 hC9 hl9 hl7
  go_wp2_with fail
  refine (puttext_calls w9 A9 n9 c9 b9 HO9.out.bytes HL9.out a (by omega)).mono ?_
  rintro e w10 ⟨v10, rfl, hO10, hc10⟩
  have hl10 : (b9 ++ (leb a.size ++ a.data.toList)).length ≤ 157 := by simp only [List.length_append, HL9.out, HAL.out]; have := leb_len10 a.size (by omega); omega
  generalize hb10 : b9 ++ (leb a.size ++ a.data.toList) = b10 at *
  have HB10' := Lib.hid hb10
  obtain ⟨A10, n10, c10, rfl, HL10, HO10⟩ := hO10.form
  have hn10 : n10 ≤ 157 := by rw [← HL10.out]; exact hl10
  have hB10 := HB9.out.no hc10
  have y1 := hB10.c
  have y2 := hB10.fr
  have y3 := cellAt (hc10.heap HP9.out (fun x => x)) 3 _ rfl
  have hO10' : OwnB w10 w.heap.size (.slice A10 n10 c10) b10 := hO10.mono hs9
  have hw10 := wrap_du d
  have H11 : Hid (Chg No w (w10.setCell ⟨g, 0, none⟩ (.slice A10 n10 c10)) ∧ Box 38 (w10.setCell ⟨g, 0, none⟩ (.slice A10 n10 c10)) g (.slice A10 n10 c10) ∧ OwnB (w10.setCell ⟨g, 0, none⟩ (.slice A10 n10 c10)) w.heap.size (.slice A10 n10 c10) b10 ∧
      (w10.setCell ⟨g, 0, none⟩ (.slice A10 n10 c10)).heap[gc]? = some (.cells #[.int .u64 (t : Int), .slice A n c, .string a, .int .i64 d, .string x] 27 (0, 0))) :=
    ⟨(HC9.out.no hc10).one (Chg.put w10 _ 0 _) (.inl hs1), hB10.set _, hO10'.chg (Chg.put w10 _ 0 _) (hO10'.apart hB10 (by decide)), (Chg.put w10 _ 0 _).heap (hc10.heap HP9.out (fun x => x)) hne⟩
  clear hB10 hO10 hO10' hc10 HO10 HB9 HP9 HC9 HO9 x1 x3 hb10 hl10
  go_wp2_with fail
  clear y1 y2 y3
  generalize w10.setCell ⟨g, 0, none⟩ (.slice A10 n10 c10) = w11 at *
  obtain ⟨hC11, hB11, hO11, hP11⟩ := H11.out
  refine (putword_calls w11 A10 n10 c10 b10 hO11.bytes HL10.out (du d) (du d : Int) rfl (du_lt d) (by omega)).mono ?_
  rintro e w12 ⟨v12, rfl, hO12, hc12⟩
  have hl12 : (b10 ++ wide (du d)).length ≤ 165 := by rw [List.length_append, HL10.out, wide_len]; omega
  generalize hb12 : b10 ++ wide (du d) = b12 at *
  have HB12' := Lib.hid hb12
  obtain ⟨A12, n12, c12, rfl, HL12, HO12⟩ := hO12.form
  have hn12 : n12 ≤ 165 := by rw [← HL12.out]; exact hl12
  have hB12 := hB11.no hc12
  have y1 := hB12.c
  have y2 := hB12.fr
  have y3 := cellAt (hc12.heap hP11 (fun x => x)) 4 _ rfl
  have hO12' : OwnB w12 w.heap.size (.slice A12 n12 c12) b12 := hO12.mono hC11.size
  have H13 : Hid (Chg No w (w12.setCell ⟨g, 0, none⟩ (.slice A12 n12 c12)) ∧ OwnB (w12.setCell ⟨g, 0, none⟩ (.slice A12 n12 c12)) w.heap.size (.slice A12 n12 c12) b12) :=
    ⟨(hC11.no hc12).one (Chg.put w12 _ 0 _) (.inl hs1), hO12'.chg (Chg.put w12 _ 0 _) (hO12'.apart hB12 (by decide))⟩
  clear hB12 hO12 hO12' hc12 HO12 H11 hC11 hB11 hO11 hP11 hb12 hl12 hw10
  go_wp2_with fail
  clear y1 y2 y3
  generalize w12.setCell ⟨g, 0, none⟩ (.slice A12 n12 c12) = w13 at *
  obtain ⟨hC13, hO13⟩ := H13.out
  refine (puttext_calls w13 A12 n12 c12 b12 hO13.bytes HL12.out x (by omega)).mono ?_
  rintro e w14 ⟨v14, rfl, hO14, hc14⟩
  have hE : b12 ++ (leb x.size ++ x.data.toList) = commitB t ps a.data.toList d x.data.toList := by
    rw [← HB12'.out, ← HB10'.out, ← HB9'.out, ← HB7.out, ← HB6'.out, commitB, HL.out, HAL.out, HXL.out]
  rw [hE] at hO14
  obtain ⟨A14, n14, c14, rfl, HL14, HO14⟩ := hO14.form
  have H15 : Hid (OwnB w14 w.heap.size (.slice A14 n14 c14) (commitB t ps a.data.toList d x.data.toList)) := hO14.mono hC13.size
  have HC15 : Hid (Chg No w w14) := hC13.no hc14
  clear hO14 HO14 hc14 hC13 hO13 hE H13
  go_wp2
  go_ret2
  exact ⟨_, rfl, H15.out, HC15.out⟩
end Go.Proofs.Ytkmnkbmmgopldaa
