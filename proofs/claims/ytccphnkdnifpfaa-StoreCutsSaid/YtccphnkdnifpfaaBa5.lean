/-
  B5, B6, B7, B8, S1, B9, Pl, B10, D1: in one text.
-/
import Derived.Test.YtccphnkdnifpfaaBa4
import Derived.Test.YtccphnkdnifpfaaBa2
import Derived.Test.YtccphnkdnifpfaaBa3
import Derived.MapKept
import Derived.BigQuiet
namespace Go.Proofs.Ytccphnkdnifpfaa
set_option linter.unnecessarySimpa false
open Go.RowKit
set_option linter.unusedVariables false
set_option linter.unusedSimpArgs false
set_option maxRecDepth 100000

/-- A whole number as one of 64 bits. -/
def du (d : Int) : Nat := (d % 18446744073709551616).toNat
theorem du_lt (d : Int) : du d < 18446744073709551616 := by unfold du; omega
def commitB (t : Nat) (ps : List Nat) (a : List UInt8) (d : Int) (x : List UInt8) : List UInt8 :=
  [99] ++ wide t ++ leb ps.length ++ ps.flatMap wide ++ (leb a.length ++ a) ++ wide (du d) ++ (leb x.length ++ x)
theorem wrap_du (d : Int) : IntKind.u64.wrap d = (du d : Int) := by
  have : IntKind.u64.wrap d = d % 18446744073709551616 := by
    simp [IntKind.wrap, IntKind.signed, IntKind.bits]
  rw [this]; unfold du; omega

theorem commitF_zero {t : Nat} {ps : List Nat} {a x : List UInt8} (h : commitF t ps a x = 0) : t ≠ 0 ∧ ps.length ≤ 8 ∧ 0 ∉ ps ∧ a.length ≤ 64 ∧ rightF a = true ∧ x.length ≤ 1024 ∧ rightF x = true := by
  unfold commitF at h
  by_cases h1 : t = 0
  · rw [if_pos h1] at h; cases h
  rw [if_neg h1] at h
  by_cases h2 : 8 < ps.length
  · rw [if_pos h2] at h; cases h
  rw [if_neg h2] at h
  by_cases h3 : 0 ∈ ps
  · rw [if_pos h3] at h; cases h
  rw [if_neg h3] at h
  by_cases h4 : 64 < a.length
  · rw [if_pos h4] at h; cases h
  rw [if_neg h4] at h
  by_cases h5 : rightF a = false
  · rw [if_pos h5] at h; cases h
  rw [if_neg h5] at h
  by_cases h6 : 1024 < x.length
  · rw [if_pos h6] at h; cases h
  rw [if_neg h6] at h
  by_cases h7 : rightF x = false
  · rw [if_pos h7] at h; cases h
  exact ⟨h1, by omega, h3, by omega, by simpa using h5, by omega, by simpa using h7⟩

set_option maxHeartbeats 800000 in
/-- What Check refuses, Encode refuses. -/
theorem encode_refused (w : World) (o : Value) (k : Nat) (hk : k ≠ 0) (h : Calls Try.prog 70 #[o] w fun e w' => e = .returned (.int .i64 (k : Int)) ∧ Chg No w w') :
    Calls Try.prog 36 #[o] w fun e w' => e = .returned (.tuple #[.slice none 0 0, .int .i64 (k : Int)]) ∧ Chg No w w' := by
  have hb : ((k : Int) != 0) = true := by simp; omega
  go_enter Try.func36, Try.ntmps36
  go_wp2_with fail
  refine h.mono ?_
  rintro e w1 ⟨rfl, hc1⟩
  go_wp2
  go_ret2
  exact ⟨rfl, hc1⟩

set_option maxHeartbeats 3200000 in
theorem encode_commit (w : World) (t : Nat) (A : Option Addr) (n c : Nat) (ps : List Nat) (a : ByteArray) (d : Int) (x : ByteArray) (h : Sl u64v w (.slice A n c) ps) (hF : commitF t ps a.data.toList x.data.toList = 0)
    (ht : t < 18446744073709551616) (hps : ∀ p ∈ ps, p < 18446744073709551616) :
    Calls Try.prog 36 #[commitV (t : Int) (.slice A n c) a d x] w fun e w' => ∃ v, e = .returned (.tuple #[v, .int .i64 0]) ∧ OwnB w' w.heap.size v (commitB t ps a.data.toList d x.data.toList) ∧ Chg No w w' := by
  have HZ := commitF_zero hF
  have hl := h.len
  have hal := size_list a
  have hxl := size_list x
  have fb := fun w => ta_commit_blob w
  have ft := fun w => ta_commit_tree w
  have fc := fun w => ta1_commit_commit w
  have hn8 : n ≤ 8 := by omega
  have ha64 : a.size ≤ 64 := by omega
  have hx1024 : x.size ≤ 1024 := by omega
  have H := Lib.hid h
  have HL := Lib.hid hl
  have HPS := Lib.hid hps
  have HAL := Lib.hid hal
  have HXL := Lib.hid hxl
  have HF := Lib.hid hF
  clear h hl hps hF HZ hal hxl
  go_enter Try.func36, Try.ntmps36
  go_wp2_with fail
  refine (check_commit w t A n c ps a d x H.out (by omega) (by omega) (by omega)).mono ?_
  rintro e w1 ⟨rfl, hc1⟩
  rw [HF.out]
  have HC1 := Lib.hid hc1
  have hs1 := hc1.size
  clear hc1
  have own0 : Hid (OwnB (((((w1.alloc (.cells #[.slice none 0 0] 30)).alloc (.cells #[.slice none 0 0] 36)).alloc (.cells #[.slice none 0 0] 55)).alloc (.cells #[.int .u64 (t : Int), .slice A n c, .string a, .int .i64 d, .string x] 44)).alloc (.cells #[.int .u8 99] 5)) w.heap.size (.slice none 0 0) []) := World.ownsRow_nil _ _ _ _
  have src0 : Hid (Src Try.prog 1 30 (.slice (some ⟨w1.heap.size + 1 + 1 + 1 + 1, 0, none⟩) 1 1) 1 (u8s [99]) (((((w1.alloc (.cells #[.slice none 0 0] 30)).alloc (.cells #[.slice none 0 0] 36)).alloc (.cells #[.slice none 0 0] 55)).alloc (.cells #[.int .u64 (t : Int), .slice A n c, .string a, .int .i64 d, .string x] 44)).alloc (.cells #[.int .u8 99] 5))) := by
    have := Src.one (P := Try.prog) (t := 5) (w := (((w1.alloc (.cells #[.slice none 0 0] 30)).alloc (.cells #[.slice none 0 0] 36)).alloc (.cells #[.slice none 0 0] 55)).alloc (.cells #[.int .u64 (t : Int), .slice A n c, .string a, .int .i64 d, .string x] 44)) Try.underlying30 (.int .u8 99) rfl
    simp only [World.size_alloc] at this
    exact this
  go_wp2_with (at_builtin; (refine wpList_app2 rfl (.tmp 70) (.tmp 71) 30 30 rfl w.heap.size 5 (.int .u8 0) 1 1 infoU8 Try.underlying30 rfl (by decide) (.slice none 0 0) (.slice (some ⟨w1.heap.size + 1 + 1 + 1 + 1, 0, none⟩) 1 1) 0 1 (u8s []) (u8s [99]) rfl rfl ?own ?src ?b1 ?b2 ?b3 ?_; (case own => exact OwnB.n own0.out rfl); (case src => exact src0.out); (case b1 => omega); (case b2 => unfold maxLen; omega); (case b3 => simp; omega); intro vb w4 hown4 hg4 hfrom4; refine Hid.out ?_))
  refine Lib.hid ?_
  have hO4 : OwnB w4 w.heap.size vb [99] := OwnB.of hown4 (by simp [u8s])
  have hC4 : Chg No w w4 := (((((HC1.out.alloc _).alloc _).alloc _).alloc _).alloc _).grown hg4 (fun k hk => by simp [Value.ownBlock] at hk)
  have hG4 : Box 30 w4 w1.heap.size (.slice none 0 0) := by
    have := Box.new w1 (.slice none 0 0) 30
    have := (((((this.no ((Chg.refl No _).alloc (.cells #[.slice none 0 0] 36)))).no ((Chg.refl No _).alloc (.cells #[.slice none 0 0] 55))).no ((Chg.refl No _).alloc (.cells #[.int .u64 (t : Int), .slice A n c, .string a, .int .i64 d, .string x] 44))).no ((Chg.refl No _).alloc (.cells #[.int .u8 99] 5)))
    exact this.chg (Chg.ofGrown (S := No) hg4 (fun k hk => by simp [Value.ownBlock] at hk)) (fun x => x)
  have hP4 : w4.heap[w1.heap.size + 1 + 1 + 1]? = some (.cells #[.int .u64 (t : Int), .slice A n c, .string a, .int .i64 d, .string x] 44 (0, 0)) := by
    have := heap_alloc_new (((w1.alloc (.cells #[.slice none 0 0] 30)).alloc (.cells #[.slice none 0 0] 36)).alloc (.cells #[.slice none 0 0] 55)) (.cells #[.int .u64 (t : Int), .slice A n c, .string a, .int .i64 d, .string x] 44)
    simp only [World.size_alloc] at this
    exact (Chg.ofGrown (S := No) hg4 (fun k hk => by simp [Value.ownBlock] at hk)).heap (((Chg.refl No _).alloc (.cells #[.int .u8 99] 5)).heap this (fun x => x)) (fun x => x)
  obtain ⟨AB, nb, cb, rfl, HLB, HOB⟩ := hO4.form
  have hc4 := hG4.c
  have hf4 := hG4.fr
  have HW5 : Hid (Chg No w (w4.setCell ⟨w1.heap.size, 0, none⟩ (.slice AB nb cb)) ∧ Box 30 (w4.setCell ⟨w1.heap.size, 0, none⟩ (.slice AB nb cb)) w1.heap.size (.slice AB nb cb) ∧ OwnB (w4.setCell ⟨w1.heap.size, 0, none⟩ (.slice AB nb cb)) w.heap.size (.slice AB nb cb) [99] ∧
      (w4.setCell ⟨w1.heap.size, 0, none⟩ (.slice AB nb cb)).heap[w1.heap.size + 1 + 1 + 1]? = some (.cells #[.int .u64 (t : Int), .slice A n c, .string a, .int .i64 d, .string x] 44 (0, 0))) :=
    ⟨hC4.one (Chg.put w4 _ 0 _) (.inl hs1), hG4.set _, HOB.out.chg (Chg.put w4 _ 0 _) (HOB.out.apart hG4 (by decide)), (Chg.put w4 _ 0 _).heap hP4 (by show ¬ _ = _; omega)⟩
  have e0 := cellAt hP4 0 _ rfl
  clear hO4 hC4 hP4 hown4 hg4 hfrom4 own0 src0 HOB HC1
  have hs4 : w1.heap.size < w4.heap.size := hG4.lt
  clear hG4
  go_wp2_with fail
  clear e0 hc4 hf4
  generalize hgc : w1.heap.size + 1 + 1 + 1 = gc at *
  generalize hgg : w1.heap.size = g at *
  generalize hw5 : w4.setCell ⟨g, 0, none⟩ (.slice AB nb cb) = w5 at *
  have hs5 : g < w5.heap.size := by rw [← hw5]; simpa using hs4
  have hs45 : w5.heap.size = w4.heap.size := by rw [← hw5]; simp
  clear hw5 hs4
  obtain ⟨hC5, hB5, hO5, hP5⟩ := HW5.out
  have hne : gc ≠ g := by omega
  refine (word_cl _ g w.heap.size _ [99] _ 1 1 [t] (by have := hC5.size; simp; omega) (hB5.no ((Chg.refl No w5).alloc _)) (OwnB.alloc hO5 _) ?_ (by simpa using ht) (by omega) (by simp)).mono ?_
  · intro W hW
    refine ⟨_, _, rfl, Nat.le_refl _, by unfold maxLen; omega, fun _ => ⟨w5.heap.size, 0, by rw [hs45], fun j u hj => ?_⟩⟩
    rcases j with _ | j
    · simp [u64v] at hj
      subst hj
      exact hW.cell (cellAt (heap_alloc_new w5 _) 0 _ rfl) (by intro hx; have hx : w5.heap.size = g := hx; omega)
    · simp at hj
  clear HW5 hs45
  rintro e w6 ⟨rfl, v6, hB6, hO6, hc6⟩
  have hC6 : Chg No w w6 := (hC5.alloc _).one hc6 (.inl hs1)
  have hP6 := hc6.heap (((Chg.refl No w5).alloc _).heap hP5 (fun x => x)) hne
  rw [show [99] ++ List.flatMap wide [t] = [99] ++ wide t from by simp] at hO6
  have hl6 : ([99] ++ wide t).length = 9 := by simp [wide_len]
  generalize hb6 : [99] ++ wide t = b6 at *
  have HB6' := Lib.hid hb6
  clear hc6 hC5 hB5 hO5 hP5
  clear hb6
  obtain ⟨A6, n6, c6, rfl, HL6, HO6⟩ := hO6.form
  have hn6 : n6 ≤ 9 := by rw [← HL6.out, hl6]; exact Nat.le_refl _
  have x1 := hB6.c
  have x3 := cellAt hP6 1 _ rfl
  have hwn : IntKind.u64.wrap (n : Int) = (n : Int) := wrap_u64_nat _ (by omega)
  have HB6 := Lib.hid hB6
  have HP6 := Lib.hid hP6
  have HC6 := Lib.hid hC6
  have hs6 := hC6.size
  clear hB6 hO6 hP6 hl6 hC6
  go_wp2_with fail
  refine (putuint_calls w6 A6 n6 c6 b6 HO6.out.bytes HL6.out n (n : Int) rfl (by omega) (by omega)).mono ?_
  rintro e w7 ⟨v7, rfl, hO7, hc7⟩
  have hl7 : (b6 ++ leb n).length ≤ 19 := by rw [List.length_append, HL6.out]; have := leb_len10 n (by omega); omega
  generalize hb7 : b6 ++ leb n = b7 at *
  obtain ⟨A7, n7, c7, rfl, HL7, HO7⟩ := hO7.form
  have hB7 := HB6.out.no hc7
  have y1 := hB7.c
  have y2 := hB7.fr
  have y3 := cellAt (hc7.heap HP6.out (fun x => x)) 1 _ rfl
  have hO7' : OwnB w7 w.heap.size (.slice A7 n7 c7) b7 := hO7.mono hs6
  have H8 : Hid (Chg No w (w7.setCell ⟨g, 0, none⟩ (.slice A7 n7 c7)) ∧ Box 30 (w7.setCell ⟨g, 0, none⟩ (.slice A7 n7 c7)) g (.slice A7 n7 c7) ∧ OwnB (w7.setCell ⟨g, 0, none⟩ (.slice A7 n7 c7)) w.heap.size (.slice A7 n7 c7) b7 ∧
      (w7.setCell ⟨g, 0, none⟩ (.slice A7 n7 c7)).heap[gc]? = some (.cells #[.int .u64 (t : Int), .slice A n c, .string a, .int .i64 d, .string x] 44 (0, 0))) :=
    ⟨(HC6.out.no hc7).one (Chg.put w7 _ 0 _) (.inl hs1), hB7.set _, hO7'.chg (Chg.put w7 _ 0 _) (hO7'.apart hB7 (by decide)), (Chg.put w7 _ 0 _).heap (hc7.heap HP6.out (fun x => x)) hne⟩
  have HB7 := Lib.hid hb7
  clear hB7 hO7 hO7' hc7 HO7 HB6 HP6 HC6 HO6 x1 x3 hwn hb7
  go_wp2_with fail
  clear y1 y2 y3
  generalize w7.setCell ⟨g, 0, none⟩ (.slice A7 n7 c7) = w8 at *
  obtain ⟨hC8, hB8, hO8, hP8⟩ := H8.out
  refine (word_cl w8 g w.heap.size _ b7 A n c ps hC8.size hB8 hO8 (fun W hW => H.out.no (hC8.one hW (.inl hs1))) HPS.out (by omega) (by omega)).mono ?_
  clear H8
  rintro e w9 ⟨rfl, v9, hB9, hO9, hc9⟩
  have hC9 : Chg No w w9 := hC8.one hc9 (.inl hs1)
  have hP9 := hc9.heap hP8 hne
  have hl9 : (b7 ++ ps.flatMap wide).length ≤ 83 := by rw [List.length_append, wides_len, HL.out]; omega
  generalize hb9 : b7 ++ ps.flatMap wide = b9 at *
  have HB9' := Lib.hid hb9
  clear hc9 hC8 hB8 hO8 hP8 hb9
  obtain ⟨A9, n9, c9, rfl, HL9, HO9⟩ := hO9.form
  have hn9 : n9 ≤ 83 := by rw [← HL9.out]; exact hl9
  have x1 := hB9.c
  have x3 := cellAt hP9 2 _ rfl
  have HB9 := Lib.hid hB9
  have HP9 := Lib.hid hP9
  have HC9 := Lib.hid hC9
  have hs9 := hC9.size
  clear hB9 hO9 hP9 hC9 hl9 hl7
  go_wp2_with fail
  refine (puttext_calls w9 A9 n9 c9 b9 HO9.out.bytes HL9.out a (by omega)).mono ?_
  rintro e w10 ⟨v10, rfl, hO10, hc10⟩
  have hl10 : (b9 ++ (leb a.size ++ a.data.toList)).length ≤ 157 := by simp only [List.length_append, HL9.out, HAL.out]; have := leb_len10 a.size (by omega); omega
  generalize hb10 : b9 ++ (leb a.size ++ a.data.toList) = b10 at *
  have HB10' := Lib.hid hb10
  obtain ⟨A10, n10, c10, rfl, HL10, HO10⟩ := hO10.form
  have hn10 : n10 ≤ 157 := by rw [← HL10.out]; exact hl10
  have hB10 := HB9.out.no hc10
  have y1 := hB10.c
  have y2 := hB10.fr
  have y3 := cellAt (hc10.heap HP9.out (fun x => x)) 3 _ rfl
  have hO10' : OwnB w10 w.heap.size (.slice A10 n10 c10) b10 := hO10.mono hs9
  have hw10 := wrap_du d
  have H11 : Hid (Chg No w (w10.setCell ⟨g, 0, none⟩ (.slice A10 n10 c10)) ∧ Box 30 (w10.setCell ⟨g, 0, none⟩ (.slice A10 n10 c10)) g (.slice A10 n10 c10) ∧ OwnB (w10.setCell ⟨g, 0, none⟩ (.slice A10 n10 c10)) w.heap.size (.slice A10 n10 c10) b10 ∧
      (w10.setCell ⟨g, 0, none⟩ (.slice A10 n10 c10)).heap[gc]? = some (.cells #[.int .u64 (t : Int), .slice A n c, .string a, .int .i64 d, .string x] 44 (0, 0))) :=
    ⟨(HC9.out.no hc10).one (Chg.put w10 _ 0 _) (.inl hs1), hB10.set _, hO10'.chg (Chg.put w10 _ 0 _) (hO10'.apart hB10 (by decide)), (Chg.put w10 _ 0 _).heap (hc10.heap HP9.out (fun x => x)) hne⟩
  clear hB10 hO10 hO10' hc10 HO10 HB9 HP9 HC9 HO9 x1 x3 hb10 hl10
  go_wp2_with fail
  clear y1 y2 y3
  generalize w10.setCell ⟨g, 0, none⟩ (.slice A10 n10 c10) = w11 at *
  obtain ⟨hC11, hB11, hO11, hP11⟩ := H11.out
  refine (putword_calls w11 A10 n10 c10 b10 hO11.bytes HL10.out (du d) (du d : Int) rfl (du_lt d) (by omega)).mono ?_
  rintro e w12 ⟨v12, rfl, hO12, hc12⟩
  have hl12 : (b10 ++ wide (du d)).length ≤ 165 := by rw [List.length_append, HL10.out, wide_len]; omega
  generalize hb12 : b10 ++ wide (du d) = b12 at *
  have HB12' := Lib.hid hb12
  obtain ⟨A12, n12, c12, rfl, HL12, HO12⟩ := hO12.form
  have hn12 : n12 ≤ 165 := by rw [← HL12.out]; exact hl12
  have hB12 := hB11.no hc12
  have y1 := hB12.c
  have y2 := hB12.fr
  have y3 := cellAt (hc12.heap hP11 (fun x => x)) 4 _ rfl
  have hO12' : OwnB w12 w.heap.size (.slice A12 n12 c12) b12 := hO12.mono hC11.size
  have H13 : Hid (Chg No w (w12.setCell ⟨g, 0, none⟩ (.slice A12 n12 c12)) ∧ OwnB (w12.setCell ⟨g, 0, none⟩ (.slice A12 n12 c12)) w.heap.size (.slice A12 n12 c12) b12) :=
    ⟨(hC11.no hc12).one (Chg.put w12 _ 0 _) (.inl hs1), hO12'.chg (Chg.put w12 _ 0 _) (hO12'.apart hB12 (by decide))⟩
  clear hB12 hO12 hO12' hc12 HO12 H11 hC11 hB11 hO11 hP11 hb12 hl12 hw10
  go_wp2_with fail
  clear y1 y2 y3
  generalize w12.setCell ⟨g, 0, none⟩ (.slice A12 n12 c12) = w13 at *
  obtain ⟨hC13, hO13⟩ := H13.out
  refine (puttext_calls w13 A12 n12 c12 b12 hO13.bytes HL12.out x (by omega)).mono ?_
  rintro e w14 ⟨v14, rfl, hO14, hc14⟩
  have hE : b12 ++ (leb x.size ++ x.data.toList) = commitB t ps a.data.toList d x.data.toList := by
    rw [← HB12'.out, ← HB10'.out, ← HB9'.out, ← HB7.out, ← HB6'.out, commitB, HL.out, HAL.out, HXL.out]
  rw [hE] at hO14
  obtain ⟨A14, n14, c14, rfl, HL14, HO14⟩ := hO14.form
  have H15 : Hid (OwnB w14 w.heap.size (.slice A14 n14 c14) (commitB t ps a.data.toList d x.data.toList)) := hO14.mono hC13.size
  have HC15 : Hid (Chg No w w14) := hC13.no hc14
  clear hO14 HO14 hc14 hC13 hO13 hE H13
  go_wp2
  go_ret2
  exact ⟨_, rfl, H15.out, HC15.out⟩
end Go.Proofs.Ytccphnkdnifpfaa

namespace Go.Proofs.Ytccphnkdnifpfaa
set_option linter.unnecessarySimpa false
open Go.RowKit
set_option linter.unusedVariables false
set_option linter.unusedSimpArgs false
set_option maxRecDepth 100000

/-- An entry: name, folder, id. -/
abbrev Ent := ByteArray × Bool × Nat
def encE (x : Ent) : List Value := [.string x.1, .bool x.2.1, .int .u64 (x.2.2 : Int)]
/-- A slice of entries. -/
def Es (w : World) (v : Value) (xs : List Ent) : Prop := Holds w v xs.length (xs.flatMap encE)
theorem encE_len (xs : List Ent) : (xs.flatMap encE).length = xs.length * 3 := by
  induction xs with
  | nil => rfl
  | cons a t ih => rw [List.flatMap_cons, List.length_append, ih, List.length_cons]; simp [encE]; omega
theorem encE_get (xs : List Ent) (k j : Nat) (hk : k < xs.length) (hj : j < 3) : (xs.flatMap encE)[k * 3 + j]? = (encE xs[k])[j]? := by
  induction xs generalizing k with
  | nil => simp at hk
  | cons a t ih =>
    rw [List.flatMap_cons]
    cases k with
    | zero =>
      rw [List.getElem?_append_left (by simp [encE]; omega)]
      simp
    | succ k =>
      rw [List.getElem?_append_right (by simp [encE]; omega)]
      have : (k + 1) * 3 + j - (encE a).length = k * 3 + j := by simp [encE]; omega
      rw [this, ih k (by simpa using hk)]
      rfl
theorem Es.no {w w' : World} {v : Value} {xs : List Ent} (h : Es w v xs) (hc : Chg No w w') : Es w' v xs := Holds.no h hc
theorem Es.chg {S : Nat → Prop} {w w' : World} {v : Value} {xs : List Ent} (h : Es w v xs) (hc : Chg S w w') (hs : ∀ b, v.ownBlock = some b → ¬ S b) : Es w' v xs := Holds.chg h hc hs
theorem Es.len {w : World} {A : Option Addr} {n c : Nat} {xs : List Ent} (h : Es w (.slice A n c) xs) : xs.length = n := by
  obtain ⟨A', c', he, hn, hm, hx⟩ := h
  simp only [Value.slice.injEq] at he
  exact he.2.1.symm
theorem Es.addr {w : World} {A : Option Addr} {n c : Nat} {xs : List Ent} (h : Es w (.slice A n c) xs) (hp : 0 < xs.length) :
    ∃ b o, A = some ⟨b, o, none⟩ ∧ ∀ k (hk : k < xs.length), w.cell? ⟨b, o + k * 3, none⟩ = some (.string xs[k].1) ∧ w.cell? ⟨b, o + k * 3 + 1, none⟩ = some (.bool xs[k].2.1) ∧ w.cell? ⟨b, o + k * 3 + 2, none⟩ = some (.int .u64 (xs[k].2.2 : Int)) := by
  obtain ⟨A', c', he, hn, hm, hx⟩ := h
  simp only [Value.slice.injEq] at he
  obtain ⟨rfl, rfl, rfl⟩ := he
  obtain ⟨b, o, rfl, hc⟩ := hx (by rw [encE_len]; omega)
  refine ⟨b, o, rfl, fun k hk => ⟨?_, ?_, ?_⟩⟩
  · have := hc (k * 3) (.string xs[k].1) (by have := encE_get xs k 0 hk (by omega); rw [Nat.add_zero] at this; rw [this]; rfl)
    exact this
  · have := hc (k * 3 + 1) (.bool xs[k].2.1) (by rw [encE_get xs k 1 hk (by omega)]; rfl)
    rw [← Nat.add_assoc] at this
    exact this
  · have := hc (k * 3 + 2) (.int .u64 (xs[k].2.2 : Int)) (by rw [encE_get xs k 2 hk (by omega)]; rfl)
    rw [← Nat.add_assoc] at this
    exact this

def leS (a b : ByteArray) : Bool := Op.bytesLess a.toList b.toList || a.toList == b.toList
def treeG : ByteArray → List Ent → Int
  | _, [] => 0
  | a, x :: r => if (spotF x.1.data.toList).1 ≠ 0 then (spotF x.1.data.toList).1 else if leS x.1 a = true then 161 else if x.2.2 = 0 then 2 else treeG x.1 r
def treeF (l : List Ent) : Int := if 256 < l.length then 3 else treeG ⟨#[]⟩ l

set_option maxHeartbeats 3200000 in
theorem tree_calls (w : World) (A : Option Addr) (n c : Nat) (xs : List Ent) (h : Es w (.slice A n c) xs) (hx : ∀ x ∈ xs, x.1.size ≤ 9223372036854775807) :
    Calls Try.prog 94 #[.slice A n c] w fun e w' => e = .returned (.int .i64 (treeF xs)) ∧ Chg No w w' := by
  have HL := Lib.hid h.len
  have H := Lib.hid h
  have HX := Lib.hid hx
  clear h hx
  by_cases h256 : 256 < n
  · have HF : Hid (treeF xs = 3) := by rw [Hid, treeF, if_pos (by rw [HL.out]; exact h256)]
    have b0 : (256 : Int) < (n : Int) := by omega
    go_enter Try.func94, Try.ntmps94
    go_wp2
    go_ret
    exact ⟨by rw [HF.out]; rfl, Chg.refl _ _⟩
  · have HF : Hid (treeF xs = treeG ⟨#[]⟩ xs) := by rw [Hid, treeF, if_neg (by rw [HL.out]; exact h256)]
    have b0 : ¬ (256 : Int) < (n : Int) := by omega
    go_enter Try.func94, Try.ntmps94
    go_wp2
    go_loopw [3, 12] (fun a i wr => ∃ (k : Nat) (y : ByteArray), k ≤ n ∧ i = .int .i64 (k : Int) ∧ a = .string y ∧ Hid (treeF xs = treeG y (xs.drop k)) ∧ Hid (Chg No w wr)) (fun _ i _ => n - (intOf i).toNat)
    case atStart => exact ⟨0, _, Nat.zero_le _, rfl, rfl, HF.out, Chg.refl _ _⟩
    case round =>
      obtain ⟨k, y, hk, rfl, rfl, HU, HC⟩ := hrel
      by_cases hlt : k < n
      · have hkl : k < xs.length := by rw [HL.out]; exact hlt
        obtain ⟨b, o, rfl, hcell⟩ := (H.out.no HC.out).addr (by rw [HL.out]; omega)
        obtain ⟨c0, c1, c2⟩ := hcell k hkl
        have HD : Hid (xs.drop k = xs[k] :: xs.drop (k + 1)) := by rw [Hid]; exact List.drop_eq_getElem_cons hkl
        have hsz := HX.out _ (List.getElem_mem hkl)
        generalize xs[k] = x at *
        obtain ⟨s, f, id⟩ := x
        simp only at c0 c1 c2 hsz
        have HU2 : Hid (treeF xs = if (spotF s.data.toList).1 ≠ 0 then (spotF s.data.toList).1 else if leS s y = true then 161 else if id = 0 then 2 else treeG s (xs.drop (k + 1))) := by rw [Hid, HU.out, HD.out]; rfl
        have hcc := fun w1 => check_calls w1 s hsz
        have HLE : Hid (leS s y = (Op.bytesLess s.toList y.toList || s.toList == y.toList)) := rfl
        generalize spotF s.data.toList = sp at *
        obtain ⟨e0, at0⟩ := sp
        simp only [spotV] at hcc HU2
        have HCC := Lib.hid hcc
        clear hcc hcell HU HD hkl
        go_wp2_with fail
        refine (HCC.out _).mono ?_
        rintro e w1 ⟨rfl, hc1⟩
        have hd := hc1.heap (heap_alloc_new wr (.cells #[.string s, .bool f, .int .u64 (id : Int)] 130)) (fun x => x)
        have hd1 := ((Chg.refl No w1).alloc (.cells #[.int .i64 e0, .int .i64 at0] 155)).heap hd (fun x => x)
        have d0 := cellAt hd1 0 (.string s) rfl
        have d2 := cellAt hd1 2 (.int .u64 (id : Int)) rfl
        clear hd hd1
        have HC1 : Hid (Chg No w w1) := (HC.out.alloc _).no hc1
        clear hc1
        by_cases he : e0 = 0
        · subst he
          generalize hle : (Op.bytesLess s.toList y.toList || s.toList == y.toList) = le at *
          cases le with
          | true =>
            have HV : Hid (treeF xs = 161) := by rw [Hid, HU2.out, if_neg (by simp), if_pos HLE.out]
            go_wp2
            go_ret
            exact ⟨by rw [HV.out]; rfl, HC1.out.alloc _⟩
          | false =>
            have HV := Lib.hid (show treeF xs = _ by rw [HU2.out, if_neg (by simp), if_neg (by rw [HLE.out]; simp)])
            by_cases hid0 : id = 0
            · subst hid0
              go_wp2
              go_ret
              exact ⟨by rw [HV.out]; rfl, HC1.out.alloc _⟩
            · have b1 : ((id : Int) == 0) = false := by simp; omega
              have HV2 := Lib.hid (show treeF xs = _ by rw [HV.out, if_neg hid0])
              clear hid0
              go_wp2
              go_roundw
              case rel => exact ⟨k + 1, s, by omega, by simp, rfl, HV2.out, HC1.out.alloc _⟩
              case measure => simp [intOf]; omega
        · have b1 : (e0 != 0) = true := by simpa using he
          have HV : Hid (treeF xs = e0) := by rw [Hid, HU2.out, if_pos he]
          clear he
          go_wp2
          go_ret
          exact ⟨by rw [HV.out]; rfl, HC1.out.alloc _⟩
      · have hkn : k = n := by omega
        subst hkn
        have HV : Hid (treeF xs = 0) := by rw [Hid, HU.out, List.drop_of_length_le (by rw [HL.out]; exact Nat.le_refl _)]; rfl
        go_wp2
        go_ret
        exact ⟨by rw [HV.out]; rfl, HC.out⟩
set_option maxHeartbeats 800000 in
theorem check_tree (w : World) (A : Option Addr) (n c : Nat) (xs : List Ent) (h : Es w (.slice A n c) xs) (hx : ∀ x ∈ xs, x.1.size ≤ 9223372036854775807) :
    Calls Try.prog 70 #[treeV (.slice A n c)] w fun e w' => e = .returned (.int .i64 (treeF xs)) ∧ Chg No w w' := by
  have fb := fun w => ta_tree_blob w
  have ft := fun w => ta_tree_tree w
  have fc := fun w => ta_tree_commit w
  have HC : Hid (∀ w1, Chg No w w1 → Calls Try.prog 94 #[.slice A n c] w1 fun e w' => e = .returned (.int .i64 (treeF xs)) ∧ Chg No w1 w') := fun w1 hc => tree_calls w1 A n c xs (h.no hc) hx
  clear h
  go_enter Try.func70, Try.ntmps70
  go_wp2_with fail
  refine (HC.out _ ((Chg.refl No w).alloc _)).mono ?_
  rintro e w1 ⟨rfl, hc⟩
  go_wp2
  go_ret
  exact ⟨rfl, ((Chg.refl No w).alloc _).no hc⟩
end Go.Proofs.Ytccphnkdnifpfaa

namespace Go.Proofs.Ytccphnkdnifpfaa
set_option linter.unnecessarySimpa false
open Go.RowKit
set_option linter.unusedVariables false
set_option linter.unusedSimpArgs false
set_option maxRecDepth 100000

def entB (x : Ent) : List UInt8 := (leb x.1.size ++ x.1.data.toList) ++ [if x.2.1 = true then 1 else 0] ++ wide x.2.2
def treeB (xs : List Ent) : List UInt8 := [116] ++ leb xs.length ++ xs.flatMap entB
theorem app_keep {w w' : World} {base g : Nat} {v : Value} {xs : List UInt8} {cs : Array Value} {t : TypeId} (ho : OwnB w base v xs) (hg : w.grownBy w' v.ownBlock) (h : w.heap[g]? = some (.cells cs t (0, 0))) (ht : t ≠ 5) : w'.heap[g]? = some (.cells cs t (0, 0)) := by
  refine (Chg.ofGrown (S := fun k => v.ownBlock = some k) hg (fun k hk => hk)).heap h (fun hx => ?_)
  obtain ⟨c, fz, hc⟩ := ho.cells g hx
  rw [h] at hc
  simp only [Option.some.injEq, Obj.cells.injEq] at hc
  exact ht hc.2.1
theorem treeG_names : ∀ (l : List Ent) (a : ByteArray), treeG a l = 0 → ∀ x ∈ l, (spotF x.1.data.toList).1 = 0 ∧ x.2.2 ≠ 0
  | [], _, _, x, hx => by cases hx
  | y :: r, a, h, x, hx => by
    unfold treeG at h
    by_cases h1 : (spotF y.1.data.toList).1 ≠ 0
    · rw [if_pos h1] at h; exact absurd h h1
    rw [if_neg h1] at h
    by_cases h2 : leS y.1 a = true
    · rw [if_pos h2] at h; cases h
    rw [if_neg h2] at h
    by_cases h3 : y.2.2 = 0
    · rw [if_pos h3] at h; cases h
    rw [if_neg h3] at h
    rcases List.mem_cons.1 hx with rfl | hx
    · exact ⟨by simpa using h1, h3⟩
    · exact treeG_names r y.1 h x hx
theorem spotF_len {l : List UInt8} (h : (spotF l).1 = 0) : l.length ≤ 32 := by
  unfold spotF at h
  by_cases h1 : l = [] ∨ l = [46] ∨ l = [46, 46]
  · rw [if_pos h1] at h; cases h
  rw [if_neg h1] at h
  by_cases h2 : 32 < l.length
  · rw [if_pos h2] at h; cases h
  omega
theorem treeF_zero {xs : List Ent} (h : treeF xs = 0) : xs.length ≤ 256 ∧ (∀ x ∈ xs, x.1.size ≤ 32 ∧ x.2.2 ≠ 0) := by
  unfold treeF at h
  by_cases h1 : 256 < xs.length
  · rw [if_pos h1] at h; cases h
  rw [if_neg h1] at h
  refine ⟨by omega, fun x hx => ?_⟩
  obtain ⟨h2, h3⟩ := treeG_names xs _ h x hx
  have := spotF_len h2
  rw [size_list] at this
  exact ⟨this, h3⟩
theorem entB_len (x : Ent) (h : x.1.size ≤ 32) : (entB x).length ≤ 60 := by
  unfold entB
  simp only [List.length_append, wide_len, List.length_singleton, size_list]
  have := leb_len10 x.1.size (by omega)
  omega
theorem entsB_len (xs : List Ent) (h : ∀ x ∈ xs, x.1.size ≤ 32) : (xs.flatMap entB).length ≤ 60 * xs.length := by
  induction xs with
  | nil => simp
  | cons a t ih =>
    rw [List.flatMap_cons, List.length_append, List.length_cons]
    have := entB_len a (h a (by simp))
    have := ih (fun x hx => h x (by simp [hx]))
    omega

set_option maxHeartbeats 6400000 in
theorem encode_tree (w : World) (A : Option Addr) (n c : Nat) (xs : List Ent) (h : Es w (.slice A n c) xs) (hF : treeF xs = 0) (hid : ∀ x ∈ xs, x.2.2 < 18446744073709551616) :
    Calls Try.prog 36 #[treeV (.slice A n c)] w fun e w' => ∃ v, e = .returned (.tuple #[v, .int .i64 0]) ∧ OwnB w' w.heap.size v (treeB xs) ∧ Chg No w w' := by
  obtain ⟨hn256, hxs⟩ := treeF_zero hF
  have hl := h.len
  have fb := fun w => ta_tree_blob w
  have ft := fun w => ta_tree_tree w
  have hn8 : n ≤ 256 := by omega
  have H := Lib.hid h
  have HL := Lib.hid hl
  have HX := Lib.hid hxs
  have HI := Lib.hid hid
  have HF := Lib.hid hF
  clear h hl hxs hF hid hn256
  go_enter Try.func36, Try.ntmps36
  go_wp2_with fail
  refine (check_tree w A n c xs H.out (fun x hx => by have := (HX.out x hx).1; omega)).mono ?_
  rintro e w1 ⟨rfl, hc1⟩
  rw [HF.out]
  have HC1 := Lib.hid hc1
  have hs1 := hc1.size
  have hwn : IntKind.u64.wrap (n : Int) = (n : Int) := wrap_u64_nat _ (by omega)
  clear hc1
  have g1 : Box 30 (((w1.alloc (.cells #[.slice none 0 0] 30)).alloc (.cells #[.slice none 0 0] 36)).alloc (.cells #[.slice A n c] 55)) w1.heap.size (.slice none 0 0) := ((Box.new w1 (.slice none 0 0) 30).no ((Chg.refl No _).alloc _)).no ((Chg.refl No _).alloc _)
  have p1 : (((w1.alloc (.cells #[.slice none 0 0] 30)).alloc (.cells #[.slice none 0 0] 36)).alloc (.cells #[.slice A n c] 55)).heap[w1.heap.size + 1 + 1]? = some (.cells #[.slice A n c] 55 (0, 0)) := by
    have := heap_alloc_new ((w1.alloc (.cells #[.slice none 0 0] 30)).alloc (.cells #[.slice none 0 0] 36)) (.cells #[.slice A n c] 55)
    simp only [World.size_alloc] at this
    exact this
  have HC2 : Hid (Chg No w (((w1.alloc (.cells #[.slice none 0 0] 30)).alloc (.cells #[.slice none 0 0] 36)).alloc (.cells #[.slice A n c] 55))) := ((HC1.out.alloc _).alloc _).alloc _
  have HG1 := Lib.hid g1
  have HP1 := Lib.hid p1
  clear g1 p1 HC1
  have hlit : Bytes ((((w1.alloc (.cells #[.slice none 0 0] 30)).alloc (.cells #[.slice none 0 0] 36)).alloc (.cells #[.slice A n c] 55)).alloc (.cells #[.int .u8 116] 5)) (.slice (some ⟨w1.heap.size + 1 + 1 + 1, 0, none⟩) 1 1) [116] := by
    have := Bytes.litMark (w := (((w1.alloc (.cells #[.slice none 0 0] 30)).alloc (.cells #[.slice none 0 0] 36)).alloc (.cells #[.slice A n c] 55))) (xs := [116]) (t := 5) (m := (0, 0)) 1 1 rfl (by decide) (by unfold maxLen; omega)
    simp only [World.size_alloc] at this
    exact this
  have HLIT := Lib.hid hlit
  clear hlit
  go_wp2_with fail
  refine (putuint_calls _ (some ⟨w1.heap.size + 1 + 1 + 1, 0, none⟩) 1 1 [116] HLIT.out rfl n (n : Int) rfl (by omega) (by omega)).mono ?_
  rintro e w2 ⟨v2, rfl, hO2, hc2⟩
  have hB2 := (HG1.out.no ((Chg.refl No _).alloc _)).no hc2
  have hP2 := hc2.heap (((Chg.refl No _).alloc _).heap HP1.out (fun x => x)) (fun x => x)
  have hC2 := (HC2.out.alloc _).no hc2
  have hO2' : OwnB w2 w.heap.size v2 ([116] ++ leb n) := hO2.mono (by have := (HC2.out.alloc (.cells (u8s [116]).toArray 5)).size; exact this)
  clear hO2 hc2 HG1 HP1 HC2
  have hgg : w1.heap.size < w2.heap.size := hB2.lt
  generalize hgt : w1.heap.size + 1 + 1 = gt at *
  generalize hg : w1.heap.size = g at *
  have hgt' : g < gt := by omega
  obtain ⟨A2, n2, c2, rfl, HL2, HO2⟩ := hO2'.form
  have y1 := hB2.c
  have y2 := hB2.fr
  have y3 := cellAt hP2 0 _ rfl
  have hne : gt ≠ g := by omega
  have HW3 : Hid (Chg No w (w2.setCell ⟨g, 0, none⟩ (.slice A2 n2 c2)) ∧ Box 30 (w2.setCell ⟨g, 0, none⟩ (.slice A2 n2 c2)) g (.slice A2 n2 c2) ∧ OwnB (w2.setCell ⟨g, 0, none⟩ (.slice A2 n2 c2)) w.heap.size (.slice A2 n2 c2) ([116] ++ leb n)) :=
    ⟨hC2.one (Chg.put w2 _ 0 _) (.inl hs1), hB2.set _, HO2.out.chg (Chg.put w2 _ 0 _) (HO2.out.apart hB2 (by decide))⟩
  clear hB2 hP2 hC2 hO2' HO2 hwn
  go_wp2
  clear y1 y2 y3
  generalize w2.setCell ⟨g, 0, none⟩ (.slice A2 n2 c2) = w3 at *
  go_loopw [45] (fun i wr => ∃ k : Nat, k ≤ n ∧ i = .int .i64 (k : Int) ∧ Hid (∃ v, Box 30 wr g v ∧ OwnB wr w.heap.size v ([116] ++ leb n ++ (xs.take k).flatMap entB)) ∧ Hid (Chg No w wr)) (fun i _ => n - (intOf i).toNat)
  case atStart => exact ⟨0, Nat.zero_le _, rfl, ⟨_, HW3.out.2.1, by simpa using HW3.out.2.2⟩, HW3.out.1⟩
  case round =>
    clear HW3 hgg
    obtain ⟨k, hk, rfl, HB, HC⟩ := hrel
    by_cases hlt : k < n
    · have hkl : k < xs.length := by rw [HL.out]; exact hlt
      obtain ⟨b, o, rfl, hcell⟩ := (H.out.no HC.out).addr (by rw [HL.out]; omega)
      obtain ⟨c0, c1, c2⟩ := hcell k hkl
      have HT : Hid (xs.take (k + 1) = xs.take k ++ [xs[k]]) := by rw [Hid, List.take_succ_eq_append_getElem]
      have hsz := (HX.out _ (List.getElem_mem hkl)).1
      have hidl := HI.out _ (List.getElem_mem hkl)
      generalize xs[k] = x at *
      obtain ⟨s, f, id⟩ := x
      simp only at c0 c1 c2 hsz hidl
      obtain ⟨v3, hb3, ho3⟩ := HB.out
      have hlen : ([116] ++ leb n ++ (xs.take k).flatMap entB).length ≤ 20000 := by
        have h1 := leb_len10 n (by omega)
        have h2 := entsB_len (xs.take k) (fun x hx => (HX.out x (List.mem_of_mem_take hx)).1)
        have h3 : (xs.take k).length ≤ k := by rw [List.length_take]; omega
        simp only [List.length_append, List.length_singleton]
        omega
      generalize hys : [116] ++ leb n ++ (xs.take k).flatMap entB = ys at *
      have HYS := Lib.hid hys
      obtain ⟨A3, n3, c3, rfl, HL3, HO3⟩ := ho3.form
      have hn3 : n3 ≤ 20000 := by rw [← HL3.out]; exact hlen
      have z1 := hb3.c
      have hg3 := hb3.lt
      have hne3 : wr.heap.size ≠ g := by omega
      have z1' := (hb3.no ((Chg.refl No wr).alloc (.cells #[.string s, .bool f, .int .u64 (id : Int)] 130))).c
      have HB3 := Lib.hid hb3
      have hs3 := HC.out.size
      clear hys hlen ho3 hb3 hcell HB hkl
      go_wp2_with fail
      clear z1 z1' c0 c1 c2
      have hE3 := heap_alloc_new wr (.cells #[.string s, .bool f, .int .u64 (id : Int)] 130)
      refine (puttext_calls _ A3 n3 c3 ys (HO3.out.bytes.no ((Chg.refl No _).alloc _)) HL3.out s (by omega)).mono ?_
      rintro e w4 ⟨v4, rfl, hO4, hc4⟩
      have hl4 : (ys ++ (leb s.size ++ s.data.toList)).length ≤ 20042 := by
        simp only [List.length_append, HL3.out, size_list]
        have := leb_len10 s.size (by omega)
        omega
      generalize hb4 : ys ++ (leb s.size ++ s.data.toList) = b4 at *
      have HB4 := Lib.hid hb4
      obtain ⟨A4, n4, c4, rfl, HL4, HO4'⟩ := hO4.form
      have hn4 : n4 ≤ 20042 := by rw [← HL4.out]; exact hl4
      have hO4' : OwnB w4 w.heap.size (.slice A4 n4 c4) b4 := hO4.mono (by simp; omega)
      have hB4 := (HB3.out.no ((Chg.refl No wr).alloc _)).no hc4
      have hE4 := hc4.heap hE3 (fun x => x)
      have hC4 := (HC.out.alloc _).no hc4
      generalize hge : wr.heap.size = ge at *
      have z1 := hB4.c
      have z2 := hB4.fr
      have z3 := cellAt hE4 1 (.bool f) rfl
      have hC5 : Chg No w (w4.setCell ⟨g, 0, none⟩ (.slice A4 n4 c4)) := hC4.one (Chg.put w4 _ 0 _) (.inl hs1)
      have hB5 := hB4.set (.slice A4 n4 c4)
      have hE5 := (Chg.put w4 g 0 (.slice A4 n4 c4)).heap hE4 hne3
      have hO5 := hO4'.chg (Chg.put w4 g 0 (.slice A4 n4 c4)) (hO4'.apart hB4 (by decide))
      have HC5 := Lib.hid hC5
      have HB5 := Lib.hid hB5
      have HE5 := Lib.hid hE5
      have HO5 := Lib.hid hO5
      have hs5 := hC5.size
      clear hO4 hO4' HO4' hB4 hE4 hC4 hc4 hb4 hl4 hE3 HB3 HO3 hC5 hB5 hE5 hO5
      cases f with
      | true =>
        have src0 : Hid (Src Try.prog 1 30 (.slice (some ⟨w4.heap.size, 0, none⟩) 1 1) 1 (u8s [1]) ((w4.setCell ⟨g, 0, none⟩ (.slice A4 n4 c4)).alloc (.cells #[.int .u8 1] 5))) := by
          have := Src.one (P := Try.prog) (t := 5) (w := w4.setCell ⟨g, 0, none⟩ (.slice A4 n4 c4)) Try.underlying30 (.int .u8 1) rfl
          have e : (w4.setCell ⟨g, 0, none⟩ (.slice A4 n4 c4)).heap.size = w4.heap.size := by simp
          rw [e] at this
          exact this
        have own0 : Hid (OwnB ((w4.setCell ⟨g, 0, none⟩ (.slice A4 n4 c4)).alloc (.cells #[.int .u8 1] 5)) w.heap.size (.slice A4 n4 c4) b4) := OwnB.alloc HO5.out _
        go_wp2_with (at_builtin; (refine wpList_app2 rfl (.tmp 55) (.tmp 56) 30 30 rfl w.heap.size 5 (.int .u8 0) 1 1 infoU8 Try.underlying30 rfl (by decide) (.slice A4 n4 c4) (.slice (some ⟨w4.heap.size, 0, none⟩) 1 1) n4 1 (u8s b4) (u8s [1]) rfl rfl ?own ?src ?b1 ?b2 ?b3 ?_; (case own => exact OwnB.n own0.out HL4.out); (case src => exact src0.out); (case b1 => omega); (case b2 => unfold maxLen; omega); (case b3 => have := (HC5.out.alloc (.cells #[.int .u8 1] 5)).size; exact this); intro v6 w6 hown6 hg6 hfrom6; refine Hid.out ?_))
        refine Lib.hid ?_
        clear z1 z2 z3
        have hO6 : OwnB w6 w.heap.size v6 (b4 ++ [1]) := OwnB.of hown6 (by simp [u8s])
        have hC6 : Chg No w w6 := (HC5.out.alloc _).grown hg6 (fun k hk => .inl (own0.out.block k hk).1)
        have hB6 : Box 30 w6 g (.slice A4 n4 c4) := app_keep own0.out hg6 (HB5.out.no ((Chg.refl No _).alloc _)) (by decide)
        have hE6 := app_keep own0.out hg6 (((Chg.refl No _).alloc _).heap HE5.out (fun x => x)) (by decide)
        obtain ⟨A6, n6, c6, rfl, HL6, HO6⟩ := hO6.form
        have z1 := hB6.c
        have z2 := hB6.fr
        have z3 := cellAt hE6 2 (.int .u64 (id : Int)) rfl
        have HC7 : Hid (Chg No w (w6.setCell ⟨g, 0, none⟩ (.slice A6 n6 c6))) := hC6.one (Chg.put w6 _ 0 _) (.inl hs1)
        have HB7 := Lib.hid (hB6.set (.slice A6 n6 c6))
        have HO7 := Lib.hid (hO6.chg (Chg.put w6 g 0 (.slice A6 n6 c6)) (hO6.apart hB6 (by decide)))
        clear hown6 hg6 hfrom6 hO6 HO6 hC6 hE6 own0 src0 HC5 HB5 HE5 HO5
        have hs7 : w6.heap.size = (w6.setCell ⟨g, 0, none⟩ (.slice A6 n6 c6)).heap.size := by simp
        have hg7 := hB6.lt
        clear hB6
        go_wp2_with fail
        clear z1 z2 z3
        generalize w6.setCell ⟨g, 0, none⟩ (.slice A6 n6 c6) = w7 at *
        have HS7 := Lib.hid hs7
        clear hs7
        go_wp2_with fail
        refine (word_cl _ g w.heap.size _ (b4 ++ [1]) _ 1 1 [id] (by have := (HC7.out.alloc (.cells #[.int .u64 (id : Int)] 32)).size; exact this) (HB7.out.no ((Chg.refl No w7).alloc _)) (OwnB.alloc HO7.out _) ?_ (by simpa using hidl) (by omega) (by rw [HL6.out]; have := HL6.out; rw [List.length_append, HL4.out, List.length_singleton] at this; omega)).mono ?_
        · intro W hW
          refine ⟨_, _, rfl, Nat.le_refl _, by unfold maxLen; omega, fun _ => ⟨w7.heap.size, 0, by first | rfl | rw [HS7.out], fun j u hj => ?_⟩⟩
          rcases j with _ | j
          · simp [u64v] at hj
            subst hj
            exact hW.cell (cellAt (heap_alloc_new w7 _) 0 _ rfl) (by intro hx; have hx : w7.heap.size = g := hx; have := HS7.out; omega)
          · simp at hj
        rintro e w8 ⟨rfl, v8, hB8, hO8, hc8⟩
        have HE8 : Hid ([116] ++ leb n ++ (xs.take (k + 1)).flatMap entB = b4 ++ [1] ++ List.flatMap wide [id]) := by
          rw [Hid, HT.out, List.flatMap_append, ← HB4.out, ← HYS.out]
          simp [entB]
        have HB8 : Hid (∃ v, Box 30 w8 g v ∧ OwnB w8 w.heap.size v ([116] ++ leb n ++ (xs.take (k + 1)).flatMap entB)) := ⟨v8, hB8, by rw [HE8.out]; exact hO8⟩
        have HC8 : Hid (Chg No w w8) := (HC7.out.alloc _).one hc8 (.inl hs1)
        clear hB8 hO8 hc8 HC7 HB7 HO7
        go_wp2
        go_roundw
        case rel => exact ⟨k + 1, by omega, by simp, HB8.out, HC8.out⟩
        case measure => simp [intOf]; omega
      | false =>
        have src0 : Hid (Src Try.prog 1 30 (.slice (some ⟨w4.heap.size, 0, none⟩) 1 1) 1 (u8s [0]) ((w4.setCell ⟨g, 0, none⟩ (.slice A4 n4 c4)).alloc (.cells #[.int .u8 0] 5))) := by
          have := Src.one (P := Try.prog) (t := 5) (w := w4.setCell ⟨g, 0, none⟩ (.slice A4 n4 c4)) Try.underlying30 (.int .u8 0) rfl
          have e : (w4.setCell ⟨g, 0, none⟩ (.slice A4 n4 c4)).heap.size = w4.heap.size := by simp
          rw [e] at this
          exact this
        have own0 : Hid (OwnB ((w4.setCell ⟨g, 0, none⟩ (.slice A4 n4 c4)).alloc (.cells #[.int .u8 0] 5)) w.heap.size (.slice A4 n4 c4) b4) := OwnB.alloc HO5.out _
        go_wp2_with (at_builtin; (refine wpList_app2 rfl (.tmp 58) (.tmp 59) 30 30 rfl w.heap.size 5 (.int .u8 0) 1 1 infoU8 Try.underlying30 rfl (by decide) (.slice A4 n4 c4) (.slice (some ⟨w4.heap.size, 0, none⟩) 1 1) n4 1 (u8s b4) (u8s [0]) rfl rfl ?own ?src ?b1 ?b2 ?b3 ?_; (case own => exact OwnB.n own0.out HL4.out); (case src => exact src0.out); (case b1 => omega); (case b2 => unfold maxLen; omega); (case b3 => have := (HC5.out.alloc (.cells #[.int .u8 0] 5)).size; exact this); intro v6 w6 hown6 hg6 hfrom6; refine Hid.out ?_))
        refine Lib.hid ?_
        clear z1 z2 z3
        have hO6 : OwnB w6 w.heap.size v6 (b4 ++ [0]) := OwnB.of hown6 (by simp [u8s])
        have hC6 : Chg No w w6 := (HC5.out.alloc _).grown hg6 (fun k hk => .inl (own0.out.block k hk).1)
        have hB6 : Box 30 w6 g (.slice A4 n4 c4) := app_keep own0.out hg6 (HB5.out.no ((Chg.refl No _).alloc _)) (by decide)
        have hE6 := app_keep own0.out hg6 (((Chg.refl No _).alloc _).heap HE5.out (fun x => x)) (by decide)
        obtain ⟨A6, n6, c6, rfl, HL6, HO6⟩ := hO6.form
        have z1 := hB6.c
        have z2 := hB6.fr
        have z3 := cellAt hE6 2 (.int .u64 (id : Int)) rfl
        have HC7 : Hid (Chg No w (w6.setCell ⟨g, 0, none⟩ (.slice A6 n6 c6))) := hC6.one (Chg.put w6 _ 0 _) (.inl hs1)
        have HB7 := Lib.hid (hB6.set (.slice A6 n6 c6))
        have HO7 := Lib.hid (hO6.chg (Chg.put w6 g 0 (.slice A6 n6 c6)) (hO6.apart hB6 (by decide)))
        clear hown6 hg6 hfrom6 hO6 HO6 hC6 hE6 own0 src0 HC5 HB5 HE5 HO5
        have hs7 : w6.heap.size = (w6.setCell ⟨g, 0, none⟩ (.slice A6 n6 c6)).heap.size := by simp
        have hg7 := hB6.lt
        clear hB6
        go_wp2_with fail
        clear z1 z2 z3
        generalize w6.setCell ⟨g, 0, none⟩ (.slice A6 n6 c6) = w7 at *
        have HS7 := Lib.hid hs7
        clear hs7
        go_wp2_with fail
        refine (word_cl _ g w.heap.size _ (b4 ++ [0]) _ 1 1 [id] (by have := (HC7.out.alloc (.cells #[.int .u64 (id : Int)] 32)).size; exact this) (HB7.out.no ((Chg.refl No w7).alloc _)) (OwnB.alloc HO7.out _) ?_ (by simpa using hidl) (by omega) (by rw [HL6.out]; have := HL6.out; rw [List.length_append, HL4.out, List.length_singleton] at this; omega)).mono ?_
        · intro W hW
          refine ⟨_, _, rfl, Nat.le_refl _, by unfold maxLen; omega, fun _ => ⟨w7.heap.size, 0, by first | rfl | rw [HS7.out], fun j u hj => ?_⟩⟩
          rcases j with _ | j
          · simp [u64v] at hj
            subst hj
            exact hW.cell (cellAt (heap_alloc_new w7 _) 0 _ rfl) (by intro hx; have hx : w7.heap.size = g := hx; have := HS7.out; omega)
          · simp at hj
        rintro e w8 ⟨rfl, v8, hB8, hO8, hc8⟩
        have HE8 : Hid ([116] ++ leb n ++ (xs.take (k + 1)).flatMap entB = b4 ++ [0] ++ List.flatMap wide [id]) := by
          rw [Hid, HT.out, List.flatMap_append, ← HB4.out, ← HYS.out]
          simp [entB]
        have HB8 : Hid (∃ v, Box 30 w8 g v ∧ OwnB w8 w.heap.size v ([116] ++ leb n ++ (xs.take (k + 1)).flatMap entB)) := ⟨v8, hB8, by rw [HE8.out]; exact hO8⟩
        have HC8 : Hid (Chg No w w8) := (HC7.out.alloc _).one hc8 (.inl hs1)
        clear hB8 hO8 hc8 HC7 HB7 HO7
        go_wp2
        go_roundw
        case rel => exact ⟨k + 1, by omega, by simp, HB8.out, HC8.out⟩
        case measure => simp [intOf]; omega
    · have hkn : k = n := by omega
      subst hkn
      obtain ⟨v3, hb3, ho3⟩ := HB.out
      have z1 := hb3.c
      have HT : Hid ([116] ++ leb k ++ (xs.take k).flatMap entB = treeB xs) := by
        rw [Hid, treeB, List.take_of_length_le (by rw [HL.out]; exact Nat.le_refl _), HL.out]
      obtain ⟨A3, n3, c3, rfl, HL3, HO3⟩ := ho3.form
      clear hb3 ho3 HB
      go_wp2
      go_ret2
      exact ⟨_, rfl, by rw [← HT.out]; exact HO3.out, HC.out⟩
end Go.Proofs.Ytccphnkdnifpfaa

namespace Go.Proofs.Ytccphnkdnifpfaa
set_option linter.unnecessarySimpa false
open Go.RowKit
set_option linter.unusedVariables false
set_option linter.unusedSimpArgs false
set_option maxRecDepth 100000

theorem equal_calls (w : World) (A : Option Addr) (n c : Nat) (xs : List UInt8) (A' : Option Addr) (n' c' : Nat) (ys : List UInt8) (h : Bytes w (.slice A n c) xs) (h' : Bytes w (.slice A' n' c') ys) :
    Calls Try.prog 37 #[.slice A n c, .slice A' n' c'] w fun e w' => e = .returned (.bool (decide (xs = ys))) ∧ w' = w := by
  have t1 := h.text (P := Try.prog) (src := 30) (dst := 9) Try.underlying30 Try.underlying5 Try.underlying9
  have t2 := h'.text (P := Try.prog) (src := 30) (dst := 9) Try.underlying30 Try.underlying5 Try.underlying9
  have hb : ((mkS xs).toList == (mkS ys).toList) = decide (xs = ys) := by
    rw [Lib.toList_data, Lib.toList_data, mkS_list, mkS_list]
    by_cases hx : xs = ys
    · simp [hx]
    · simp [hx]
  generalize decide (xs = ys) = z at *
  clear h h'
  go_enter Try.func37, Try.ntmps37
  go_wp2
  go_ret
  exact ⟨by first | rfl | simp [hb], rfl⟩

/-- What Encode answers. -/
def Encodes (w : World) (o : Value) (k : Int) (bs : List UInt8) : Prop :=
  ∀ W, Chg No w W → Calls Try.prog 36 #[o] W fun e w' => ∃ v, e = .returned (.tuple #[v, .int .i64 k]) ∧ OwnB w' W.heap.size v bs ∧ Chg No W w'
theorem Encodes.no {w w' : World} {o : Value} {k : Int} {bs : List UInt8} (h : Encodes w o k bs) (hc : Chg No w w') : Encodes w' o k bs := fun W hW => h W (hc.no hW)
theorem Encodes.ofRefused {w : World} {o : Value} {k : Nat} (hk : k ≠ 0) (h : ∀ W, Chg No w W → Calls Try.prog 70 #[o] W fun e w' => e = .returned (.int .i64 (k : Int)) ∧ Chg No W w') : Encodes w o k [] := by
  intro W hW
  refine (encode_refused W o k hk (h W hW)).mono ?_
  rintro e w' ⟨rfl, hc⟩
  exact ⟨_, rfl, World.ownsRow_nil _ _ _ _, hc⟩
theorem encodes_commit (w : World) (t : Nat) (A : Option Addr) (n c : Nat) (ps : List Nat) (a : ByteArray) (d : Int) (x : ByteArray) (h : Sl u64v w (.slice A n c) ps) (hn : n ≤ 9223372036854775807) (ha : a.size ≤ 9223372036854775807) (hx : x.size ≤ 9223372036854775807)
    (ht : t < 18446744073709551616) (hps : ∀ p ∈ ps, p < 18446744073709551616) :
    Encodes w (commitV (t : Int) (.slice A n c) a d x) (commitF t ps a.data.toList x.data.toList : Nat) (if commitF t ps a.data.toList x.data.toList = 0 then commitB t ps a.data.toList d x.data.toList else []) := by
  by_cases hF : commitF t ps a.data.toList x.data.toList = 0
  · rw [if_pos hF]
    intro W hW
    rw [show ((commitF t ps a.data.toList x.data.toList : Nat) : Int) = 0 by rw [hF]; rfl]
    exact encode_commit W t A n c ps a d x (h.no hW) hF ht hps
  · rw [if_neg hF]
    exact Encodes.ofRefused hF (fun W hW => check_commit W t A n c ps a d x (h.no hW) hn ha hx)
theorem treeF_nat (xs : List Ent) : ∃ k : Nat, treeF xs = (k : Int) := by
  unfold treeF
  split
  · exact ⟨3, rfl⟩
  · have : ∀ (l : List Ent) (a : ByteArray), ∃ k : Nat, treeG a l = (k : Int) := by
      intro l
      induction l with
      | nil => exact fun a => ⟨0, rfl⟩
      | cons y r ih =>
        intro a
        unfold treeG
        split
        · unfold spotF
          split
          · exact ⟨140, rfl⟩
          · split
            · exact ⟨3, rfl⟩
            · split
              · exact ⟨0, rfl⟩
              · exact ⟨140, rfl⟩
        · split
          · exact ⟨161, rfl⟩
          · split
            · exact ⟨2, rfl⟩
            · exact ih y.1
    exact this xs _
theorem encodes_tree (w : World) (A : Option Addr) (n c : Nat) (xs : List Ent) (h : Es w (.slice A n c) xs) (hx : ∀ x ∈ xs, x.1.size ≤ 9223372036854775807) (hid : ∀ x ∈ xs, x.2.2 < 18446744073709551616) :
    Encodes w (treeV (.slice A n c)) (treeF xs) (if treeF xs = 0 then treeB xs else []) := by
  by_cases hF : treeF xs = 0
  · rw [if_pos hF]
    intro W hW
    rw [hF]
    exact encode_tree W A n c xs (h.no hW) hF hid
  · rw [if_neg hF]
    obtain ⟨k, hk⟩ := treeF_nat xs
    rw [hk] at hF ⊢
    refine Encodes.ofRefused (by intro h0; exact hF (by rw [h0]; rfl)) (fun W hW => ?_)
    have := check_tree W A n c xs (h.no hW) hx
    rw [hk] at this
    exact this
theorem encodes_blob (w : World) (A : Option Addr) (n c : Nat) (xs : List UInt8) (hb : Bytes w (.slice A n c) xs) (hl : xs.length = n) :
    Encodes w (blobV (.slice A n c)) (if 4096 < n then 3 else 0) (if 4096 < n then [] else 98 :: xs) := by
  by_cases h : 4096 < n
  · rw [if_pos h, if_pos h]
    refine Encodes.ofRefused (k := 3) (by decide) (fun W hW => ?_)
    have := check_blob W A n c
    rw [if_pos h] at this
    exact this
  · rw [if_neg h, if_neg h]
    exact fun W hW => encode_blob W A n c xs (hb.no hW) hl (by omega)

def idF (xs : List UInt8) : Nat := max (hashF xs) 1
theorem id_calls (w : World) (A : Option Addr) (n c : Nat) (xs : List UInt8) (h : Bytes w (.slice A n c) xs) (hl : xs.length = n) (hx : n ≤ 140737488355328) :
    Calls Try.prog 15 #[.slice A n c] w fun e w' => e = .returned (.int .u64 (idF xs : Int)) ∧ w' = w := by
  have HF : Hid (idF xs = if (hashF xs : Int) < 1 then 1 else hashF xs) := by
    rw [Hid, idF]
    split <;> omega
  go_enter Try.func15, Try.ntmps15
  go_wp2_with fail
  refine (hash_calls w A n c xs h hl hx).mono ?_
  rintro e w1 ⟨rfl, rfl⟩
  clear h hl
  by_cases h1 : (hashF xs : Int) < 1
  · go_wp2
    go_ret
    refine ⟨?_, rfl⟩
    rw [HF.out, if_pos h1]
    first | rfl | (simp; omega)
  · go_wp2
    go_ret
    refine ⟨?_, rfl⟩
    rw [HF.out, if_neg (by omega)]
    first | rfl | (simp; omega)
end Go.Proofs.Ytccphnkdnifpfaa

namespace Go.Proofs.Ytccphnkdnifpfaa
set_option linter.unnecessarySimpa false
open Go.RowKit Go.MapKept
set_option linter.unusedVariables false
set_option linter.unusedSimpArgs false
set_option maxRecDepth 100000

def u64k (i : Nat) : Value := .int .u64 (i : Int)
/-- The entries of ids, from number k on. -/
def entsI : Nat → List Nat → List MapEntry
  | _, [] => []
  | k, i :: r => { key := u64k i, val := .int .i64 (k : Int), born := k } :: entsI (k + 1) r
def mapI (ids : List Nat) : Obj := .map (entsI 0 ids).toArray ids.length
/-- Where an id stands. -/
def findI (i : Nat) : List Nat → Option Nat
  | [] => none
  | x :: r => if i = x then some 0 else (findI i r).map (· + 1)
theorem findI_some : ∀ {ids : List Nat} {i k : Nat}, findI i ids = some k → ∃ h : k < ids.length, ids[k] = i
  | [], i, k, h => by cases h
  | x :: r, i, k, h => by
    rw [findI] at h
    split at h
    · rename_i e; cases h; exact ⟨by simp, e.symm⟩
    · cases hr : findI i r with
      | none => rw [hr] at h; cases h
      | some q =>
        rw [hr] at h
        cases h
        obtain ⟨h1, h2⟩ := findI_some hr
        exact ⟨by simp; omega, by simpa using h2⟩
theorem findI_none : ∀ {ids : List Nat} {i : Nat}, findI i ids = none ↔ i ∉ ids
  | [], i => by simp [findI]
  | x :: r, i => by
    rw [findI]
    by_cases e : i = x
    · rw [if_pos e]; simp [e]
    · rw [if_neg e]
      simp only [Option.map_eq_none_iff, findI_none, List.mem_cons, e, false_or]
theorem entsI_app : ∀ (k : Nat) (a b : List Nat), entsI k (a ++ b) = entsI k a ++ entsI (k + a.length) b
  | k, [], b => by simp [entsI]
  | k, x :: a, b => by
    rw [List.cons_append, entsI, entsI, entsI_app (k + 1) a b, List.cons_append]
    congr 3; simp; omega
theorem entsI_len : ∀ (k : Nat) (a : List Nat), (entsI k a).length = a.length
  | k, [] => rfl
  | k, x :: a => by rw [entsI, List.length_cons, List.length_cons, entsI_len (k + 1) a]
theorem findNow_ids (d : TypeDesc) (hd : d = .int .u64) (i : Nat) : ∀ (ids : List Nat) (k p : Nat), Instr.findNow d (u64k i) (entsI k ids) p = some ((findI i ids).map fun q => (p + q, .int .i64 ((k + q : Nat) : Int)))
  | [], k, p => by simp [entsI, Instr.findNow, findI]
  | x :: r, k, p => by
    subst hd
    rw [entsI, Instr.findNow, findI]
    have e : Instr.sameNow (.int .u64) (u64k i) (u64k x) = some (decide (i = x)) := by
      simp only [Instr.sameNow, u64k, if_true]
      congr 1
      by_cases h : i = x
      · simp [h]
      · have : ¬ ((i : Int) = (x : Int)) := by omega
        simp [h, this]
    simp only [e]
    by_cases h : i = x
    · simp [h]
    · simp only [h, decide_false, if_false]
      rw [findNow_ids _ rfl i r (k + 1) (p + 1)]
      cases findI i r with
      | none => rfl
      | some q => simp only [Option.map_some]; congr 3; omega; congr 2; omega
theorem zeroInt (w : World) : Sem.run Try.prog (zeroValue 3) w = .ok (.int .i64 0) w := by
  first | rfl | (simp [go_sem]; done) | exact Try.zeroValue3 w
theorem ckI (w : World) (i : Nat) (em : Bool) : Sem.run Try.prog (Instr.checkKey em 10000 32 (u64k i)) w = .ok () w := run_checkKey (n := 9999) Try.underlying32 (by simp [IsKey, u64k]) em
theorem fkI (w : World) (i : Nat) (ids : List Nat) : Sem.run Try.prog (Instr.findKey 32 (u64k i) (entsI 0 ids)) w = .ok ((findI i ids).map fun q => (q, .int .i64 (q : Int))) w := by
  have h := findNow_ids (.int .u64) rfl i ids 0 0
  simp only [Nat.zero_add] at h
  exact run_findKey Try.underlying32 h
theorem lookI_none (w : World) (m i : Nat) (ids : List Nat) (h : w.heap[m]? = some (mapI ids)) (hf : findI i ids = none) :
    Sem.run Try.prog (Instr.lookup 89 (.map (some m)) (u64k i) true) w = .ok (.tuple #[.int .i64 0, .bool false]) w := by
  have hb := Go.MapKept.run_getObj_map (P := Try.prog) (show w.heap[m]? = some (.map _ _) from h)
  have hk := fkI w i ids
  rw [hf] at hk
  simp [Instr.lookup, run_underlying Try.underlying89, hb, ckI, hk, zeroInt, Sem.run_bind, Sem.run_pure, Result.andThen]
theorem lookI_some (w : World) (m i q : Nat) (ids : List Nat) (h : w.heap[m]? = some (mapI ids)) (hf : findI i ids = some q) :
    Sem.run Try.prog (Instr.lookup 89 (.map (some m)) (u64k i) true) w = .ok (.tuple #[.int .i64 (q : Int), .bool true]) w := by
  have hb := Go.MapKept.run_getObj_map (P := Try.prog) (show w.heap[m]? = some (.map _ _) from h)
  have hk := fkI w i ids
  rw [hf] at hk
  simp [Instr.lookup, run_underlying Try.underlying89, hb, ckI, hk, zeroInt, Sem.run_bind, Sem.run_pure, Result.andThen]
theorem updateI (w : World) (m i : Nat) (ids : List Nat) (h : w.heap[m]? = some (mapI ids)) (hf : findI i ids = none) :
    Sem.run Try.prog (Instr.mapUpdate 89 (.map (some m)) (u64k i) (.int .i64 (ids.length : Int))) w = .ok () (w.putObj m (mapI (ids ++ [i]))) := by
  have hb := Go.MapKept.run_getObj_map (P := Try.prog) (show w.heap[m]? = some (.map _ _) from h)
  have hs := fun o => Go.MapKept.run_setObj_map (P := Try.prog) o (show w.heap[m]? = some (.map _ _) from h)
  have hk := fkI w i ids
  rw [hf] at hk
  have he : mapI (ids ++ [i]) = .map ((entsI 0 ids).toArray.push { key := u64k i, val := .int .i64 (ids.length : Int), born := ids.length }) (ids.length + 1) := by
    rw [mapI, entsI_app, List.length_append]
    simp [entsI]
  rw [he]
  simp [Instr.mapUpdate, run_underlying Try.underlying89, hb, hs, World.putObj, ckI, hk, Sem.run_bind, Sem.run_pure, Result.andThen]
end Go.Proofs.Ytccphnkdnifpfaa

namespace Go.Proofs.Ytccphnkdnifpfaa
set_option linter.unnecessarySimpa false
open Go.RowKit
set_option linter.unusedVariables false
set_option linter.unusedSimpArgs false
set_option maxRecDepth 100000

theorem beq_bytes (a b : ByteArray) : (a.toList == b.toList) = decide (a = b) := by
  rw [Lib.toList_data, Lib.toList_data]
  by_cases h : a = b
  · simp [h]
  · have : ¬ a.data.toList = b.data.toList := fun e => h (by rw [← mkS_self a, e, mkS_self])
    rw [beq_eq_false_iff_ne.2 this, decide_eq_false h]

end Go.Proofs.Ytccphnkdnifpfaa

namespace Go.Proofs.Ytccphnkdnifpfaa
set_option linter.unnecessarySimpa false
set_option linter.unusedVariables false
set_option linter.unusedSimpArgs false

theorem numF_leb (xs : List UInt8) : ∀ (i x v n : Nat), i ≤ 9 → x < 128 ^ i → numF i x xs = (v, n, 0) → ∃ m, n = i + m ∧ 0 < m ∧ x ≤ v ∧ (v - x) % 128 ^ i = 0 ∧ (0 < i → 0 < (v - x) / 128 ^ i) ∧ leb ((v - x) / 128 ^ i) = xs.take m := by
  induction xs with
  | nil => intro i x v n hi hx h; simp [numF] at h
  | cons c t ih =>
    intro i x v n hi hx h
    by_cases hb : i = 9 ∧ 1 < c.toNat ∨ 0 < i ∧ c.toNat = 0
    · rw [numF_bad i x c t hb] at h; simp at h
    · have hc256 : c.toNat < 256 := c.toNat_lt
      have hpos : 0 < 128 ^ i := Nat.pow_pos (by decide)
      by_cases hc : c.toNat < 128
      · rw [numF_last i x c t hb hc] at h
        simp only [Prod.mk.injEq, and_true] at h
        obtain ⟨rfl, rfl⟩ := h
        have e : (x + c.toNat % 128 * 128 ^ i - x) / 128 ^ i = c.toNat := by
          rw [Nat.add_sub_cancel_left, Nat.mul_div_cancel _ hpos]; omega
        refine ⟨1, rfl, by omega, by omega, ?_, ?_, ?_⟩
        · rw [Nat.add_sub_cancel_left]; exact Nat.mul_mod_left _ _
        · intro h0; rw [e]
          rcases Nat.eq_zero_or_pos c.toNat with h1 | h1
          · exact absurd (Or.inr ⟨h0, h1⟩) hb
          · exact h1
        · rw [e, leb_small _ hc]
          simp
      · rw [numF_more i x c t hb hc] at h
        have hi9 : i < 9 := by
          rcases Nat.lt_or_ge i 9 with h' | h'
          · exact h'
          · exact absurd (Or.inl ⟨by omega, by omega⟩) hb
        obtain ⟨m, h1, h2, h4, h5, h6, h7⟩ := ih (i + 1) _ v n (by omega) (acc_lt i x c.toNat hx) h
        have hq := h6 (by omega)
        -- v - x = (c % 128) * 128^i + q * 128^(i+1)
        generalize hQ : (v - (x + c.toNat % 128 * 128 ^ i)) / 128 ^ (i + 1) = q at *
        have hv : v - (x + c.toNat % 128 * 128 ^ i) = q * 128 ^ (i + 1) := by
          have := Nat.div_add_mod (v - (x + c.toNat % 128 * 128 ^ i)) (128 ^ (i + 1))
          rw [h5, hQ, Nat.add_zero, Nat.mul_comm] at this
          exact this.symm
        have hvx : v - x = (c.toNat % 128 + q * 128) * 128 ^ i := by
          rw [Nat.pow_succ] at hv
          rw [Nat.add_mul, Nat.mul_assoc, Nat.mul_comm 128 (128 ^ i)]
          omega
        have hdiv : (v - x) / 128 ^ i = c.toNat % 128 + q * 128 := by rw [hvx, Nat.mul_div_cancel _ hpos]
        refine ⟨m + 1, by omega, by omega, by omega, ?_, ?_, ?_⟩
        · rw [hvx]; exact Nat.mul_mod_left _ _
        · intro _; rw [hdiv]; omega
        · rw [hdiv, leb_big _ (by omega), List.take_succ_cons, ← h7]
          congr 1
          · have e1 : (c.toNat % 128 + q * 128) % 128 + 128 = c.toNat := by omega
            rw [e1]; simp
          · congr 1; omega
theorem numF_leb0 (xs : List UInt8) (v n : Nat) (h : numF 0 0 xs = (v, n, 0)) : leb v = xs.take n := by
  obtain ⟨m, h1, _, _, _, _, h7⟩ := numF_leb xs 0 0 v n (by omega) (by simp) h
  simp at h7
  rw [h7, h1, Nat.zero_add]
theorem beF_append (a b : List UInt8) : ∀ x, beF x (a ++ b) = beF (beF x a) b := by
  induction a with
  | nil => intro x; rfl
  | cons c t ih => intro x; simp only [List.cons_append, beF]; exact ih _
theorem beF_wide_take (x k : Nat) (hk : k ≤ 8) : beF 0 ((wide x).take k) = x / 256 ^ (8 - k) % 256 ^ k := by
  induction k with
  | zero => simp [beF, Nat.mod_one]
  | succ k ih =>
    rw [wide_take x k (by omega), beF_append, ih (by omega)]
    simp only [beF]
    have e : (UInt8.ofNat (x / 256 ^ (7 - k))).toNat = x / 256 ^ (7 - k) % 256 := by rw [UInt8.toNat_ofNat']
    rw [e, show 8 - k = (7 - k) + 1 by omega, show 8 - (k + 1) = 7 - k by omega, Nat.pow_succ, ← Nat.div_div_eq_div_mul]
    generalize x / 256 ^ (7 - k) = z
    rw [Nat.pow_succ, Nat.mul_comm (256 ^ k) 256, Nat.mod_mul]
    omega
theorem beF_wide (x : Nat) (h : x < 18446744073709551616) : beF 0 (wide x) = x := by
  have := beF_wide_take x 8 (Nat.le_refl _)
  rw [List.take_of_length_le (by rw [wide_len]; omega)] at this
  rw [this]
  simp only [Nat.sub_self, Nat.pow_zero, Nat.div_one]
  exact Nat.mod_eq_of_lt h
theorem beF_inj : ∀ (xs ys : List UInt8) (x y : Nat), xs.length = ys.length → beF x xs = beF y ys → x = y ∧ xs = ys
  | [], [], x, y, _, h => ⟨h, rfl⟩
  | c :: t, d :: u, x, y, hl, h => by
    obtain ⟨h1, h2⟩ := beF_inj t u (x * 256 + c.toNat) (y * 256 + d.toNat) (by simpa using hl) h
    have hc : c.toNat < 256 := c.toNat_lt
    have hd : d.toNat < 256 := d.toNat_lt
    have e : c = d := UInt8.toNat_inj.1 (by omega)
    exact ⟨by omega, by rw [e, h2]⟩
theorem beF8_lt (l : List UInt8) (h : l.length = 8) : beF 0 l < 18446744073709551616 := by
  have := beF_lt l 0
  rw [h] at this
  simpa using this
theorem wide_beF (l : List UInt8) (h : l.length = 8) : wide (beF 0 l) = l :=
  (beF_inj _ _ 0 0 (by rw [wide_len, h]) (beF_wide _ (beF8_lt l h))).2
end Go.Proofs.Ytccphnkdnifpfaa

namespace Go.Proofs.Ytccphnkdnifpfaa
set_option linter.unnecessarySimpa false
set_option linter.unusedVariables false
set_option linter.unusedSimpArgs false

theorem ofNat_inj {a b : Nat} (ha : a < 256) (hb : b < 256) (h : UInt8.ofNat a = UInt8.ofNat b) : a = b := by
  have := congrArg UInt8.toNat h
  simpa [UInt8.toNat_ofNat', Nat.mod_eq_of_lt ha, Nat.mod_eq_of_lt hb] using this
theorem leb_inj : ∀ (n m : Nat) (r r' : List UInt8), leb n ++ r = leb m ++ r' → n = m ∧ r = r' := by
  intro n
  induction n using Nat.strongRecOn with
  | _ n ih =>
    intro m r r' h
    by_cases hn : n < 128
    · rw [leb_small n hn] at h
      by_cases hm : m < 128
      · rw [leb_small m hm] at h
        simp only [List.singleton_append, List.cons.injEq] at h
        exact ⟨ofNat_inj (by omega) (by omega) h.1, h.2⟩
      · rw [leb_big m hm] at h
        simp only [List.singleton_append, List.cons_append, List.cons.injEq] at h
        have := ofNat_inj (by omega) (by omega) h.1
        omega
    · rw [leb_big n hn] at h
      by_cases hm : m < 128
      · rw [leb_small m hm] at h
        simp only [List.singleton_append, List.cons_append, List.cons.injEq] at h
        have := ofNat_inj (by omega) (by omega) h.1
        omega
      · rw [leb_big m hm] at h
        simp only [List.cons_append, List.cons.injEq] at h
        have h1 := ofNat_inj (by omega) (by omega) h.1
        obtain ⟨h2, h3⟩ := ih (n / 128) (by omega) (m / 128) r r' h.2
        exact ⟨by omega, h3⟩
theorem wide_inj {x y : Nat} (hx : x < 18446744073709551616) (hy : y < 18446744073709551616) (h : wide x = wide y) : x = y := by
  rw [← beF_wide x hx, ← beF_wide y hy, h]
theorem wides_inj : ∀ (xs ys : List Nat), (∀ x ∈ xs, x < 18446744073709551616) → (∀ y ∈ ys, y < 18446744073709551616) → xs.length = ys.length → xs.flatMap wide = ys.flatMap wide → xs = ys
  | [], [], _, _, _, _ => rfl
  | [], _ :: _, _, _, h, _ => by simp at h
  | _ :: _, [], _, _, h, _ => by simp at h
  | x :: xs, y :: ys, hx, hy, hl, h => by
    rw [List.flatMap_cons, List.flatMap_cons] at h
    obtain ⟨h1, h2⟩ := List.append_inj h (by rw [wide_len, wide_len])
    rw [wide_inj (hx x (by simp)) (hy y (by simp)) h1, wides_inj xs ys (fun z hz => hx z (by simp [hz])) (fun z hz => hy z (by simp [hz])) (by simpa using hl) h2]
theorem du_inj {a b : Int} (ha : -9223372036854775808 ≤ a ∧ a ≤ 9223372036854775807) (hb : -9223372036854775808 ≤ b ∧ b ≤ 9223372036854775807) (h : du a = du b) : a = b := by
  unfold du at h; omega
theorem commitB_inj {t t' : Nat} {ps ps' : List Nat} {a a' x x' : List UInt8} {d d' : Int} (ht : t < 18446744073709551616) (ht' : t' < 18446744073709551616) (hp : ∀ p ∈ ps, p < 18446744073709551616) (hp' : ∀ p ∈ ps', p < 18446744073709551616)
    (hd : -9223372036854775808 ≤ d ∧ d ≤ 9223372036854775807) (hd' : -9223372036854775808 ≤ d' ∧ d' ≤ 9223372036854775807) (h : commitB t ps a d x = commitB t' ps' a' d' x') : t = t' ∧ ps = ps' ∧ a = a' ∧ d = d' ∧ x = x' := by
  simp only [commitB, List.append_assoc, List.singleton_append, List.cons.injEq, true_and] at h
  obtain ⟨h1, h⟩ := List.append_inj h (by simp [wide_len])
  have h1 := (List.cons.inj h1).2
  obtain ⟨h2, h⟩ := leb_inj _ _ _ _ h
  obtain ⟨h3, h⟩ := List.append_inj h (by rw [wides_len, wides_len, h2])
  obtain ⟨h4, h⟩ := leb_inj _ _ _ _ h
  obtain ⟨h5, h⟩ := List.append_inj h h4
  obtain ⟨h6, h⟩ := List.append_inj h (by rw [wide_len, wide_len])
  obtain ⟨h7, h8⟩ := leb_inj _ _ _ _ h
  exact ⟨wide_inj ht ht' h1, wides_inj _ _ hp hp' h2 h3, h5, du_inj hd hd' (wide_inj (du_lt d) (du_lt d') h6), h8⟩
theorem commitB_len {t : Nat} {ps : List Nat} {a x : List UInt8} {d : Int} (h : commitF t ps a x = 0) : (commitB t ps a d x).length ≤ 2000 := by
  obtain ⟨-, h2, -, h4, -, h6, -⟩ := commitF_zero h
  have l1 := leb_len10 ps.length (by omega)
  have l2 := leb_len10 a.length (by omega)
  have l3 := leb_len10 x.length (by omega)
  simp only [commitB, List.length_append, wide_len, wides_len, List.length_singleton]
  omega
/-- Two commits are one, by their bytes. -/
theorem same_commits {t t' : Nat} {ps ps' : List Nat} {a a' x x' : ByteArray} {d d' : Int} (ht : t < 18446744073709551616) (ht' : t' < 18446744073709551616) (hp : ∀ p ∈ ps, p < 18446744073709551616) (hp' : ∀ p ∈ ps', p < 18446744073709551616)
    (hd : -9223372036854775808 ≤ d ∧ d ≤ 9223372036854775807) (hd' : -9223372036854775808 ≤ d' ∧ d' ≤ 9223372036854775807) :
    ((((commitF t ps a.data.toList x.data.toList : Nat) : Int) == 0) && (((commitF t' ps' a'.data.toList x'.data.toList : Nat) : Int) == 0) && decide ((if commitF t ps a.data.toList x.data.toList = 0 then commitB t ps a.data.toList d x.data.toList else []) = (if commitF t' ps' a'.data.toList x'.data.toList = 0 then commitB t' ps' a'.data.toList d' x'.data.toList else []))) =
    (decide (commitF t ps a.data.toList x.data.toList = 0) && decide (t = t' ∧ ps = ps' ∧ a = a' ∧ d = d' ∧ x = x')) := by
  have toS : ∀ u v : ByteArray, u.data.toList = v.data.toList → u = v := fun u v e => by rw [← mkS_self u, e, mkS_self]
  by_cases h1 : commitF t ps a.data.toList x.data.toList = 0
  · by_cases h2 : commitF t' ps' a'.data.toList x'.data.toList = 0
    · rw [if_pos h1, if_pos h2]
      simp only [h1, h2]
      by_cases h3 : t = t' ∧ ps = ps' ∧ a = a' ∧ d = d' ∧ x = x'
      · obtain ⟨rfl, rfl, rfl, rfl, rfl⟩ := h3
        simp
      · have : ¬ commitB t ps a.data.toList d x.data.toList = commitB t' ps' a'.data.toList d' x'.data.toList := fun e => by
          obtain ⟨q1, q2, q3, q4, q5⟩ := commitB_inj ht ht' hp hp' hd hd' e
          exact h3 ⟨q1, q2, toS _ _ q3, q4, toS _ _ q5⟩
        simp [h3, this]
    · have h3 : ¬ (t = t' ∧ ps = ps' ∧ a = a' ∧ d = d' ∧ x = x') := by
        rintro ⟨rfl, rfl, rfl, rfl, rfl⟩
        exact h2 h1
      have : ((((commitF t' ps' a'.data.toList x'.data.toList : Nat) : Int) == 0)) = false := by simp; exact h2
      rw [this, decide_eq_false h3]
      simp
  · have : ((((commitF t ps a.data.toList x.data.toList : Nat) : Int) == 0)) = false := by simp; exact h1
    rw [this, decide_eq_false h1]
    simp
end Go.Proofs.Ytccphnkdnifpfaa

namespace Go.Proofs.Ytccphnkdnifpfaa
set_option linter.unnecessarySimpa false
open Go.RowKit
set_option linter.unusedVariables false
set_option linter.unusedSimpArgs false
set_option maxRecDepth 100000

/-- An object. -/
inductive Ob
  | blob (l : List UInt8)
  | tree (l : List Ent)
  | commit (t : Nat) (ps : List Nat) (a : List UInt8) (d : Int) (x : List UInt8)
def sd (x : Nat) : Int := if x < 9223372036854775808 then (x : Int) else (x : Int) - 18446744073709551616
def readE : Nat → Rd → List Ent → Option (List Ent) × Rd
  | 0, r, acc => (some acc, r)
  | n + 1, r, acc =>
    if r.err ≠ 0 then (some acc, r)
    else if (rByte (rText 32 r).2).1 ≠ 0 ∧ (rByte (rText 32 r).2).1 ≠ 1 then (none, (rByte (rText 32 r).2).2)
    else readE n (rWord (rByte (rText 32 r).2).2).2 (acc ++ [(mkS (rText 32 r).1, (rByte (rText 32 r).2).1 == 1, (rWord (rByte (rText 32 r).2).2).1)])
def readP : Nat → Rd → List Nat → List Nat × Rd
  | 0, r, acc => (acc, r)
  | n + 1, r, acc => if r.err ≠ 0 then (acc, r) else readP n (rWord r).2 (acc ++ [(rWord r).1])
def obCheck : Ob → Int
  | .blob l => if 4096 < l.length then 3 else 0
  | .tree l => treeF l
  | .commit t ps a _ x => (commitF t ps a x : Nat)
def afterC (t : Nat × Rd) (p : List Nat × Rd) : Ob × Rd :=
  (.commit t.1 p.1 (rText 64 p.2).1 (sd (rWord (rText 64 p.2).2).1) (rText 1024 (rWord (rText 64 p.2).2).2).1, (rText 1024 (rWord (rText 64 p.2).2).2).2)
def preF (xs : List UInt8) : Option (Ob × Rd) :=
  if (rByte ⟨xs, 0⟩).1 = 98 then some (.blob (rRaw (rByte ⟨xs, 0⟩).2.rest.length (rByte ⟨xs, 0⟩).2).1, (rRaw (rByte ⟨xs, 0⟩).2.rest.length (rByte ⟨xs, 0⟩).2).2)
  else if (rByte ⟨xs, 0⟩).1 = 116 then (readE (rUint (rByte ⟨xs, 0⟩).2).1 (rUint (rByte ⟨xs, 0⟩).2).2 []).1.map (fun l => (.tree l, (readE (rUint (rByte ⟨xs, 0⟩).2).1 (rUint (rByte ⟨xs, 0⟩).2).2 []).2))
  else if (rByte ⟨xs, 0⟩).1 = 99 then some (afterC (rWord (rByte ⟨xs, 0⟩).2) (readP (rUint (rWord (rByte ⟨xs, 0⟩).2).2).1 (rUint (rWord (rByte ⟨xs, 0⟩).2).2).2 []))
  else none
def decF (xs : List UInt8) : Option Ob :=
  match preF xs with
  | none => none
  | some p => if rEnd p.2 = 0 ∧ obCheck p.1 = 0 then some p.1 else none
/-- An object's value, in memory of its own. -/
def IsOb (w : World) (base : Nat) (v : Value) : Ob → Prop
  | .blob l => ∃ s, v = blobV s ∧ OwnB w base s l
  | .tree l => ∃ s, v = treeV s ∧ w.ownsRow base 130 3 s l.length (l.flatMap encE)
  | .commit t ps a d x => ∃ s, v = commitV (t : Int) s (mkS a) d (mkS x) ∧ w.ownsRow base 32 1 s ps.length (ps.map u64v)
/-- What Decode answers. -/
def DecR (base : Nat) (w' : World) (e : Ending) : Option Ob → Prop
  | none => e = .returned (.tuple #[.nilIface, .int .i64 8])
  | some o => ∃ v, e = .returned (.tuple #[v, .int .i64 0]) ∧ IsOb w' base v o
theorem check_nil (w : World) : Calls Try.prog 70 #[.nilIface] w fun e w' => e = .returned (.int .i64 160) ∧ Chg No w w' := by
  have fb := fun w => ta_nil_blob w
  have ft := fun w => ta_nil_tree w
  have fc := fun w => ta_nil_commit w
  go_enter Try.func70, Try.ntmps70
  go_wp2
  go_ret
  exact ⟨rfl, Chg.refl _ _⟩
theorem rByte_zero {xs : List UInt8} (h : (rByte ⟨xs, 0⟩).1 ≠ 0) : ∃ b t, xs = b :: t ∧ rByte ⟨xs, 0⟩ = (b, ⟨t, 0⟩) := by
  cases xs with
  | nil => exact absurd rfl h
  | cons b t => exact ⟨b, t, rfl, rfl⟩
theorem u8_int {b : UInt8} {k : Nat} (h : b.toNat = k) : (b.toNat : Int) = k := by omega

set_option maxHeartbeats 1600000 in
theorem decode_none (w : World) (A : Option Addr) (n c : Nat) (xs : List UInt8) (hb : Bytes w (.slice A n c) xs) (hl : xs.length = n) (hn : n ≤ 1000000)
    (h1 : (rByte ⟨xs, 0⟩).1 ≠ 98) (h2 : (rByte ⟨xs, 0⟩).1 ≠ 116) (h3 : (rByte ⟨xs, 0⟩).1 ≠ 99) :
    Calls Try.prog 34 #[.slice A n c] w fun e w' => DecR w.heap.size w' e (decF xs) ∧ Chg No w w' := by
  have HD : Hid (decF xs = none) := by rw [Hid, decF, preF, if_neg h1, if_neg h2, if_neg h3]
  have q : ∀ (b k : UInt8), b ≠ k → ((b.toNat : Int) == (k.toNat : Int)) = false := by
    intro b k h
    rw [beq_eq_false_iff_ne]
    intro e
    exact h (UInt8.toNat_inj.1 (by omega))
  have b1 : (((rByte ⟨xs, 0⟩).1.toNat : Int) == 98) = false := q _ 98 h1
  have b2 : (((rByte ⟨xs, 0⟩).1.toNat : Int) == 116) = false := q _ 116 h2
  have b3 : (((rByte ⟨xs, 0⟩).1.toNat : Int) == 99) = false := q _ 99 h3
  clear q h1 h2 h3
  have HB := Lib.hid hb
  clear hb
  go_enter Try.func34, Try.ntmps34
  go_wp2_with fail
  refine (read_calls w A n c xs HB.out (by omega)).mono ?_
  rintro e w' ⟨w1, v, rfl, rfl, hown, hc⟩
  obtain ⟨d, hd, hr⟩ := RdrAt.made hown hc.size
  have hsz := hc.size
  have HC := Lib.hid ((hc.alloc (.cells #[.bool true, v, .int .i64 0] 141)))
  clear hown hc
  generalize w1.alloc (.cells #[.bool true, v, .int .i64 0] 141) = w2 at *
  generalize w1.heap.size = g at *
  go_wp2_with fail
  refine (byte_calls w2 g d _ hr).mono ?_
  rintro e w3 ⟨rfl, hr3, hc3⟩
  have HC3 : Hid (Chg No w w3) := HC.out.one hc3 (.inl hsz)
  clear hc3 hr HC
  generalize rByte ⟨xs, 0⟩ = R at *
  go_wp2_with fail
  refine (end_calls _ g d R.2 hr3).mono ?_
  rintro e w8 ⟨rfl, rfl⟩
  by_cases hend : rEnd R.2 = 0
  · rw [hend]
    go_wp2_with fail
    refine (check_nil _).mono ?_
    rintro e w9 ⟨rfl, hc9⟩
    go_wp2
    go_ret2
    exact ⟨by rw [HD.out]; rfl, HC3.out.no hc9⟩
  · have bk : (rEnd R.2 != 0) = true := by simpa using hend
    clear hend
    go_wp2
    go_ret2
    exact ⟨by rw [HD.out]; rfl, HC3.out⟩

set_option maxHeartbeats 1600000 in
theorem decode_blob (w : World) (A : Option Addr) (n c : Nat) (xs : List UInt8) (hb : Bytes w (.slice A n c) xs) (hl : xs.length = n) (hn : n ≤ 1000000) (h1 : (rByte ⟨xs, 0⟩).1 = 98) :
    Calls Try.prog 34 #[.slice A n c] w fun e w' => DecR w.heap.size w' e (decF xs) ∧ Chg No w w' := by
  obtain ⟨b0, t0, rfl, hR⟩ := rByte_zero (xs := xs) (by rw [h1]; decide)
  have hb98 : b0 = 98 := by rw [hR] at h1; exact h1
  subst hb98
  have HPF : Hid (preF (98 :: t0) = some (.blob (rRaw t0.length ⟨t0, 0⟩).1, (rRaw t0.length ⟨t0, 0⟩).2)) := by rw [Hid, preF, if_pos h1, hR]
  have HT : Hid (rRaw t0.length ⟨t0, 0⟩ = (t0, ⟨[], 0⟩)) := by simp [Hid, rRaw]
  have ht0 : t0.length ≤ 1000000 := by simp at hl; omega
  generalize hxs : (98 :: t0 : List UInt8) = xs at *
  have HR := Lib.hid hR
  clear hR hxs h1
  have HB := Lib.hid hb
  clear hb
  go_enter Try.func34, Try.ntmps34
  go_wp2_with fail
  refine (read_calls w A n c xs HB.out (by omega)).mono ?_
  rintro e w' ⟨w1, v, rfl, rfl, hown, hc⟩
  obtain ⟨d, hd, hr⟩ := RdrAt.made hown hc.size
  have hsz := hc.size
  have HC := Lib.hid ((hc.alloc (.cells #[.bool true, v, .int .i64 0] 141)))
  clear hown hc
  generalize w1.alloc (.cells #[.bool true, v, .int .i64 0] 141) = w2 at *
  generalize w1.heap.size = g at *
  go_wp2_with fail
  refine (byte_calls w2 g d _ hr).mono ?_
  rintro e w3 ⟨rfl, hr3, hc3⟩
  have HC3 : Hid (Chg No w w3) := HC.out.one hc3 (.inl hsz)
  clear hc3 hr HC
  rw [HR.out] at hr3 ⊢
  have HR3 := Lib.hid hr3
  clear hr3
  try simp only [show ((98 : UInt8).toNat : Int) = 98 from rfl] at *
  go_wp2_with fail
  refine (left_calls w3 g d _ HR3.out).mono ?_
  rintro e w4 ⟨rfl, rfl⟩
  go_wp2_with fail
  refine (raw_calls w3 g d _ _ HR3.out (by simp only; omega)).mono ?_
  rintro e w5 ⟨v5, rfl, ho5, hr5, hc5⟩
  try simp only at ho5 hr5
  rw [HT.out] at ho5 hr5
  obtain ⟨A5, n5, c5, rfl, HL5, HO5⟩ := ho5.form
  have HR5 := Lib.hid hr5
  have HC5 : Hid (Chg No w w5) := HC3.out.one hc5 (.inl hsz)
  have hs3 := HC3.out.size
  clear ho5 hr5 hc5 HC3 HR3
  have CK : Hid (∀ W, Calls Try.prog 70 #[blobV (.slice A5 n5 c5)] W fun e w' => e = .returned (.int .i64 (if 4096 < n5 then 3 else 0)) ∧ Chg No W w') := fun W => check_blob W A5 n5 c5
  have HK : Hid (obCheck (.blob t0) = if 4096 < n5 then 3 else 0) := by rw [Hid, obCheck, HL5.out]
  generalize (if 4096 < n5 then (3 : Int) else 0) = K at *
  rw [HT.out] at HPF
  generalize ho : Ob.blob t0 = o at *
  have HPF : Hid (decF xs = if rEnd ⟨[], 0⟩ = 0 ∧ obCheck o = 0 then some o else none) := by rw [Hid, decF, HPF.out]
  go_wp2_with fail
  refine (end_calls _ g d ⟨[], 0⟩ HR5.out).mono ?_
  rintro e w8 ⟨rfl, rfl⟩
  by_cases hend : rEnd ⟨[], 0⟩ = 0
  · rw [hend]
    go_wp2_with fail
    refine (CK.out _).mono ?_
    rintro e w9 ⟨rfl, hc9⟩
    by_cases hck : K = 0
    · have HD : Hid (decF xs = some o) := by rw [Hid, HPF.out]; exact if_pos ⟨hend, (HK.out).trans hck⟩
      subst hck
      go_wp2
      go_ret2
      exact ⟨by rw [HD.out]; exact ⟨_, rfl, by rw [← ho]; exact ⟨_, rfl, OwnB.chg (OwnB.mono HO5.out hs3) hc9 (fun _ _ x => x)⟩⟩, HC5.out.no hc9⟩
    · have HD : Hid (decF xs = none) := by rw [Hid, HPF.out]; exact if_neg (fun h => hck ((HK.out).symm.trans h.2))
      have bk : (K != 0) = true := by simpa using hck
      clear hck
      go_wp2
      go_ret2
      exact ⟨by rw [HD.out]; rfl, HC5.out.no hc9⟩
  · have HD : Hid (decF xs = none) := by rw [Hid, HPF.out]; exact if_neg (fun h => hend h.1)
    have bk : (rEnd ⟨[], 0⟩ != 0) = true := by simpa using hend
    clear hend
    go_wp2
    go_ret2
    exact ⟨by rw [HD.out]; rfl, HC5.out⟩
end Go.Proofs.Ytccphnkdnifpfaa

