/-
  Encode of a tree.
-/
import Derived.Test.YtkmnkbmmgopldaaB6
namespace Go.Proofs.Ytkmnkbmmgopldaa
open Go.RowKit
set_option linter.unusedVariables false
set_option linter.unusedSimpArgs false
set_option maxRecDepth 100000

def entB (x : Ent) : List UInt8 := (leb x.1.size ++ x.1.data.toList) ++ [if x.2.1 = true then 1 else 0] ++ wide x.2.2
def treeB (xs : List Ent) : List UInt8 := [116] ++ leb xs.length ++ xs.flatMap entB
theorem app_keep {w w' : World} {base g : Nat} {v : Value} {xs : List UInt8} {cs : Array Value} {t : TypeId} (ho : OwnB w base v xs) (hg : w.grownBy w' v.ownBlock) (h : w.heap[g]? = some (.cells cs t (0, 0))) (ht : t ≠ 5) : w'.heap[g]? = some (.cells cs t (0, 0)) := by
  refine (Chg.ofGrown (S := fun k => v.ownBlock = some k) hg (fun k hk => hk)).heap h (fun hx => ?_)
  obtain ⟨c, fz, hc⟩ := ho.cells g hx
  rw [h] at hc
  simp only [Option.some.injEq, Obj.cells.injEq] at hc
  exact ht hc.2.1
theorem treeG_names : ∀ (l : List Ent) (a : ByteArray), treeG a l = 0 → ∀ x ∈ l, (spotF x.1.data.toList).1 = 0 ∧ x.2.2 ≠ 0
  | [], _, _, x, hx => by cases hx
  | y :: r, a, h, x, hx => by
    unfold treeG at h
    by_cases h1 : (spotF y.1.data.toList).1 ≠ 0
    · rw [if_pos h1] at h; exact absurd h h1
    rw [if_neg h1] at h
    by_cases h2 : leS y.1 a = true
    · rw [if_pos h2] at h; cases h
    rw [if_neg h2] at h
    by_cases h3 : y.2.2 = 0
    · rw [if_pos h3] at h; cases h
    rw [if_neg h3] at h
    rcases List.mem_cons.1 hx with rfl | hx
    · exact ⟨by simpa using h1, h3⟩
    · exact treeG_names r y.1 h x hx
theorem spotF_len {l : List UInt8} (h : (spotF l).1 = 0) : l.length ≤ 32 := by
  unfold spotF at h
  by_cases h1 : l = [] ∨ l = [46] ∨ l = [46, 46]
  · rw [if_pos h1] at h; cases h
  rw [if_neg h1] at h
  by_cases h2 : 32 < l.length
  · rw [if_pos h2] at h; cases h
  omega
theorem treeF_zero {xs : List Ent} (h : treeF xs = 0) : xs.length ≤ 256 ∧ (∀ x ∈ xs, x.1.size ≤ 32 ∧ x.2.2 ≠ 0) := by
  unfold treeF at h
  by_cases h1 : 256 < xs.length
  · rw [if_pos h1] at h; cases h
  rw [if_neg h1] at h
  refine ⟨by omega, fun x hx => ?_⟩
  obtain ⟨h2, h3⟩ := treeG_names xs _ h x hx
  have := spotF_len h2
  rw [size_list] at this
  exact ⟨this, h3⟩
theorem entB_len (x : Ent) (h : x.1.size ≤ 32) : (entB x).length ≤ 60 := by
  unfold entB
  simp only [List.length_append, wide_len, List.length_singleton, size_list]
  have := leb_len10 x.1.size (by omega)
  omega
theorem entsB_len (xs : List Ent) (h : ∀ x ∈ xs, x.1.size ≤ 32) : (xs.flatMap entB).length ≤ 60 * xs.length := by
  induction xs with
  | nil => simp
  | cons a t ih =>
    rw [List.flatMap_cons, List.length_append, List.length_cons]
    have := entB_len a (h a (by simp))
    have := ih (fun x hx => h x (by simp [hx]))
    omega

set_option maxHeartbeats 6400000 in
theorem encode_tree (w : World) (A : Option Addr) (n c : Nat) (xs : List Ent) (h : Es w (.slice A n c) xs) (hF : treeF xs = 0) (hid : ∀ x ∈ xs, x.2.2 < 18446744073709551616) :
    Calls Try.prog 21 #[treeV (.slice A n c)] w fun e w' => ∃ v, e = .returned (.tuple #[v, .int .i64 0]) ∧ OwnB w' w.heap.size v (treeB xs) ∧ Chg No w w' := by
  obtain ⟨hn256, hxs⟩ := treeF_zero hF
  have hl := h.len
  have fb := fun w => ta_tree_blob w
  have ft := fun w => ta_tree_tree w
  have hn8 : n ≤ 256 := by omega
  have H := Lib.hid h
  have HL := Lib.hid hl
  have HX := Lib.hid hxs
  have HI := Lib.hid hid
  have HF := Lib.hid hF
  clear h hl hxs hF hid hn256
  go_enter Try.func21, Try.ntmps21
  go_wp2_with fail
  refine (check_tree w A n c xs H.out (fun x hx => by have := (HX.out x hx).1; omega)).mono ?_
  rintro e w1 ⟨rfl, hc1⟩
  rw [HF.out]
  have HC1 := Lib.hid hc1
  have hs1 := hc1.size
  have hwn : IntKind.u64.wrap (n : Int) = (n : Int) := wrap_u64_nat _ (by omega)
  clear hc1
  have g1 : Box 38 (((w1.alloc (.cells #[.slice none 0 0] 38)).alloc (.cells #[.slice none 0 0] 40)).alloc (.cells #[.slice A n c] 33)) w1.heap.size (.slice none 0 0) := ((Box.new w1 (.slice none 0 0) 38).no ((Chg.refl No _).alloc _)).no ((Chg.refl No _).alloc _)
  have p1 : (((w1.alloc (.cells #[.slice none 0 0] 38)).alloc (.cells #[.slice none 0 0] 40)).alloc (.cells #[.slice A n c] 33)).heap[w1.heap.size + 1 + 1]? = some (.cells #[.slice A n c] 33 (0, 0)) := by
    have := heap_alloc_new ((w1.alloc (.cells #[.slice none 0 0] 38)).alloc (.cells #[.slice none 0 0] 40)) (.cells #[.slice A n c] 33)
    simp only [World.size_alloc] at this
    exact this
  have HC2 : Hid (Chg No w (((w1.alloc (.cells #[.slice none 0 0] 38)).alloc (.cells #[.slice none 0 0] 40)).alloc (.cells #[.slice A n c] 33))) := ((HC1.out.alloc _).alloc _).alloc _
  have HG1 := Lib.hid g1
  have HP1 := Lib.hid p1
  clear g1 p1 HC1
  have hlit : Bytes ((((w1.alloc (.cells #[.slice none 0 0] 38)).alloc (.cells #[.slice none 0 0] 40)).alloc (.cells #[.slice A n c] 33)).alloc (.cells #[.int .u8 116] 5)) (.slice (some ⟨w1.heap.size + 1 + 1 + 1, 0, none⟩) 1 1) [116] := by
    have := Bytes.litMark (w := (((w1.alloc (.cells #[.slice none 0 0] 38)).alloc (.cells #[.slice none 0 0] 40)).alloc (.cells #[.slice A n c] 33))) (xs := [116]) (t := 5) (m := (0, 0)) 1 1 rfl (by decide) (by unfold maxLen; omega)
    simp only [World.size_alloc] at this
    exact this
  have HLIT := Lib.hid hlit
  clear hlit
  go_wp2_with fail
  refine (putuint_calls _ (some ⟨w1.heap.size + 1 + 1 + 1, 0, none⟩) 1 1 [116] HLIT.out rfl n (n : Int) rfl (by omega) (by omega)).mono ?_
  rintro e w2 ⟨v2, rfl, hO2, hc2⟩
  have hB2 := (HG1.out.no ((Chg.refl No _).alloc _)).no hc2
  have hP2 := hc2.heap (((Chg.refl No _).alloc _).heap HP1.out (fun x => x)) (fun x => x)
  have hC2 := (HC2.out.alloc _).no hc2
  have hO2' : OwnB w2 w.heap.size v2 ([116] ++ leb n) := hO2.mono (by have := (HC2.out.alloc (.cells (u8s [116]).toArray 5)).size; exact this)
  clear hO2 hc2 HG1 HP1 HC2
  have hgg : w1.heap.size < w2.heap.size := hB2.lt
  generalize hgt : w1.heap.size + 1 + 1 = gt at *
  generalize hg : w1.heap.size = g at *
  have hgt' : g < gt := by omega
  obtain ⟨A2, n2, c2, rfl, HL2, HO2⟩ := hO2'.form
  have y1 := hB2.c
  have y2 := hB2.fr
  have y3 := cellAt hP2 0 _ rfl
  have hne : gt ≠ g := by omega
  have HW3 : Hid (Chg No w (w2.setCell ⟨g, 0, none⟩ (.slice A2 n2 c2)) ∧ Box 38 (w2.setCell ⟨g, 0, none⟩ (.slice A2 n2 c2)) g (.slice A2 n2 c2) ∧ OwnB (w2.setCell ⟨g, 0, none⟩ (.slice A2 n2 c2)) w.heap.size (.slice A2 n2 c2) ([116] ++ leb n)) :=
    ⟨hC2.one (Chg.put w2 _ 0 _) (.inl hs1), hB2.set _, HO2.out.chg (Chg.put w2 _ 0 _) (HO2.out.apart hB2 (by decide))⟩
  clear hB2 hP2 hC2 hO2' HO2 hwn
  go_wp2
  clear y1 y2 y3
  generalize w2.setCell ⟨g, 0, none⟩ (.slice A2 n2 c2) = w3 at *
  go_loopw [45] (fun i wr => ∃ k : Nat, k ≤ n ∧ i = .int .i64 (k : Int) ∧ Hid (∃ v, Box 38 wr g v ∧ OwnB wr w.heap.size v ([116] ++ leb n ++ (xs.take k).flatMap entB)) ∧ Hid (Chg No w wr)) (fun i _ => n - (intOf i).toNat)
  case atStart => exact ⟨0, Nat.zero_le _, rfl, ⟨_, HW3.out.2.1, by simpa using HW3.out.2.2⟩, HW3.out.1⟩
  case round =>
    clear HW3 hgg
    obtain ⟨k, hk, rfl, HB, HC⟩ := hrel
    by_cases hlt : k < n
    · have hkl : k < xs.length := by rw [HL.out]; exact hlt
      obtain ⟨b, o, rfl, hcell⟩ := (H.out.no HC.out).addr (by rw [HL.out]; omega)
      obtain ⟨c0, c1, c2⟩ := hcell k hkl
      have HT : Hid (xs.take (k + 1) = xs.take k ++ [xs[k]]) := by rw [Hid, List.take_succ_eq_append_getElem]
      have hsz := (HX.out _ (List.getElem_mem hkl)).1
      have hidl := HI.out _ (List.getElem_mem hkl)
      generalize xs[k] = x at *
      obtain ⟨s, f, id⟩ := x
      simp only at c0 c1 c2 hsz hidl
      obtain ⟨v3, hb3, ho3⟩ := HB.out
      have hlen : ([116] ++ leb n ++ (xs.take k).flatMap entB).length ≤ 20000 := by
        have h1 := leb_len10 n (by omega)
        have h2 := entsB_len (xs.take k) (fun x hx => (HX.out x (List.mem_of_mem_take hx)).1)
        have h3 : (xs.take k).length ≤ k := by rw [List.length_take]; omega
        simp only [List.length_append, List.length_singleton]
        omega
      generalize hys : [116] ++ leb n ++ (xs.take k).flatMap entB = ys at *
      have HYS := Lib.hid hys
      obtain ⟨A3, n3, c3, rfl, HL3, HO3⟩ := ho3.form
      have hn3 : n3 ≤ 20000 := by rw [← HL3.out]; exact hlen
      have z1 := hb3.c
      have hg3 := hb3.lt
      have hne3 : wr.heap.size ≠ g := by omega
      have z1' := (hb3.no ((Chg.refl No wr).alloc (.cells #[.string s, .bool f, .int .u64 (id : Int)] 35))).c
      have HB3 := Lib.hid hb3
      have hs3 := HC.out.size
      clear hys hlen ho3 hb3 hcell HB hkl
      go_wp2_with fail
      clear z1 z1' c0 c1 c2
      have hE3 := heap_alloc_new wr (.cells #[.string s, .bool f, .int .u64 (id : Int)] 35)
      refine (puttext_calls _ A3 n3 c3 ys (HO3.out.bytes.no ((Chg.refl No _).alloc _)) HL3.out s (by omega)).mono ?_
      rintro e w4 ⟨v4, rfl, hO4, hc4⟩
      have hl4 : (ys ++ (leb s.size ++ s.data.toList)).length ≤ 20042 := by
        simp only [List.length_append, HL3.out, size_list]
        have := leb_len10 s.size (by omega)
        omega
      generalize hb4 : ys ++ (leb s.size ++ s.data.toList) = b4 at *
      have HB4 := Lib.hid hb4
      obtain ⟨A4, n4, c4, rfl, HL4, HO4'⟩ := hO4.form
      have hn4 : n4 ≤ 20042 := by rw [← HL4.out]; exact hl4
      have hO4' : OwnB w4 w.heap.size (.slice A4 n4 c4) b4 := hO4.mono (by simp; omega)
      have hB4 := (HB3.out.no ((Chg.refl No wr).alloc _)).no hc4
      have hE4 := hc4.heap hE3 (fun x => x)
      have hC4 := (HC.out.alloc _).no hc4
      generalize hge : wr.heap.size = ge at *
      have z1 := hB4.c
      have z2 := hB4.fr
      have z3 := cellAt hE4 1 (.bool f) rfl
      have hC5 : Chg No w (w4.setCell ⟨g, 0, none⟩ (.slice A4 n4 c4)) := hC4.one (Chg.put w4 _ 0 _) (.inl hs1)
      have hB5 := hB4.set (.slice A4 n4 c4)
      have hE5 := (Chg.put w4 g 0 (.slice A4 n4 c4)).heap hE4 hne3
      have hO5 := hO4'.chg (Chg.put w4 g 0 (.slice A4 n4 c4)) (hO4'.apart hB4 (by decide))
      have HC5 := Lib.hid hC5
      have HB5 := Lib.hid hB5
      have HE5 := Lib.hid hE5
      have HO5 := Lib.hid hO5
      have hs5 := hC5.size
      clear hO4 hO4' HO4' hB4 hE4 hC4 hc4 hb4 hl4 hE3 HB3 HO3 hC5 hB5 hE5 hO5
      cases f with
      | true =>
        have src0 : Hid (Src Try.prog 1 38 (.slice (some ⟨w4.heap.size, 0, none⟩) 1 1) 1 (u8s [1]) ((w4.setCell ⟨g, 0, none⟩ (.slice A4 n4 c4)).alloc (.cells #[.int .u8 1] 5))) := by
          have := Src.one (P := Try.prog) (t := 5) (w := w4.setCell ⟨g, 0, none⟩ (.slice A4 n4 c4)) Try.underlying38 (.int .u8 1) rfl
          have e : (w4.setCell ⟨g, 0, none⟩ (.slice A4 n4 c4)).heap.size = w4.heap.size := by simp
          rw [e] at this
          exact this
        have own0 : Hid (OwnB ((w4.setCell ⟨g, 0, none⟩ (.slice A4 n4 c4)).alloc (.cells #[.int .u8 1] 5)) w.heap.size (.slice A4 n4 c4) b4) := OwnB.alloc HO5.out _
        go_wp2_with (at_builtin; (refine wpList_app2 rfl (.tmp 55) (.tmp 56) 38 38 rfl w.heap.size 5 (.int .u8 0) 1 1 infoU8 Try.underlying38 rfl (by decide) (.slice A4 n4 c4) (.slice (some ⟨w4.heap.size, 0, none⟩) 1 1) n4 1 (u8s b4) (u8s [1]) rfl rfl ?own ?src ?b1 ?b2 ?b3 ?_; (case own => exact OwnB.n own0.out HL4.out); (case src => exact src0.out); (case b1 => omega); (case b2 => unfold maxLen; omega); (case b3 => have := (HC5.out.alloc (.cells #[.int .u8 1] 5)).size; exact this); intro v6 w6 hown6 hg6 hfrom6; refine Hid.out ?_))
        refine Lib.hid ?_
        clear z1 z2 z3
        have hO6 : OwnB w6 w.heap.size v6 (b4 ++ [1]) := OwnB.of hown6 (by simp [u8s])
        have hC6 : Chg No w w6 := (HC5.out.alloc _).grown hg6 (fun k hk => .inl (own0.out.block k hk).1)
        have hB6 : Box 38 w6 g (.slice A4 n4 c4) := app_keep own0.out hg6 (HB5.out.no ((Chg.refl No _).alloc _)) (by decide)
        have hE6 := app_keep own0.out hg6 (((Chg.refl No _).alloc _).heap HE5.out (fun x => x)) (by decide)
        obtain ⟨A6, n6, c6, rfl, HL6, HO6⟩ := hO6.form
        have z1 := hB6.c
        have z2 := hB6.fr
        have z3 := cellAt hE6 2 (.int .u64 (id : Int)) rfl
        have HC7 : Hid (Chg No w (w6.setCell ⟨g, 0, none⟩ (.slice A6 n6 c6))) := hC6.one (Chg.put w6 _ 0 _) (.inl hs1)
        have HB7 := Lib.hid (hB6.set (.slice A6 n6 c6))
        have HO7 := Lib.hid (hO6.chg (Chg.put w6 g 0 (.slice A6 n6 c6)) (hO6.apart hB6 (by decide)))
        clear hown6 hg6 hfrom6 hO6 HO6 hC6 hE6 own0 src0 HC5 HB5 HE5 HO5
        have hs7 : w6.heap.size = (w6.setCell ⟨g, 0, none⟩ (.slice A6 n6 c6)).heap.size := by simp
        have hg7 := hB6.lt
        clear hB6
        go_wp2_with fail
        clear z1 z2 z3
        generalize w6.setCell ⟨g, 0, none⟩ (.slice A6 n6 c6) = w7 at *
        have HS7 := Lib.hid hs7
        clear hs7
        go_wp2_with fail
        refine (word_cl _ g w.heap.size _ (b4 ++ [1]) _ 1 1 [id] (by have := (HC7.out.alloc (.cells #[.int .u64 (id : Int)] 24)).size; exact this) (HB7.out.no ((Chg.refl No w7).alloc _)) (OwnB.alloc HO7.out _) ?_ (by simpa using hidl) (by omega) (by rw [HL6.out]; have := HL6.out; rw [List.length_append, HL4.out, List.length_singleton] at this; omega)).mono ?_
        · intro W hW
          refine ⟨_, _, rfl, Nat.le_refl _, by unfold maxLen; omega, fun _ => ⟨w7.heap.size, 0, by first | rfl | rw [HS7.out], fun j u hj => ?_⟩⟩
          rcases j with _ | j
          · simp [u64v] at hj
            subst hj
            exact hW.cell (cellAt (heap_alloc_new w7 _) 0 _ rfl) (by intro hx; have hx : w7.heap.size = g := hx; have := HS7.out; omega)
          · simp at hj
        rintro e w8 ⟨rfl, v8, hB8, hO8, hc8⟩
        have HE8 : Hid ([116] ++ leb n ++ (xs.take (k + 1)).flatMap entB = b4 ++ [1] ++ List.flatMap wide [id]) := by
          rw [Hid, HT.out, List.flatMap_append, ← HB4.out, ← HYS.out]
          simp [entB]
        have HB8 : Hid (∃ v, Box 38 w8 g v ∧ OwnB w8 w.heap.size v ([116] ++ leb n ++ (xs.take (k + 1)).flatMap entB)) := ⟨v8, hB8, by rw [HE8.out]; exact hO8⟩
        have HC8 : Hid (Chg No w w8) := (HC7.out.alloc _).one hc8 (.inl hs1)
        clear hB8 hO8 hc8 HC7 HB7 HO7
        go_wp2
        go_roundw
        case rel => exact ⟨k + 1, by omega, by simp, HB8.out, HC8.out⟩
        case measure => simp [intOf]; omega
      | false =>
        have src0 : Hid (Src Try.prog 1 38 (.slice (some ⟨w4.heap.size, 0, none⟩) 1 1) 1 (u8s [0]) ((w4.setCell ⟨g, 0, none⟩ (.slice A4 n4 c4)).alloc (.cells #[.int .u8 0] 5))) := by
          have := Src.one (P := Try.prog) (t := 5) (w := w4.setCell ⟨g, 0, none⟩ (.slice A4 n4 c4)) Try.underlying38 (.int .u8 0) rfl
          have e : (w4.setCell ⟨g, 0, none⟩ (.slice A4 n4 c4)).heap.size = w4.heap.size := by simp
          rw [e] at this
          exact this
        have own0 : Hid (OwnB ((w4.setCell ⟨g, 0, none⟩ (.slice A4 n4 c4)).alloc (.cells #[.int .u8 0] 5)) w.heap.size (.slice A4 n4 c4) b4) := OwnB.alloc HO5.out _
        go_wp2_with (at_builtin; (refine wpList_app2 rfl (.tmp 58) (.tmp 59) 38 38 rfl w.heap.size 5 (.int .u8 0) 1 1 infoU8 Try.underlying38 rfl (by decide) (.slice A4 n4 c4) (.slice (some ⟨w4.heap.size, 0, none⟩) 1 1) n4 1 (u8s b4) (u8s [0]) rfl rfl ?own ?src ?b1 ?b2 ?b3 ?_; (case own => exact OwnB.n own0.out HL4.out); (case src => exact src0.out); (case b1 => omega); (case b2 => unfold maxLen; omega); (case b3 => have := (HC5.out.alloc (.cells #[.int .u8 0] 5)).size; exact this); intro v6 w6 hown6 hg6 hfrom6; refine Hid.out ?_))
        refine Lib.hid ?_
        clear z1 z2 z3
        have hO6 : OwnB w6 w.heap.size v6 (b4 ++ [0]) := OwnB.of hown6 (by simp [u8s])
        have hC6 : Chg No w w6 := (HC5.out.alloc _).grown hg6 (fun k hk => .inl (own0.out.block k hk).1)
        have hB6 : Box 38 w6 g (.slice A4 n4 c4) := app_keep own0.out hg6 (HB5.out.no ((Chg.refl No _).alloc _)) (by decide)
        have hE6 := app_keep own0.out hg6 (((Chg.refl No _).alloc _).heap HE5.out (fun x => x)) (by decide)
        obtain ⟨A6, n6, c6, rfl, HL6, HO6⟩ := hO6.form
        have z1 := hB6.c
        have z2 := hB6.fr
        have z3 := cellAt hE6 2 (.int .u64 (id : Int)) rfl
        have HC7 : Hid (Chg No w (w6.setCell ⟨g, 0, none⟩ (.slice A6 n6 c6))) := hC6.one (Chg.put w6 _ 0 _) (.inl hs1)
        have HB7 := Lib.hid (hB6.set (.slice A6 n6 c6))
        have HO7 := Lib.hid (hO6.chg (Chg.put w6 g 0 (.slice A6 n6 c6)) (hO6.apart hB6 (by decide)))
        clear hown6 hg6 hfrom6 hO6 HO6 hC6 hE6 own0 src0 HC5 HB5 HE5 HO5
        have hs7 : w6.heap.size = (w6.setCell ⟨g, 0, none⟩ (.slice A6 n6 c6)).heap.size := by simp
        have hg7 := hB6.lt
        clear hB6
        go_wp2_with fail
        clear z1 z2 z3
        generalize w6.setCell ⟨g, 0, none⟩ (.slice A6 n6 c6) = w7 at *
        have HS7 := Lib.hid hs7
        clear hs7
        go_wp2_with fail
        refine (word_cl _ g w.heap.size _ (b4 ++ [0]) _ 1 1 [id] (by have := (HC7.out.alloc (.cells #[.int .u64 (id : Int)] 24)).size; exact this) (HB7.out.no ((Chg.refl No w7).alloc _)) (OwnB.alloc HO7.out _) ?_ (by simpa using hidl) (by omega) (by rw [HL6.out]; have := HL6.out; rw [List.length_append, HL4.out, List.length_singleton] at this; omega)).mono ?_
        · intro W hW
          refine ⟨_, _, rfl, Nat.le_refl _, by unfold maxLen; omega, fun _ => ⟨w7.heap.size, 0, by first | rfl | rw [HS7.out], fun j u hj => ?_⟩⟩
          rcases j with _ | j
          · simp [u64v] at hj
            subst hj
            exact hW.cell (cellAt (heap_alloc_new w7 _) 0 _ rfl) (by intro hx; have hx : w7.heap.size = g := hx; have := HS7.out; omega)
          · simp at hj
        rintro e w8 ⟨rfl, v8, hB8, hO8, hc8⟩
        have HE8 : Hid ([116] ++ leb n ++ (xs.take (k + 1)).flatMap entB = b4 ++ [0] ++ List.flatMap wide [id]) := by
          rw [Hid, HT.out, List.flatMap_append, ← HB4.out, ← HYS.out]
          simp [entB]
        have HB8 : Hid (∃ v, Box 38 w8 g v ∧ OwnB w8 w.heap.size v ([116] ++ leb n ++ (xs.take (k + 1)).flatMap entB)) := ⟨v8, hB8, by rw [HE8.out]; exact hO8⟩
        have HC8 : Hid (Chg No w w8) := (HC7.out.alloc _).one hc8 (.inl hs1)
        clear hB8 hO8 hc8 HC7 HB7 HO7
        go_wp2
        go_roundw
        case rel => exact ⟨k + 1, by omega, by simp, HB8.out, HC8.out⟩
        case measure => simp [intOf]; omega
    · have hkn : k = n := by omega
      subst hkn
      obtain ⟨v3, hb3, ho3⟩ := HB.out
      have z1 := hb3.c
      have HT : Hid ([116] ++ leb k ++ (xs.take k).flatMap entB = treeB xs) := by
        rw [Hid, treeB, List.take_of_length_le (by rw [HL.out]; exact Nat.le_refl _), HL.out]
      obtain ⟨A3, n3, c3, rfl, HL3, HO3⟩ := ho3.form
      clear hb3 ho3 HB
      go_wp2
      go_ret2
      exact ⟨_, rfl, by rw [← HT.out]; exact HO3.out, HC.out⟩
end Go.Proofs.Ytkmnkbmmgopldaa
