/-
  StoreNone, StoreNoneClose: in one text.
-/
import Derived.Test.YtccphnkdnifpfaaBa8
import Derived.Test.YtccphnkdnifpfaaRows
import Derived.Test.YtccphnkdnifpfaaBa1
namespace Go.Proofs.Ytccphnkdnifpfaa
set_option linter.unnecessarySimpa false
open Go.RowKit Go.Shelf
set_option linter.unusedVariables false
set_option linter.unusedSimpArgs false
set_option maxRecDepth 100000

attribute [local go_sem] Oper.semAt_some

theorem ids_lit (W : World) (i j : Nat) : Sl u64v (W.alloc (.cells #[.int .u64 (i : Int), .int .u64 (j : Int)] 32)) (.slice (some ⟨W.heap.size, 0, none⟩) 2 2) [i, j] := by
  refine ⟨_, _, rfl, Nat.le_refl _, by unfold maxLen; omega, fun _ => ⟨W.heap.size, 0, rfl, fun k u hk => ?_⟩⟩
  rw [Nat.zero_add]
  unfold World.cell? World.alloc
  simpa [u64v] using hk
set_option maxHeartbeats 6400000 in
theorem storeNone_core (n : Nat) (hn : 3 ≤ n) (w : World) (i : Nat) (x : Int) (hx1 : -9223372036854775808 ≤ x) (hx2 : x ≤ 9223372036854775807) :
    CallsIn Fence.wide n Try.prog 4 #[.int .u64 (i : Int), .int .i64 x] w fun e W' => e = .returned (.bool true) ∧ Below w.heap.size w W' := by
  have h1 : 1 ≤ n := by omega
  refine callsIn_of_wp_marks Try.func4 rfl trivial ?_ rfl
  simp only [Try.ntmps4, List.size_toArray, List.length_cons, List.length_nil, Nat.reduceAdd, Nat.reduceSub, Array.replicate_succ, Array.replicate_zero, List.push_toArray, List.append_toArray, List.nil_append, List.cons_append]
  gi_wp2_with (first
    | (refine ⟨trivial, ?_⟩; gi_at_call 8; refine (callsIn_wide.2 (swakes_calls _)).mono ?_; rintro e w1 ⟨rfl, hc1⟩)
    | (refine ⟨trivial, ?_⟩; gi_at_call 11; refine (callsIn_wide.2 (put_nil _ _)).mono ?_; rintro e w2 ⟨rfl, rfl⟩)
    | (refine ⟨trivial, ?_⟩; gi_at_call 12; refine (callsIn_wide.2 (get_nil _ _)).mono ?_; rintro e w2 ⟨rfl, rfl⟩)
    | (refine ⟨trivial, ?_⟩; gi_at_call 16; refine (callsIn_wide.2 (blob_nil _ _)).mono ?_; rintro e w3 ⟨rfl, hc3⟩)
    | (refine ⟨trivial, ?_⟩; gi_at_call 17; refine (callsIn_wide.2 (tree_nil _ _)).mono ?_; rintro e w4 ⟨rfl, hc4⟩)
    | (refine ⟨trivial, ?_⟩; gi_at_call 18; refine (callsIn_wide.2 (commit_nil _ _)).mono ?_; rintro e w5 ⟨rfl, hc5⟩)
    | (refine ⟨trivial, ?_⟩; gi_at_call 13; refine (callsIn_wide.2 (sbytes_nil _ _)).mono ?_; rintro e w6 ⟨rfl, rfl⟩)
    | (refine ⟨trivial, ?_⟩; gi_at_call 19; refine (callsIn_wide.2 (since_nil _ _)).mono ?_; rintro e w7 ⟨A7, m7, c7, rfl, rfl, hsl7, hm7, hob7⟩))
  have hb2 : Boxed w2 w.heap.size 4 (.bool false) := hc1.heap (Boxed.new w 4 (.bool false)) (fun x => x)
  have hb5 : Boxed w5 w.heap.size 4 (.bool false) := hc5.heap (Boxed.alloc (W := w4) (hc4.heap (Boxed.alloc (W := w3) (hc3.heap hb2 (fun x => x)) _) (fun x => x)) _) (fun x => x)
  have hb6 := hb5.alloc (.cells #[.int .u64 0, .slice none 0 0, .string ⟨#[]⟩, .int .i64 0, .string ⟨#[]⟩] 44)
  have hC6 : Chg No w (w5.alloc (.cells #[.int .u64 0, .slice none 0 0, .string ⟨#[]⟩, .int .i64 0, .string ⟨#[]⟩] 44)) := ((((((((Chg.refl No w).alloc _).no hc1).no hc3).alloc _).no hc4).alloc _).no hc5).alloc _
  have hz6 : (w5.alloc (.cells #[.int .u64 0, .slice none 0 0, .string ⟨#[]⟩, .int .i64 0, .string ⟨#[]⟩] 44)).heap.size = w5.heap.size + 1 := World.size_alloc _ _
  generalize w5.alloc (.cells #[.int .u64 0, .slice none 0 0, .string ⟨#[]⟩, .int .i64 0, .string ⟨#[]⟩] 44) = w6 at *
  rw [← hz6]
  clear hz6
  have hx7 := Boxed.new w6 42 (.slice A7 m7 c7)
  have hb7 := hb6.alloc (.cells #[.slice A7 m7 c7] 42)
  have hC7 := Lib.hid (hC6.alloc (.cells #[.slice A7 m7 c7] 42))
  have hlt : w.heap.size < (w6.alloc (.cells #[.slice A7 m7 c7] 42)).heap.size := hb7.lt
  have HB7 := Lib.hid hC7.out.below
  clear hc1 hc3 hc4 hc5 hb2 hb5 hb6 hC6
  refine wpIn_rangeFunc_C rfl h1 (gf := 75) (lb := #[.pointer (some ⟨w6.heap.size, 0, none⟩)]) rfl trivial (enters_of Try.func75 (by kernel_rfl) rfl)
    (values_seq (n - 1) (by omega) w6.heap.size _ A7 m7 c7 [] (hsl7.no ((Chg.refl No w6).alloc _)) w6.heap.size hx7 hm7 (by simp) (fun b hb => by obtain ⟨cc, fz, hcc⟩ := hob7 b hb; exact (Array.getElem?_eq_some_iff.1 hcc).1)) (fun h k => h.trans k) (fun W l o o' hl h hc hw => belowK_b (by simp) W l o o' hl h hc hw) (fun _ => rfl) (fun pre x X Y row h _ _ => h)
    (fun (_ : List Nat) W => Boxed W w.heap.size 4 (.bool false) ∧ Below w.heap.size w W)
    (fun _ => False)
    (OwnFrom.and (Own.from (boxed_own _ _ (fun _ => .bool false)) _) (ownFrom_below (Nat.le_refl _) (by omega)))
    (fun _ _ _ _ hs _ _ => hs.elim)
    ⟨hb7, HB7.out⟩ ?frame ?assign ?body ?done ?stop
  case assign =>
    intro l x W K hK
    gi_wp2
    exact hK
  case body =>
    rintro l pre x W _ ⟨_, h⟩
    simp at h
  case stop =>
    rintro D W hD h hK
    exact h.elim
  case done =>
    rintro D xs W hD hxs ⟨hb, hB⟩ hK
    have hWl := hB.size
    clear hxs hb7 hx7 hsl7 hob7 HB7
    gi_wp2_with (first
      | (refine ⟨trivial, ?_⟩; gi_at_call 10; refine (callsIn_wide.2 (sopen_nil _)).mono ?_; rintro e w8 ⟨rfl, hc8⟩)
      | (refine ⟨trivial, ?_⟩; gi_at_call 20; refine (callsIn_wide.2 (has_nil _ _)).mono ?_; rintro e w9 ⟨rfl, rfl⟩)
      | (refine ⟨trivial, ?_⟩; gi_at_call 21; refine (callsIn_wide.2 (len_nil _)).mono ?_; rintro e w10 ⟨rfl, rfl⟩))
    refine ⟨trivial, ?_⟩
    refine (callsIn_wide.2 (new_calls w10)).mono ?_
    rintro e w11 ⟨rfl, hD11, hc11⟩
    have HMO := Lib.hid (made_open w10 w11 hc11 hD11 (by have := hD11.cells; have h1 := (Array.getElem?_eq_some_iff.1 hD11.1).1; omega))
    have hb10 : Boxed w10 w.heap.size 4 (.bool false) := hc8.heap hb (fun x => x)
    have hK10 : w10.heap[D]? = some (.deferred (some [])) := hc8.heap hK (fun x => x)
    have hB10 : Below w.heap.size w w10 := hB.trans ((Chg.below hc8).mono hWl)
    have hn10 : w.heap.size ≤ w10.heap.size := hB10.size
    clear hD11 hc11 hb hK hB hc8
    gi_wp2_with fail
    refine ⟨trivial, ?_⟩
    refine (callsIn_wide.2 HMO.out).mono ?_
    rintro e w12 ⟨s, mp, j, S, rfl, hS, hc12⟩
    have HS12 := Lib.hid hS
    have HC12 := Lib.hid hc12
    have HL12 := Lib.hid hS.lt
    have X1 := Lib.hid ((Chg.refl No w12).alloc (.cells #[.int .u8 1] 5))
    have HE1 : Hid (Encodes (w12.alloc (.cells #[.int .u8 1] 5)) (blobV (.slice (some ⟨w12.heap.size, 0, none⟩) 1 1)) 0 [98, 1]) := by
      show Encodes _ _ _ _
      exact enc_blob _ _ _ _ [1] (Bytes.litMark 1 1 rfl (Nat.le_refl _) (by unfold maxLen; omega)) rfl (by decide)
    have HP1 := Lib.hid (put_new _ S w10.heap.size s mp j (w10.heap.size + 1) w10.heap.size 0 false [] (HS12.out.no X1.out) _ [98, 1] (by decide) HE1.out rfl (by rw [recF_small [98, 1] (by decide)]; simp [encF]) (by decide) (by decide))
    rw [List.nil_append] at HP1
    obtain ⟨i1, hi1⟩ : ∃ i, i = idF [98, 1] := ⟨_, rfl⟩
    obtain ⟨i2, hi2⟩ : ∃ i, i = idF [98, 2] := ⟨_, rfl⟩
    have hi12 : i2 ≠ i1 := by rw [hi1, hi2]; decide +kernel
    have HI1 := Lib.hid hi1
    have HI2 := Lib.hid hi2
    have HI12 := Lib.hid hi12
    rw [← hi1] at HP1
    clear hS hc12 HMO hi1 hi2 hi12
    gi_wp2_with fail
    refine ⟨trivial, ?_⟩
    refine (callsIn_wide.2 HP1.out).mono ?_
    rintro e w13 ⟨rfl, hS3, hc13⟩
    have HS13 := Lib.hid hS3
    have HC13 : Hid (Chg No w10 w13) := (HC12.out.no X1.out).newer hc13 (fun i hi => (HL12.out i hi).1)
    have HL13 := Lib.hid hS3.lt
    have X2 := Lib.hid ((Chg.refl No w13).alloc (.cells #[.int .u8 2] 5))
    have HE2 : Hid (Encodes (w13.alloc (.cells #[.int .u8 2] 5)) (blobV (.slice (some ⟨w13.heap.size, 0, none⟩) 1 1)) 0 [98, 2]) := by
      show Encodes _ _ _ _
      exact enc_blob _ _ _ _ [2] (Bytes.litMark 1 1 rfl (Nat.le_refl _) (by unfold maxLen; omega)) rfl (by decide)
    have HP2 := Lib.hid (put_new _ _ w10.heap.size s mp j (w10.heap.size + 1) w10.heap.size _ true [[98, 1]] (HS13.out.no X2.out) _ [98, 2] (by decide) HE2.out (by
      rw [List.map_cons, List.map_nil, ← HI1.out, ← HI2.out, findI, if_neg HI12.out, findI]; rfl) (by rw [recF_small [98, 2] (by decide)]; simp [encF, recF_small [98, 1] (by decide)]) (by decide) (by rw [recF_small [98, 1] (by decide)]; decide))
    rw [← HI2.out] at HP2
    clear hS3 hc13 HP1 X1 HE1 HC12
    gi_wp2_with fail
    refine ⟨trivial, ?_⟩
    refine (callsIn_wide.2 HP2.out).mono ?_
    rintro e w14 ⟨rfl, hS4, hc14⟩
    have HC14 : Hid (Chg No w10 w14) := (HC13.out.no X2.out).newer hc14 (fun i hi => (HL13.out i hi).1)
    obtain ⟨sv, hsc⟩ := hS4.ids
    have HSC : Hid (∀ o, SC (w14.alloc o) w10.heap.size s mp j sv [i1, i2]) := fun o => by
      obtain ⟨sv', hsc'⟩ := hS4.ids
      have := SC.chg hsc ((Chg.refl No w14).alloc o) (fun x => x) (fun x => x) (fun _ _ x => x)
      rw [HI1.out, HI2.out]
      exact this
    clear hS4 hc14 HP2 X2 HE2 hsc HS13 HL13 HC13 HS12 HL12
    have HB14 := hb10
    gi_wp2_with (refine ⟨trivial, ?_⟩; gi_at_call 19; refine (callsIn_wide.2 (since_calls _ _ _ _ _ _ _ (HSC.out _) x hx1 hx2 (by simp))).mono ?_; rintro e w15 ⟨A8, m8, c8, rfl, rfl, hsl8, hm8, hob8⟩)
    obtain ⟨g, hg⟩ : ∃ g, w14.heap.size = g := ⟨_, rfl⟩
    have hgl : w.heap.size ≤ g := by have := HC14.out.size; omega
    have hDl : D < w10.heap.size := (Array.getElem?_eq_some_iff.1 hK10).1
    have hD14 : D < g := by have := HC14.out.size; omega
    have hob9 : ∀ b, (Value.slice A8 m8 c8).ownBlock = some b → b < g := fun b hb => by
      obtain ⟨cc, fz, hcc⟩ := hob8 b hb
      have hl := (Array.getElem?_eq_some_iff.1 hcc).1
      rw [World.size_alloc] at hl
      rcases Nat.lt_or_ge b g with h | h
      · exact h
      · have hbe : b = w14.heap.size := by omega
        rw [hbe, heap_alloc_new] at hcc
        simp at hcc
    have G1 := (Boxed.new w14 42 (.slice none 0 0)).alloc (.cells #[.slice A8 m8 c8] 42)
    have G2 := Boxed.new (w14.alloc (.cells #[.slice none 0 0] 42)) 42 (.slice A8 m8 c8)
    have G3 : Boxed ((w14.alloc (.cells #[.slice none 0 0] 42)).alloc (.cells #[.slice A8 m8 c8] 42)) w.heap.size 4 (.bool false) := Boxed.alloc (Boxed.alloc (W := w14) (HC14.out.heap hb10 (fun x => x)) _) _
    have G4 : ((w14.alloc (.cells #[.slice none 0 0] 42)).alloc (.cells #[.slice A8 m8 c8] 42)).heap[D]? = some (.deferred (some [])) := (((Chg.refl No w14).alloc _).alloc _).heap (HC14.out.heap hK10 (fun x => x)) (fun x => x)
    have hsl9 := hsl8.no ((Chg.refl No (w14.alloc (.cells #[.slice none 0 0] 42))).alloc (.cells #[.slice A8 m8 c8] 42))
    have hBB : Below w.heap.size w ((w14.alloc (.cells #[.slice none 0 0] 42)).alloc (.cells #[.slice A8 m8 c8] 42)) := ((hB10.trans ((Chg.below HC14.out).mono hn10)).alloc (by omega) _).alloc (by simp; omega) _
    have hz15 : ((w14.alloc (.cells #[.slice none 0 0] 42)).alloc (.cells #[.slice A8 m8 c8] 42)).heap.size = g + 2 := by simp only [World.size_alloc]; omega
    rw [World.size_alloc] at G2
    rw [hg] at G1 G2 ⊢
    generalize (w14.alloc (.cells #[.slice none 0 0] 42)).alloc (.cells #[.slice A8 m8 c8] 42) = w15 at *
    clear hob8 hsl8 hg
    refine wpIn_rangeFunc_C rfl h1 (gf := 75) (lb := #[.pointer (some ⟨g + 1, 0, none⟩)]) rfl trivial (enters_of Try.func75 (by kernel_rfl) rfl)
      (values_seq (n - 1) (by omega) g w15 A8 m8 c8 _ hsl9 (g + 1) G2 hm8 (by omega) hob9) (fun h k => h.trans k) (fun W l o o' hl h hc hw => belowK_b (by omega) W l o o' hl h hc hw) (fun _ => rfl) (fun pre x X Y row h _ _ => h)
      (fun (pre : List Nat) W => ((∃ A c, Boxed W g 42 (.slice A pre.length c) ∧ W.ownsRow (g + 1) 32 1 (.slice A pre.length c) pre.length (pre.map u64v)) ∧ pre.length ≤ 4194304) ∧ Below g w15 W)
      (fun _ => False)
      ?own1
      (fun _ _ _ _ hs _ _ => hs.elim)
      ⟨⟨⟨none, 0, G1, World.ownsRow_nil _ _ _ _⟩, by simp⟩, Below.refl _ _⟩ ?frame2 ?assign2 ?body2 ?done2 ?stop2
    case own1 =>
      rintro pre X Y row ⟨⟨⟨A, c, hb, ho⟩, hl⟩, hB⟩ hg hr
      exact ⟨⟨⟨A, c, boxed_kept hb hg hr, own_own (β := Unit) () X Y row ho hg (fun r e => (hr r e).2)⟩, hl⟩, hB.grown hg (by have := hB.size; omega) (fun k e => by have := (hr k e).1; omega)⟩
    case assign2 =>
      intro l x W K hK
      gi_wp2
      exact hK
    case stop2 =>
      rintro D W hD h hK
      exact h.elim
    case body2 =>
      rintro l pre y W ⟨⟨⟨A, c, hbx, hrow⟩, hpl⟩, hB⟩ ⟨hpre, hy⟩
      have HPL := Lib.hid (show (pre ++ [y]).length = pre.length + 1 by simp)
      have HPM := Lib.hid (show (pre ++ [y]).map u64v = pre.map u64v ++ [.int .u64 (y : Int)] by simp [u64v])
      have hpl2 : pre.length < 2 := by
        have := (List.getElem?_eq_some_iff.1 hy).1
        simp at this
        omega
      have hWs := hB.size
      have HPA := Lib.hid hpre
      clear hy hpre hpl
      generalize pre.length = m at *
      have c0 := hbx.cell
      have hbx' := hbx.alloc (.cells #[.int .u64 (y : Int)] 32)
      gi_wp2_with (gi_at_builtin; (refine wpListIn_app rfl (.tmp 160) (.tmp 162) 42 42 rfl (g + 1) 32 (.int .u64 0) 1 8 infoId Try.underlying42 rfl (by decide) (.slice A m c) (.slice (some ⟨W.heap.size, 0, none⟩) 1 1) m 1 (pre.map u64v) [.int .u64 (y : Int)] rfl rfl (World.ownsRow.alloc hrow _) (Src.one Try.underlying42 _ rfl) ?b1 ?b2 ?b3 ?_; (case b1 => omega); (case b2 => unfold maxLen; omega); (case b3 => rw [World.size_alloc]; omega); intro v1 w3 hown1 hg1; refine Hid.out ?_))
      refine Lib.hid ?_
      obtain ⟨A1, c1, rfl⟩ := ownsRow_form hown1
      have hbx3 : Boxed w3 g 42 (.slice A m c) := hbx'.kept hg1 (hbx'.not_row (by decide) (World.ownsRow.alloc hrow _))
      have hK3 : KeepsOthers W w3 := (KeepsOthers.alloc _ (.cells #[.int .u64 (y : Int)] 32)).trans (keeps_own (World.ownsRow.alloc hrow _) hg1)
      have hB3 : Below g W w3 := (((Below.refl _ W).alloc (by omega) (.cells #[.int .u64 (y : Int)] 32)).trans ((below_own (World.ownsRow.alloc hrow _) hg1 (by simp; omega)).mono (by omega)))
      have c3 := hbx3.cell
      have f3 := hbx3.frozen
      clear hg1
      gi_wp2
      have hB5 : Below g W (w3.setCell ⟨g, 0, none⟩ (.slice A1 (m + 1) c1)) := hB3.setCell (p := ⟨g, 0, none⟩) (Nat.le_refl _) _
      refine ⟨(hK3.trans (KeepsOthers.setCell _ _ _)).from _, hB5, ⟨⟨A1, c1, ?_, ?_⟩, by rw [HPL.out]; omega⟩, hB.trans hB5⟩
      · rw [HPL.out]; exact hbx3.set _
      · rw [HPL.out, HPM.out]; exact ownsRow_chg hown1 (Chg.put w3 g 0 _) (fun q hq (h : q = g) => by have := (World.ownsRow.lt hown1 q hq).1; omega)
    case done2 =>
      rintro D2 xs W hD2 rfl ⟨⟨⟨A, c, hbx, hrow⟩, hpl⟩, hB⟩ hK2
      have hsz2 : g + 2 ≤ W.heap.size := by have := hB.size; omega
      have hgs := Holds.ofOwn hrow
      have HSG : Hid (Sl u64v W (.slice A (List.drop x.toNat [i1, i2]).length c) (List.drop x.toNat [i1, i2])) := hgs
      have hbr : Boxed W w.heap.size 4 (.bool false) := (hB.block _ (by omega)).trans G3
      have hKD : W.heap[D]? = some (.deferred (some [])) := (hB.block _ (by omega)).trans G4
      have HBW : Hid (Below w.heap.size w W) := hBB.trans (hB.mono hgl)
      have c0 := hbx.cell
      have HLL : Hid ((List.drop x.toNat [i1, i2]).length = 2 - x.toNat) := by rw [Hid, List.length_drop]; rfl
      clear hrow hgs hB hsl9 hpl G1 G2 G3 G4 hBB hob9
      rcases Int.lt_or_le 0 x with h0 | h0
      · by_cases hx1' : x = 1
        · have hmn : min x 2 = 1 := by omega
          have hdd : List.drop x.toNat [i1, i2] = [i2] := by rw [hx1']; rfl
          clear hx1'
          rw [hdd] at HSG HLL c0 hbx
          have c0' : ∀ o, (W.alloc o).cell? ⟨g, 0, none⟩ = some (.slice A 1 c) := fun o => (hbx.alloc o).cell
          clear hdd
          gi_wp2
          have HSW : Hid (Sl u64v (W.alloc (.cells #[.int .u64 (i1 : Int), .int .u64 (i2 : Int)] 32)) (.slice (some ⟨W.heap.size, 1, none⟩) 1 1) [i2]) := Slu.drop (k := 1) (ids_lit W i1 i2) (by omega)
          have HCQ := (Chg.refl No W).alloc (.cells #[.int .u64 (i1 : Int), .int .u64 (i2 : Int)] 32)
          have HSWQ := HSW
          obtain ⟨L, hL⟩ : ∃ L, L = [i2] := ⟨_, rfl⟩
          have hm2 : L.length = 1 := by rw [hL]; rfl
          have hhh : ([i2] : List Nat).length = 1 := rfl
          rw [hhh] at HSG hbx
          have HSG' := HSG
          rw [← hL] at HSG' HSWQ
          clear HSW hm2 hL c0' HSG hhh
          have HSG := HSG'
          clear HSG'
          generalize W.alloc (.cells #[.int .u64 (i1 : Int), .int .u64 (i2 : Int)] 32) = wq at *
          have HCq : Hid (Chg No W wq) := HCQ
          have cq0 := (show Boxed wq g 42 (.slice A 1 c) from HCq.out.heap hbx (fun x => x)).cell
          have HXq : Hid (Boxed wq g 42 (.slice A 1 c)) := HCq.out.heap hbx (fun x => x)
          have HSGq := Lib.hid (HSG.out.no HCq.out)
          have HLw := Lib.hid HSWQ.out.len
          have HBQ : Hid (Below w.heap.size w wq) := HBW.out.trans ((Chg.below HCq.out).mono (by omega))
          have hbq : Boxed wq w.heap.size 4 (.bool false) := HCq.out.heap hbr (fun x => x)
          have hKq : wq.heap[D]? = some (.deferred (some [])) := HCq.out.heap hKD (fun x => x)
          have hKq2 : wq.heap[D2]? = some (.deferred (some [])) := HCq.out.heap hK2 (fun x => x)
          clear hbr hKD hK2 c0 HSG HBW
          gi_loopw [180] (fun i V => ∃ k : Nat, k ≤ 1 ∧ i = .int .i64 (k : Int) ∧ Hid (Chg No wq V)) (fun i _ => 1 - (intOf i).toNat)
          case atStart => exact ⟨0, Nat.zero_le _, rfl, Chg.refl _ _⟩
          case round =>
            obtain ⟨k, hk, rfl, HV⟩ := hrel
            by_cases hlt : k < 1
            · have i1 : (k : Int) < (1 : Int) := by omega
              have hLk : k < L.length := by have := HLw.out; omega
              obtain ⟨b1, o1, rfl, hcell1⟩ := (HSGq.out.no HV.out).addr (by omega)
              obtain ⟨b2, o2, hAw, hcell2⟩ := (HSWQ.out.no HV.out).addr (by omega)
              obtain ⟨rfl, rfl⟩ : b2 = W.heap.size ∧ o2 = 1 := by simp only [Option.some.injEq, Addr.mk.injEq] at hAw; exact ⟨hAw.1.symm, hAw.2.1.symm⟩
              have hc1 := hcell1 k hLk
              have hc2 := hcell2 k hLk
              generalize L[k]'hLk = y at *
              unfold u64v at hc1 hc2
              have hcg := (show Boxed wr g 42 (.slice (some ⟨b1, o1, none⟩) 1 c) from HV.out.heap HXq.out (fun x => x)).cell
              have hbe : ((y : Int) != (y : Int)) = false := by simp
              clear hcell1 hcell2
              gi_wp2
              refine wpIn_wide.2 ?_
              go_quiet (skip)
              gi_wp2
              go_roundw
              case rel => exact ⟨k + 1, by omega, by go_num, HV.out.drewN _⟩
              case measure => simp only [intOf]; omega
            · have i1 : ¬ ((k : Int) < (1 : Int)) := by omega
              gi_wp2_with (refine ⟨trivial, ?_⟩; gi_at_call 8; refine (callsIn_wide.2 (swakes_calls _)).mono ?_; rintro e wz ⟨rfl, hcz⟩; have hbz : Boxed wz w.heap.size 4 (.bool false) := (HV.out.no hcz).heap hbq (fun x => x); have cz := hbz.cell; have fz := hbz.frozen)
              have hcw : Chg No wq wz := HV.out.no hcz
              refine leaves_all w.heap.size 4 (.bool true) w.heap.size w (Nat.le_refl _) (fun W' hb' hB' => ⟨.bool true, by simp [results, Try.f4, go_sem, hb'.cell], rfl, hB'⟩) [D2, D] _ (by simp; omega) (fun D' hD' => ?_) (hbz.set _) ((HBQ.out.trans ((Chg.below hcw).mono HBQ.out.size)).setCell (p := ⟨w.heap.size, 0, none⟩) (Nat.le_refl _) _)
              simp only [List.mem_cons, List.not_mem_nil, or_false] at hD'
              rcases hD' with rfl | rfl
              · exact ⟨by omega, (KeepsOthers.setCell wz ⟨w.heap.size, 0, none⟩ (.bool true)).same _ _ (hcw.heap hKq2 (fun x => x)) rfl⟩
              · exact ⟨by omega, (KeepsOthers.setCell wz ⟨w.heap.size, 0, none⟩ (.bool true)).same _ _ (hcw.heap hKq (fun x => x)) rfl⟩
        · have hx2' : 2 ≤ x := by omega
          have hmn : min x 2 = 2 := by omega
          have hdd : List.drop x.toNat [i1, i2] = [] := List.drop_of_length_le (by simp; omega)
          rw [hdd] at HSG HLL c0 hbx
          have c0' : ∀ o, (W.alloc o).cell? ⟨g, 0, none⟩ = some (.slice A 0 c) := fun o => (hbx.alloc o).cell
          clear hdd
          gi_wp2
          have HSW : Hid (Sl u64v (W.alloc (.cells #[.int .u64 (i1 : Int), .int .u64 (i2 : Int)] 32)) (.slice (some ⟨W.heap.size, 0, none⟩) 0 0) ([] : List Nat)) := Slu.drop (k := 2) (ids_lit W i1 i2) (by omega)
          have HCQ := (Chg.refl No W).alloc (.cells #[.int .u64 (i1 : Int), .int .u64 (i2 : Int)] 32)
          have HSWQ := HSW
          obtain ⟨L, hL⟩ : ∃ L, L = ([] : List Nat) := ⟨_, rfl⟩
          have hm2 : L.length = 0 := by rw [hL]; rfl
          have hhh : (([] : List Nat) : List Nat).length = 0 := rfl
          rw [hhh] at HSG hbx
          have HSG' := HSG
          rw [← hL] at HSG' HSWQ
          clear HSW hm2 hL c0' HSG hhh
          have HSG := HSG'
          clear HSG'
          generalize W.alloc (.cells #[.int .u64 (i1 : Int), .int .u64 (i2 : Int)] 32) = wq at *
          have HCq : Hid (Chg No W wq) := HCQ
          have cq0 := (show Boxed wq g 42 (.slice A 0 c) from HCq.out.heap hbx (fun x => x)).cell
          have HXq : Hid (Boxed wq g 42 (.slice A 0 c)) := HCq.out.heap hbx (fun x => x)
          have HSGq := Lib.hid (HSG.out.no HCq.out)
          have HLw := Lib.hid HSWQ.out.len
          have HBQ : Hid (Below w.heap.size w wq) := HBW.out.trans ((Chg.below HCq.out).mono (by omega))
          have hbq : Boxed wq w.heap.size 4 (.bool false) := HCq.out.heap hbr (fun x => x)
          have hKq : wq.heap[D]? = some (.deferred (some [])) := HCq.out.heap hKD (fun x => x)
          have hKq2 : wq.heap[D2]? = some (.deferred (some [])) := HCq.out.heap hK2 (fun x => x)
          clear hbr hKD hK2 c0 HSG HBW
          gi_loopw [180] (fun i V => ∃ k : Nat, k ≤ 0 ∧ i = .int .i64 (k : Int) ∧ Hid (Chg No wq V)) (fun i _ => 0 - (intOf i).toNat)
          case atStart => exact ⟨0, Nat.zero_le _, rfl, Chg.refl _ _⟩
          case round =>
            obtain ⟨k, hk, rfl, HV⟩ := hrel
            by_cases hlt : k < 0
            · have i1 : (k : Int) < (0 : Int) := by omega
              exact absurd hlt (Nat.not_lt_zero _)
            · have i1 : ¬ ((k : Int) < (0 : Int)) := by omega
              gi_wp2_with (refine ⟨trivial, ?_⟩; gi_at_call 8; refine (callsIn_wide.2 (swakes_calls _)).mono ?_; rintro e wz ⟨rfl, hcz⟩; have hbz : Boxed wz w.heap.size 4 (.bool false) := (HV.out.no hcz).heap hbq (fun x => x); have cz := hbz.cell; have fz := hbz.frozen)
              have hcw : Chg No wq wz := HV.out.no hcz
              refine leaves_all w.heap.size 4 (.bool true) w.heap.size w (Nat.le_refl _) (fun W' hb' hB' => ⟨.bool true, by simp [results, Try.f4, go_sem, hb'.cell], rfl, hB'⟩) [D2, D] _ (by simp; omega) (fun D' hD' => ?_) (hbz.set _) ((HBQ.out.trans ((Chg.below hcw).mono HBQ.out.size)).setCell (p := ⟨w.heap.size, 0, none⟩) (Nat.le_refl _) _)
              simp only [List.mem_cons, List.not_mem_nil, or_false] at hD'
              rcases hD' with rfl | rfl
              · exact ⟨by omega, (KeepsOthers.setCell wz ⟨w.heap.size, 0, none⟩ (.bool true)).same _ _ (hcw.heap hKq2 (fun x => x)) rfl⟩
              · exact ⟨by omega, (KeepsOthers.setCell wz ⟨w.heap.size, 0, none⟩ (.bool true)).same _ _ (hcw.heap hKq (fun x => x)) rfl⟩
      · have hT : x.toNat = 0 := by omega
        rw [hT] at HSG HLL c0 hbx
        have hdd : List.drop 0 [i1, i2] = [i1, i2] := rfl
        rw [hdd] at HSG HLL c0 hbx
        have c0' : ∀ o, (W.alloc o).cell? ⟨g, 0, none⟩ = some (.slice A 2 c) := fun o => (hbx.alloc o).cell
        have hn0 : ¬ 0 < x := by omega
        clear hT hdd
        gi_wp2
        have HSW : Hid (Sl u64v (W.alloc (.cells #[.int .u64 (i1 : Int), .int .u64 (i2 : Int)] 32)) (.slice (some ⟨W.heap.size, 0, none⟩) 2 2) [i1, i2]) := ids_lit W i1 i2
        have HCQ := (Chg.refl No W).alloc (.cells #[.int .u64 (i1 : Int), .int .u64 (i2 : Int)] 32)
        have HSWQ := HSW
        obtain ⟨L, hL⟩ : ∃ L, L = [i1, i2] := ⟨_, rfl⟩
        rw [← hL] at HSG HLL HSWQ hbx
        have hm2 : L.length = 2 := by rw [hL]; rfl
        rw [hm2] at HLL hbx HSG
        clear HSW hm2 hL c0'
        generalize W.alloc (.cells #[.int .u64 (i1 : Int), .int .u64 (i2 : Int)] 32) = wq at *
        have HCq : Hid (Chg No W wq) := HCQ
        have cq0 := (show Boxed wq g 42 (.slice A 2 c) from HCq.out.heap hbx (fun x => x)).cell
        have HXq : Hid (Boxed wq g 42 (.slice A 2 c)) := HCq.out.heap hbx (fun x => x)
        have HSGq := Lib.hid (HSG.out.no HCq.out)
        have HLw := Lib.hid HSWQ.out.len
        have HBQ : Hid (Below w.heap.size w wq) := HBW.out.trans ((Chg.below HCq.out).mono (by omega))
        have hbq : Boxed wq w.heap.size 4 (.bool false) := HCq.out.heap hbr (fun x => x)
        have hKq : wq.heap[D]? = some (.deferred (some [])) := HCq.out.heap hKD (fun x => x)
        have hKq2 : wq.heap[D2]? = some (.deferred (some [])) := HCq.out.heap hK2 (fun x => x)
        clear hbr hKD hK2 c0 HSG HBW
        gi_loopw [180] (fun i V => ∃ k : Nat, k ≤ 2 ∧ i = .int .i64 (k : Int) ∧ Hid (Chg No wq V)) (fun i _ => 2 - (intOf i).toNat)
        case atStart => exact ⟨0, Nat.zero_le _, rfl, Chg.refl _ _⟩
        case round =>
          obtain ⟨k, hk, rfl, HV⟩ := hrel
          by_cases hlt : k < 2
          · have i1 : (k : Int) < (2 : Int) := by omega
            have hLk : k < L.length := by have := HLw.out; omega
            obtain ⟨b1, o1, rfl, hcell1⟩ := (HSGq.out.no HV.out).addr (by omega)
            obtain ⟨b2, o2, hAw, hcell2⟩ := (HSWQ.out.no HV.out).addr (by omega)
            obtain ⟨rfl, rfl⟩ : b2 = W.heap.size ∧ o2 = 0 := by simp only [Option.some.injEq, Addr.mk.injEq] at hAw; exact ⟨hAw.1.symm, hAw.2.1.symm⟩
            have hc1 := hcell1 k hLk
            have hc2 := hcell2 k hLk
            generalize L[k]'hLk = y at *
            unfold u64v at hc1 hc2
            rw [Nat.zero_add] at hc2
            have hcg := (show Boxed wr g 42 (.slice (some ⟨b1, o1, none⟩) 2 c) from HV.out.heap HXq.out (fun x => x)).cell
            have hbe : ((y : Int) != (y : Int)) = false := by simp
            clear hcell1 hcell2
            gi_wp2
            refine wpIn_wide.2 ?_
            go_quiet (skip)
            gi_wp2
            go_roundw
            case rel => exact ⟨k + 1, by omega, by go_num, HV.out.drewN _⟩
            case measure => simp only [intOf]; omega
          · have i1 : ¬ ((k : Int) < (2 : Int)) := by omega
            gi_wp2_with (refine ⟨trivial, ?_⟩; gi_at_call 8; refine (callsIn_wide.2 (swakes_calls _)).mono ?_; rintro e wz ⟨rfl, hcz⟩; have hbz : Boxed wz w.heap.size 4 (.bool false) := (HV.out.no hcz).heap hbq (fun x => x); have cz := hbz.cell; have fz := hbz.frozen)
            have hcw : Chg No wq wz := HV.out.no hcz
            refine leaves_all w.heap.size 4 (.bool true) w.heap.size w (Nat.le_refl _) (fun W' hb' hB' => ⟨.bool true, by simp [results, Try.f4, go_sem, hb'.cell], rfl, hB'⟩) [D2, D] _ (by simp; omega) (fun D' hD' => ?_) (hbz.set _) ((HBQ.out.trans ((Chg.below hcw).mono HBQ.out.size)).setCell (p := ⟨w.heap.size, 0, none⟩) (Nat.le_refl _) _)
            simp only [List.mem_cons, List.not_mem_nil, or_false] at hD'
            rcases hD' with rfl | rfl
            · exact ⟨by omega, (KeepsOthers.setCell wz ⟨w.heap.size, 0, none⟩ (.bool true)).same _ _ (hcw.heap hKq2 (fun x => x)) rfl⟩
            · exact ⟨by omega, (KeepsOthers.setCell wz ⟨w.heap.size, 0, none⟩ (.bool true)).same _ _ (hcw.heap hKq (fun x => x)) rfl⟩
theorem storeNone_walk (w : World) (a0 : Int) (w0 : (Lit.int .u64 a0).wf = true) (a1 : Int) (w1 : (Lit.int .i64 a1).wf = true) :
    Calls Try.prog 4 #[.int .u64 a0, .int .i64 a1] w fun e w' => e = .returned (.bool true) ∧ Below w.heap.size w w' := by
  have hc : 0 ≤ a0 ∧ a0 ≤ 18446744073709551615 := by simpa [Lit.wf, IntKind.min, IntKind.max, IntKind.signed, IntKind.bits] using w0
  obtain ⟨a, rfl⟩ := Int.eq_ofNat_of_zero_le hc.1
  have hb : -9223372036854775808 ≤ a1 ∧ a1 ≤ 9223372036854775807 := by simpa [Lit.wf, IntKind.min, IntKind.max, IntKind.signed, IntKind.bits] using w1
  exact callsIn_wide.1 (storeNone_core 3 (Nat.le_refl _) w a a1 hb.1 hb.2)
end Go.Proofs.Ytccphnkdnifpfaa

namespace Go.Proofs.Ytccphnkdnifpfaa.storeNone
set_option linter.unnecessarySimpa false
open Go.Proofs.Ytccphnkdnifpfaa
open Go.ChangeShapes Go.WideShapes Go.ChangeAt Go.RowKit
open Go.ChangeMaps (open_string shut_string)
set_option linter.unusedVariables false
set_option linter.unusedSimpArgs false

set_option maxRecDepth 100000 in
theorem lifted (os : Os) (started : os.Started) (H : Type) (enc : TypeId × Value → H) :
    ReturnsInHanded {} Try.checked os 4 .any (Rows.storeNoneSpec.pre6 enc Try.prog Try.f4 Rows.storeNoneRow.domain false) (Rows.storeNoneSpec.post enc Try.prog Try.f4 false true false false) := by
  refine returnsInHanded_of_change_sized (C := Try.checked) own started (by kernel_rfl) Try.func4
    (ChangeSpec.witness6 (enc := enc) (C := Try.checked) false ⟨#[], #[.int .u64 0, .int .i64 0], []⟩ 8 (by kernel_rfl) (by kernel_rfl) (by kernel_rfl) (by kernel_rfl)) ?_
  intro W base args ds gs before hval0 hW hcnd hsz0 _
  have hval : ∀ (j : Nat) t v, Try.f4.params[j]? = some t → args[j]? = some v → Value.okWide Try.prog W .any base t v := hval0
  have hsz : (DataW.weightsEach Try.prog (Try.f4.params.toList ++ Rows.storeNoneSpec.plain.varTypes Try.prog) (ds ++ gs)).all (· ≤ reachBytes) = true := hsz0
  have hW' := hW
  obtain ⟨p, q, hA0, hV, rfl, hfz, hnd⟩ := hW
  have hA : DataW.TrodAll enc Try.prog W 0 (fun _ => true) true Try.f4.params.toList args.toList ds p := hA0
  rw [Try.params4] at hA hval
  rw [Try.params4] at hsz
  obtain ⟨v0, vs0, d0, ds0, p0, q0, hargs, rfl, rfl, h0, r0⟩ := trodAll_cons hA
  obtain ⟨v1, vs1, d1, ds1, p1, q1, rfl, rfl, rfl, h1, r1⟩ := trodAll_cons r0
  obtain ⟨rfl, rfl, rfl⟩ := trodAll_nil r1
  obtain rfl : args = #[v0, v1] := by cases args; simp_all
  obtain ⟨rfl, rfl⟩ := trodVars_none hV
  have k0 := h0
  have lt0 : ∀ x ∈ p0, x.block < W.heap.size := by obtain ⟨m, hm⟩ := k0; exact DataW.trod_lt m _ _ _ hm
  obtain ⟨a0, rfl, rfl, rfl, w0⟩ := open_int Try.underlying32 (hval 0 32 v0 rfl rfl) h0
  have k1 := h1
  have lt1 : ∀ x ∈ p1, x.block < W.heap.size := by obtain ⟨m, hm⟩ := k1; exact DataW.trod_lt m _ _ _ hm
  obtain ⟨a1, rfl, rfl, rfl, w1⟩ := open_int Try.underlying3 (hval 1 3 v1 rfl rfl) h1
  clear hA0 hval0
  refine (storeNone_walk W a0 w0 a1 w1).mono fun e W' ⟨he, bel⟩ => ?_
  subst he
  exact ⟨_, rfl, _, _, _, [], _, [], hW', trodAll_mk1 (shut_bool Try.underlying4 _), (trodAll_cons_mk (Below.trod laidOut (by kernel_rfl) (of_decide_eq_true (by kernel_rfl)) k0 bel lt0) (trodAll_cons_mk (Below.trod laidOut (by kernel_rfl) (of_decide_eq_true (by kernel_rfl)) k1 bel lt1) trodAll_mk0)), rfl, bel.frame _, fun h => by cases h⟩

theorem over : Rows.storeNoneRow.holds Try.pinned (OpenSpec.ofChange Rows.storeNoneSpec) :=
  OpenClaim.holds_of_wide 4 Try.f4 rfl rfl rfl rfl rfl rfl rfl ⟨rfl, rfl, rfl, rfl, rfl⟩ rfl rfl rfl rfl rfl (by kernel_rfl) Try.func4 (by kernel_rfl)
    (of_decide_eq_true (by kernel_rfl)) (by unfold Func.isWrapper; first | (rw [if_pos (by decide +kernel)]; kernel_rfl) | (rw [if_neg (by decide +kernel)]; exact ⟨rfl, rfl⟩))
    (fun os started H enc _ => lifted os started H enc)

theorem proved : Rows.StoreNoneSaid := over
#print axioms proved
end Go.Proofs.Ytccphnkdnifpfaa.storeNone

