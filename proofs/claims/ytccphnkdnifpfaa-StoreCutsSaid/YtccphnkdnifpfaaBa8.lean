/-
  S4, D4, D5, Os, D6, S5, S6, S7, S8, S9, S10, J15, J16, S11: in one text.
-/
import Derived.Test.YtccphnkdnifpfaaBa7
import Derived.Test.YtccphnkdnifpfaaBa6
import Derived.Test.YtccphnkdnifpfaaBa5
import Derived.Lib.SmallJoins
import Derived.Deep.Slices
import Derived.Deep.Fields
import Derived.Deep.RegionHeld3
import Derived.Laws.OwnMore
namespace Go.Proofs.Ytccphnkdnifpfaa
set_option linter.unnecessarySimpa false
open Go.RowKit Go.Shelf
set_option linter.unusedVariables false
set_option linter.unusedSimpArgs false
set_option maxRecDepth 100000

attribute [local go_sem] Oper.semAt_some

theorem zeroMapI (w : World) : Sem.run Try.prog (zeroValue 89) w = .ok (.map none) w := by
  first | rfl | (simp [go_sem]; done) | exact Try.zeroValue89 w
theorem rcAt_own0 (n₀ : Nat) (ps : List (List UInt8)) (B : Nat) (pre : List Rc) : OwnFrom B (RcAt n₀ ps pre) := by
  rintro x X Y row ⟨h1, h2, h3, h4⟩ hg hr
  exact ⟨h1, h2, h3, (OwnB.own (β := Unit) (base := n₀) (v := x.2.1) (xs := x.2.2)) () X Y row h4 hg (fun r e => (hr r e).2)⟩
/-- A journal opened on a new disk; where it lies. -/
theorem fresh_open2 (w : World) (base d m nw : Nat) (k : ByteArray) (h : DiskAt w d m nw none) (hd : base ≤ d) (hm : base ≤ m) (hw : nw < 9223372036850000000) (hb : base ≤ w.heap.size) :
    Calls Try.prog 29 #[.pointer (some ⟨d, 0, none⟩), .string k] w fun e w' => ∃ j S, e = .returned (.tuple #[.pointer (some ⟨j, 0, none⟩), .int .i64 0]) ∧ JD w' S base j d m nw k false [] ∧ Chg (DM d m) w w' ∧ w.heap.size ≤ j ∧ ∀ i, S i → i = d ∨ i = m ∨ w.heap.size ≤ i := by
  refine (open_calls w base d m nw k false none 0 0 [] [] false (Rds.stop (by simp [stepF])) h (World.ownsRow_nil _ _ _ _) rfl (fun _ => ⟨rfl, rfl, rfl⟩) (by omega) hw ⟨hd, hm⟩ hb).mono ?_
  rintro e w' ⟨-, h2⟩
  obtain ⟨j, he, nw', -, hn, hJ, hc, hj⟩ := h2 rfl
  obtain rfl := (hn rfl).1
  refine ⟨j, _, he, hJ, hc, hj, fun i hi => ?_⟩
  rcases hi with (rfl | rfl | hi) | ⟨hi, -⟩
  · exact .inl rfl
  · exact .inr (.inl rfl)
  · cases hi
  · exact .inr (.inr hi)
set_option maxHeartbeats 6400000 in
theorem sopen_core (n : Nat) (hn : 3 ≤ n) (w : World) (base d m nw : Nat) (h : DiskAt w d m nw none) (hd : base ≤ d) (hm : base ≤ m) (hw : nw < 9223372036850000000) (hb : base ≤ w.heap.size) (hdl : d < w.heap.size) (hml : m < w.heap.size) :
    CallsIn Fence.wide n Try.prog 10 #[.pointer (some ⟨d, 0, none⟩)] w fun e W' => ∃ s mp j S, e = .returned (.tuple #[.pointer (some ⟨s, 0, none⟩), .int .i64 0]) ∧ SD W' S base s mp j d m nw false [] ∧ Chg (DM d m) w W' := by
  have h1 : 1 ≤ n := by omega
  have hmm := @run_makeMap Try.prog
  have X1 := ((Chg.refl No w).alloc (.cells #[.pointer none] 26)).alloc (.cells #[.int .i64 0] 27)
  have HFO := Lib.hid (fresh_open2 ((w.alloc (.cells #[.pointer none] 26)).alloc (.cells #[.int .i64 0] 27)) base d m nw objK (h.no X1) hd hm hw (by simp only [World.size_alloc]; omega))
  have B2 := (Boxed.new w 26 (.pointer none)).alloc (.cells #[.int .i64 0] 27)
  have B3 := Boxed.new (w.alloc (.cells #[.pointer none] 26)) 27 (.int .i64 0)
  rw [World.size_alloc] at B3
  have hs1 : ((w.alloc (.cells #[.pointer none] 26)).alloc (.cells #[.int .i64 0] 27)).heap.size = w.heap.size + 2 := by simp only [World.size_alloc]
  have HX1 := Lib.hid X1
  have HB2 := Lib.hid B2
  have HB3 := Lib.hid B3
  clear h X1 B2 B3
  refine callsIn_of_wp_marks Try.func10 rfl trivial ?_ rfl
  simp only [Try.ntmps10, List.size_toArray, List.length_cons, List.length_nil, Nat.reduceAdd, Nat.reduceSub, Array.replicate_succ, Array.replicate_zero, List.push_toArray, List.append_toArray, List.nil_append, List.cons_append]
  gi_wp2_with (refine ⟨trivial, ?_⟩; gi_at_call 29; refine (callsIn_wide.2 HFO.out).mono ?_; rintro e w2 ⟨j, SJ, rfl, hJ, hc2, hj, hwh⟩; refine Hid.out ?_)
  refine Lib.hid ?_
  rw [hs1] at hj hwh
  have HWH : Hid (∀ i, SJ i → i ≠ w.heap.size ∧ i ≠ w.heap.size + 1) := fun i hi => by rcases hwh i hi with h | h | h <;> omega
  have hsz2 : w.heap.size + 2 ≤ w2.heap.size := by have := hc2.size; omega
  have HJ := Lib.hid hJ
  have HC2 : Hid (Chg (DM d m) w w2) := (HX1.out.mono (S' := DM d m) (fun i _ x => x.elim)).trans hc2 (fun i _ x => x)
  have HB22 : Hid (Boxed w2 w.heap.size 26 (.pointer none)) := hc2.heap HB2.out (fun e => by rcases e with e | e <;> omega)
  have HB32 : Hid (Boxed w2 (w.heap.size + 1) 27 (.int .i64 0)) := hc2.heap HB3.out (fun e => by rcases e with e | e <;> omega)
  clear hJ hc2 HFO HB2 HB3 HX1 hs1 hwh
  gi_wp2_with (refine ⟨trivial, ?_⟩; gi_at_call 33; refine (callsIn_wide.2 (each_calls _ _)).mono ?_; rintro e w' ⟨rfl, rfl⟩)
  have Y5 : Chg No w2 ((((w2.alloc (.map #[] 0)).alloc (.cells #[.pointer (some ⟨j, 0, none⟩), .map (some w2.heap.size), .slice none 0 0] 91)).alloc (.cells #[.pointer (some ⟨w2.heap.size + 1, 0, none⟩)] 26)).alloc (.cells #[.pointer (some ⟨j, 0, none⟩)] 80)) := ((((Chg.refl No w2).alloc _).alloc _).alloc _).alloc _
  have hz5 : ((((w2.alloc (.map #[] 0)).alloc (.cells #[.pointer (some ⟨j, 0, none⟩), .map (some w2.heap.size), .slice none 0 0] 91)).alloc (.cells #[.pointer (some ⟨w2.heap.size + 1, 0, none⟩)] 26)).alloc (.cells #[.pointer (some ⟨j, 0, none⟩)] 80)).heap.size = w2.heap.size + 4 := by simp only [World.size_alloc]
  have gm := heap_alloc_new w2 (.map #[] 0)
  have gs := heap_alloc_new (w2.alloc (.map #[] 0)) (.cells #[.pointer (some ⟨j, 0, none⟩), .map (some w2.heap.size), .slice none 0 0] 91)
  have g6 := Boxed.new ((w2.alloc (.map #[] 0)).alloc (.cells #[.pointer (some ⟨j, 0, none⟩), .map (some w2.heap.size), .slice none 0 0] 91)) 26 (.pointer (some ⟨w2.heap.size + 1, 0, none⟩))
  have gj := Boxed.new (((w2.alloc (.map #[] 0)).alloc (.cells #[.pointer (some ⟨j, 0, none⟩), .map (some w2.heap.size), .slice none 0 0] 91)).alloc (.cells #[.pointer (some ⟨w2.heap.size + 1, 0, none⟩)] 26)) 80 (.pointer (some ⟨j, 0, none⟩))
  simp only [World.size_alloc] at gs g6 gj
  have gm5 : ((((w2.alloc (.map #[] 0)).alloc (.cells #[.pointer (some ⟨j, 0, none⟩), .map (some w2.heap.size), .slice none 0 0] 91)).alloc (.cells #[.pointer (some ⟨w2.heap.size + 1, 0, none⟩)] 26)).alloc (.cells #[.pointer (some ⟨j, 0, none⟩)] 80)).heap[w2.heap.size]? = some (mapI []) := ((((Chg.refl No (w2.alloc (.map #[] 0))).alloc _).alloc _).alloc _).heap gm (fun x => x)
  have gs5 : ((((w2.alloc (.map #[] 0)).alloc (.cells #[.pointer (some ⟨j, 0, none⟩), .map (some w2.heap.size), .slice none 0 0] 91)).alloc (.cells #[.pointer (some ⟨w2.heap.size + 1, 0, none⟩)] 26)).alloc (.cells #[.pointer (some ⟨j, 0, none⟩)] 80)).heap[w2.heap.size + 1]? = some (.cells #[.pointer (some ⟨j, 0, none⟩), .map (some w2.heap.size), .slice none 0 0] 91) := (((Chg.refl No ((w2.alloc (.map #[] 0)).alloc (.cells #[.pointer (some ⟨j, 0, none⟩), .map (some w2.heap.size), .slice none 0 0] 91))).alloc _).alloc _).heap gs (fun x => x)
  have g65 : Boxed ((((w2.alloc (.map #[] 0)).alloc (.cells #[.pointer (some ⟨j, 0, none⟩), .map (some w2.heap.size), .slice none 0 0] 91)).alloc (.cells #[.pointer (some ⟨w2.heap.size + 1, 0, none⟩)] 26)).alloc (.cells #[.pointer (some ⟨j, 0, none⟩)] 80)) (w2.heap.size + 1 + 1) 26 (.pointer (some ⟨w2.heap.size + 1, 0, none⟩)) := g6.alloc _
  have gj5 : Boxed ((((w2.alloc (.map #[] 0)).alloc (.cells #[.pointer (some ⟨j, 0, none⟩), .map (some w2.heap.size), .slice none 0 0] 91)).alloc (.cells #[.pointer (some ⟨w2.heap.size + 1, 0, none⟩)] 26)).alloc (.cells #[.pointer (some ⟨j, 0, none⟩)] 80)) (w2.heap.size + 1 + 1 + 1) 80 (.pointer (some ⟨j, 0, none⟩)) := gj
  have hB25 : Boxed ((((w2.alloc (.map #[] 0)).alloc (.cells #[.pointer (some ⟨j, 0, none⟩), .map (some w2.heap.size), .slice none 0 0] 91)).alloc (.cells #[.pointer (some ⟨w2.heap.size + 1, 0, none⟩)] 26)).alloc (.cells #[.pointer (some ⟨j, 0, none⟩)] 80)) w.heap.size 26 (.pointer none) := Y5.heap HB22.out (fun x => x)
  have hB35 : Boxed ((((w2.alloc (.map #[] 0)).alloc (.cells #[.pointer (some ⟨j, 0, none⟩), .map (some w2.heap.size), .slice none 0 0] 91)).alloc (.cells #[.pointer (some ⟨w2.heap.size + 1, 0, none⟩)] 26)).alloc (.cells #[.pointer (some ⟨j, 0, none⟩)] 80)) (w.heap.size + 1) 27 (.int .i64 0) := Y5.heap HB32.out (fun x => x)
  have HJ5 := Lib.hid (HJ.out.no Y5)
  have HC5 : Hid (Chg (DM d m) w ((((w2.alloc (.map #[] 0)).alloc (.cells #[.pointer (some ⟨j, 0, none⟩), .map (some w2.heap.size), .slice none 0 0] 91)).alloc (.cells #[.pointer (some ⟨w2.heap.size + 1, 0, none⟩)] 26)).alloc (.cells #[.pointer (some ⟨j, 0, none⟩)] 80))) := HC2.out.no Y5
  have hSJ : Hid (∀ i, SJ i → i < w2.heap.size) := fun i hi => (HJ.out.lt i hi).2
  clear gm gs g6 gj hmm HB22 HB32 HJ HC2
  generalize ((((w2.alloc (.map #[] 0)).alloc (.cells #[.pointer (some ⟨j, 0, none⟩), .map (some w2.heap.size), .slice none 0 0] 91)).alloc (.cells #[.pointer (some ⟨w2.heap.size + 1, 0, none⟩)] 26)).alloc (.cells #[.pointer (some ⟨j, 0, none⟩)] 80)) = W5 at *
  refine wpIn_rangeFunc_C rfl h1 (gf := 64) (lb := #[.pointer (some ⟨w2.heap.size + 1 + 1 + 1, 0, none⟩)]) rfl trivial (enters_of Try.func64 (by kernel_rfl) rfl)
    (each_seq (n - 1) (by omega) w2.heap.size W5 SJ base j d m nw objK false [] HJ5.out (by simp [encF]) (w2.heap.size + 1 + 1 + 1) gj5 (by omega) hSJ.out) keepsEach_t (keepsEach_b (by omega)) (fun _ => rfl) (rcAt_own0 _ _ _)
    (fun pre W => Chg No W5 W)
    (fun _ => False)
    ?own1 (fun _ _ _ _ hs _ _ => hs.elim)
    (Chg.refl _ _)
    ?frame ?assign ?body ?done ?stop
  case own1 =>
    rintro pre X Y row h hg hr
    exact h.grown hg (fun k e => .inl (hr k e).1)
  case assign =>
    intro l x W K hK
    gi_wp2
    exact hK
  case stop =>
    rintro D W hD h hK
    exact h.elim
  case body =>
    rintro l pre x W hI ⟨-, -, hx, -⟩
    simp at hx
  case done =>
    rintro D xs W hD hxs hI hK
    have b2 : Boxed W w.heap.size 26 (.pointer none) := hI.heap hB25 (fun x => x)
    have b3 : Boxed W (w.heap.size + 1) 27 (.int .i64 0) := hI.heap hB35 (fun x => x)
    have b6 : Boxed W (w2.heap.size + 1 + 1) 26 (.pointer (some ⟨w2.heap.size + 1, 0, none⟩)) := hI.heap g65 (fun x => x)
    have bs := hI.heap gs5 (fun x => x)
    have bm := hI.heap gm5 (fun x => x)
    have HJW := Lib.hid (HJ5.out.no hI)
    have HCW := Lib.hid (HC5.out.no hI)
    have c6 := b6.cell
    obtain ⟨e0, e1, e2⟩ := cells3 bs
    have f2 := b2.frozen
    have f3 := b3.frozen
    have c2 := b2.cell
    have c3 := b3.cell
    have hn23 : ¬ w.heap.size = w.heap.size + 1 := by omega
    have hn32 : ¬ w.heap.size + 1 = w.heap.size := by omega
    have HB2 := Lib.hid b2
    have HB3 := Lib.hid b3
    have HBS := Lib.hid bs
    have HBM := Lib.hid bm
    have HKD := Lib.hid hK
    have hzw := hI.size
    clear b2 b3 b6 bs bm hK hI
    gi_wp2
    have hns : ¬ w2.heap.size + 1 = w.heap.size := by omega
    obtain ⟨W9, hW9⟩ : ∃ W9, W9 = ((W.setCell ⟨w.heap.size, 0, none⟩ (.pointer (some ⟨w2.heap.size + 1, 0, none⟩))).setCell ⟨w.heap.size + 1, 0, none⟩ (.int .i64 0)) := ⟨_, rfl⟩
    rw [← hW9]
    have hc9 : Chg (fun i => i = w.heap.size ∨ i = w.heap.size + 1) W W9 := by
      rw [hW9]
      exact ((Chg.refl (fun i => i = w.heap.size ∨ i = w.heap.size + 1) W).setCell (p := ⟨w.heap.size, 0, none⟩) (.inr (.inl rfl)) _).setCell (p := ⟨w.heap.size + 1, 0, none⟩) (.inr (.inr rfl)) _
    have E2 : Boxed W9 w.heap.size 26 (.pointer (some ⟨w2.heap.size + 1, 0, none⟩)) := by
      rw [hW9]; exact (Chg.put _ (w.heap.size + 1) 0 _).heap (HB2.out.set _) (fun e => hn23 e)
    have E3 : Boxed W9 (w.heap.size + 1) 27 (.int .i64 0) := by
      rw [hW9]
      have h3 : Boxed (W.setCell ⟨w.heap.size, 0, none⟩ (.pointer (some ⟨w2.heap.size + 1, 0, none⟩))) (w.heap.size + 1) 27 (.int .i64 0) := (Chg.put W w.heap.size 0 _).heap HB3.out (fun e => hn32 e)
      exact h3.set _
    have k9 : W9.heap[D]? = some (.deferred (some [])) := hc9.heap HKD.out (fun e => by rcases e with e | e <;> omega)
    have hg9 := grownBy_putObj' W9 D (.deferred none)
    have hk9 : ∀ r, some D = some r → ∃ o : Obj, W9.heap[r]? = some o ∧ o.isCells = false := fun r e => by cases e; exact ⟨_, k9, rfl⟩
    have d2 := cell_kept E2.cell hg9 hk9
    have d3 := cell_kept E3.cell hg9 hk9
    have hcp : Chg (fun i => i = w.heap.size ∨ i = w.heap.size + 1 ∨ i = D) W (W9.putObj D (.deferred none)) :=
      (hc9.mono (S' := fun i => i = w.heap.size ∨ i = w.heap.size + 1 ∨ i = D) (fun i _ h => by rcases h with h | h; exact .inl h; exact .inr (.inl h))).grown hg9 (fun k e => .inr (.inr (.inr (Option.some.inj e).symm)))
    have hJ9 : JD (W9.putObj D (.deferred none)) SJ base j d m nw objK false [] := HJW.out.chg hcp (fun i hi e => by
      have h1 := HWH.out i hi
      have h2 := hSJ.out i hi
      rcases e with e | e | e <;> omega)
    refine ⟨by simp, .inl ⟨_, _, rfl, run_takeDeferred k9, ?_⟩⟩
    refine ⟨.tuple #[.pointer (some ⟨w2.heap.size + 1, 0, none⟩), .int .i64 0], ?_, ⟨w2.heap.size + 1, w2.heap.size, j, fun i => SJ i ∨ i = w2.heap.size ∨ i = w2.heap.size + 1, rfl, ?_, ?_⟩⟩
    · simp [results, Try.f10, go_sem, d2, d3]
    · refine ⟨.slice none 0 0, SJ, ⟨hcp.heap HBS.out (fun e => by rcases e with e | e | e <;> omega), hcp.heap HBM.out (fun e => by rcases e with e | e | e <;> omega), World.ownsRow_nil _ _ _ _, by omega, by omega⟩, hJ9, fun i hi => ?_, .inr (.inr rfl), .inr (.inl rfl), (fun b hb => by cases hb), fun i hi => ?_, ?_⟩
      · have := hSJ.out i hi
        exact ⟨.inl hi, by omega, by omega, fun h => by cases h⟩
      · have hz := hcp.size
        rcases hi with hi | rfl | rfl
        · have := hJ9.lt i hi
          exact this
        · exact ⟨by omega, by omega⟩
        · exact ⟨by omega, by omega⟩
      · have hz := hcp.size
        omega
    · exact HCW.out.trans hcp (fun i hi e => by rcases e with e | e | e <;> omega)
theorem sopen_calls (w : World) (base d m nw : Nat) (h : DiskAt w d m nw none) (hd : base ≤ d) (hm : base ≤ m) (hw : nw < 9223372036850000000) (hb : base ≤ w.heap.size) (hdl : d < w.heap.size) (hml : m < w.heap.size) :
    Calls Try.prog 10 #[.pointer (some ⟨d, 0, none⟩)] w fun e W' => ∃ s mp j S, e = .returned (.tuple #[.pointer (some ⟨s, 0, none⟩), .int .i64 0]) ∧ SD W' S base s mp j d m nw false [] ∧ Chg (DM d m) w W' :=
  callsIn_wide.1 (sopen_core 3 (Nat.le_refl _) w base d m nw h hd hm hw hb hdl hml)
end Go.Proofs.Ytccphnkdnifpfaa

namespace Go.Proofs.Ytccphnkdnifpfaa
set_option linter.unnecessarySimpa false
set_option linter.unusedVariables false
set_option linter.unusedSimpArgs false

theorem toNat_ofNat_lt (n : Nat) (h : n < 256) : (UInt8.ofNat n).toNat = n := by rw [UInt8.toNat_ofNat']; omega

/-- A whole short form is read. -/
theorem numF_whole (t : List UInt8) : ∀ (y i x : Nat), i ≤ 9 → y < 128 ^ (9 - i) * 2 → (0 < i → 0 < y) → numF i x (leb y ++ t) = (x + y * 128 ^ i, i + (leb y).length, 0) := by
  intro y
  induction y using Nat.strongRecOn with
  | _ y ih =>
    intro i x hi hy h0
    by_cases hs : y < 128
    · rw [leb_small y hs]
      have hc := toNat_ofNat_lt y (by omega)
      have hb : ¬ (i = 9 ∧ 1 < (UInt8.ofNat y).toNat ∨ 0 < i ∧ (UInt8.ofNat y).toNat = 0) := by
        rw [hc]
        rintro (⟨rfl, h⟩ | ⟨h, h'⟩)
        · simp at hy; omega
        · have := h0 h; omega
      rw [List.singleton_append, numF_last i x _ t hb (by rw [hc]; exact hs), hc, Nat.mod_eq_of_lt hs]
      rfl
    · rw [leb_big y hs]
      have hc := toNat_ofNat_lt (y % 128 + 128) (by omega)
      have hi9 : i ≠ 9 := by rintro rfl; simp at hy; omega
      have hb : ¬ (i = 9 ∧ 1 < (UInt8.ofNat (y % 128 + 128)).toNat ∨ 0 < i ∧ (UInt8.ofNat (y % 128 + 128)).toNat = 0) := by
        rw [hc]; omega
      rw [List.cons_append, numF_more i x _ _ hb (by rw [hc]; omega), hc]
      have hp : 128 ^ (9 - i) * 2 = 128 * (128 ^ (9 - (i + 1)) * 2) := by
        rw [show 9 - i = (9 - (i + 1)) + 1 by omega, Nat.pow_succ]; omega
      rw [ih (y / 128) (by omega) (i + 1) _ (by omega) (by rw [hp] at hy; exact Nat.div_lt_of_lt_mul hy) (by omega)]
      have e1 : (y % 128 + 128) % 128 = y % 128 := by omega
      have e2 : y = y % 128 + y / 128 * 128 := by omega
      rw [e1, Nat.pow_succ, List.length_cons]
      refine Prod.ext ?_ (Prod.ext ?_ rfl)
      · show x + y % 128 * 128 ^ i + y / 128 * (128 ^ i * 128) = x + y * 128 ^ i
        conv => rhs; rw [e2]
        rw [Nat.add_mul, Nat.mul_assoc, Nat.mul_comm 128 (128 ^ i)]
        omega
      · show i + 1 + (leb (y / 128)).length = i + ((leb (y / 128)).length + 1)
        omega
theorem numF_leb_whole (y : Nat) (h : y < 18446744073709551616) (t : List UInt8) : numF 0 0 (leb y ++ t) = (y, (leb y).length, 0) := by
  have := numF_whole t y 0 0 (by omega) (by simpa using h) (by omega)
  simpa using this
theorem rUint_whole (y : Nat) (h : y < 18446744073709551616) (t : List UInt8) : rUint ⟨leb y ++ t, 0⟩ = (y, ⟨t, 0⟩) := by
  simp only [rUint, numF_leb_whole y h t]
  simp
theorem rWord_whole (y : Nat) (h : y < 18446744073709551616) (t : List UInt8) : rWord ⟨wide y ++ t, 0⟩ = (y, ⟨t, 0⟩) := by
  have hl := wide_len y
  simp only [rWord]
  rw [if_neg (by simp), if_neg (by simp [hl])]
  rw [List.take_append_of_le_length (by omega), List.take_of_length_le (by omega), beF_wide y h]
  simp [hl]

theorem rText_at (most : Int) (s t : List UInt8) (h : (s.length : Int) ≤ most) (h2 : s.length < 18446744073709551616) : rText most ⟨leb s.length ++ (s ++ t), 0⟩ = (s, ⟨t, 0⟩) := by
  simp only [rText, numF_leb_whole s.length h2 (s ++ t)]
  rw [if_neg (by simp), if_neg (by omega), if_neg (by simp), if_neg (by omega), if_neg (by simp)]
  simp
theorem mkS_list' (s : ByteArray) : mkS s.data.toList = s := mkS_self s
theorem readE_whole : ∀ (es : List Ent) (r : List UInt8) (acc : List Ent), (∀ x ∈ es, x.1.size ≤ 32 ∧ x.2.2 < 18446744073709551616) → readE es.length ⟨es.flatMap entB ++ r, 0⟩ acc = (some (acc ++ es), ⟨r, 0⟩)
  | [], r, acc, _ => by simp [readE]
  | x :: es, r, acc, h => by
    obtain ⟨s, f, id⟩ := x
    have h1 := h (s, f, id) (by simp)
    simp only at h1
    have e : (List.flatMap entB ((s, f, id) :: es)) ++ r = leb s.data.toList.length ++ (s.data.toList ++ ((if f = true then 1 else 0) :: (wide id ++ (es.flatMap entB ++ r)))) := by
      rw [List.flatMap_cons, entB, size_list]
      simp
    have ht := rText_at 32 s.data.toList ((if f = true then 1 else 0) :: (wide id ++ (es.flatMap entB ++ r))) (by rw [size_list]; omega) (by rw [size_list]; omega)
    rw [List.length_cons, e, readE, if_neg (by simp), ht]
    have hb : rByte ⟨(if f = true then (1 : UInt8) else 0) :: (wide id ++ (es.flatMap entB ++ r)), 0⟩ = (if f = true then 1 else 0, ⟨wide id ++ (es.flatMap entB ++ r), 0⟩) := rfl
    rw [hb, rWord_whole id h1.2, if_neg (by cases f <;> simp), readE_whole es r _ (fun y hy => h y (by simp [hy]))]
    cases f <;> simp [mkS_self]
theorem readP_whole : ∀ (ps : List Nat) (r : List UInt8) (acc : List Nat), (∀ x ∈ ps, x < 18446744073709551616) → readP ps.length ⟨ps.flatMap wide ++ r, 0⟩ acc = (acc ++ ps, ⟨r, 0⟩)
  | [], r, acc, _ => by simp [readP]
  | x :: ps, r, acc, h => by
    rw [List.length_cons, List.flatMap_cons, List.append_assoc, readP, if_neg (by simp), rWord_whole x (h x (by simp)), readP_whole ps r _ (fun y hy => h y (by simp [hy]))]
    simp
/-- An object that may be told in bytes. -/
def Wf : Ob → Prop
  | .blob _ => True
  | .tree l => ∀ x ∈ l, x.2.2 < 18446744073709551616
  | .commit t ps _ d _ => t < 18446744073709551616 ∧ (∀ p ∈ ps, p < 18446744073709551616) ∧ -9223372036854775808 ≤ d ∧ d ≤ 9223372036854775807
def obB : Ob → List UInt8
  | .blob l => 98 :: l
  | .tree l => treeB l
  | .commit t ps a d x => commitB t ps a d x
theorem pre_blob (l : List UInt8) : preF (98 :: l) = some (.blob l, ⟨[], 0⟩) := by
  have : rByte ⟨98 :: l, 0⟩ = (98, ⟨l, 0⟩) := rfl
  have h2 : rRaw (l.length : Int) ⟨l, 0⟩ = (l, ⟨[], 0⟩) := by
    simp only [rRaw]
    rw [if_neg (by simp), if_neg (by omega), if_neg (by omega)]
    simp
  rw [preF, this, if_pos rfl]
  simp only
  rw [h2]
theorem pre_tree (l : List Ent) (r : List UInt8) (h : ∀ x ∈ l, x.1.size ≤ 32 ∧ x.2.2 < 18446744073709551616) (hl : l.length < 18446744073709551616) : preF (treeB l ++ r) = some (.tree l, ⟨r, 0⟩) := by
  have e : treeB l ++ r = 116 :: (leb l.length ++ (l.flatMap entB ++ r)) := by simp [treeB]
  have hb : rByte ⟨116 :: (leb l.length ++ (l.flatMap entB ++ r)), 0⟩ = (116, ⟨leb l.length ++ (l.flatMap entB ++ r), 0⟩) := rfl
  rw [e, preF, hb, if_neg (show ¬ (116 : UInt8) = 98 by decide), if_pos rfl, rUint_whole l.length hl]
  simp only
  rw [readE_whole l r [] h]
  rfl
theorem sd_du (d : Int) (h : -9223372036854775808 ≤ d ∧ d ≤ 9223372036854775807) : sd (du d) = d := by
  unfold sd du; split <;> omega
theorem pre_commit (t : Nat) (ps : List Nat) (a : List UInt8) (d : Int) (x r : List UInt8) (h : Wf (.commit t ps a d x)) (hp : ps.length ≤ 8) (ha : a.length ≤ 64) (hx : x.length ≤ 1024) : preF (commitB t ps a d x ++ r) = some (.commit t ps a d x, ⟨r, 0⟩) := by
  obtain ⟨h1, h2, h3, h4⟩ := h
  have e : commitB t ps a d x ++ r = 99 :: (wide t ++ (leb ps.length ++ (ps.flatMap wide ++ (leb a.length ++ (a ++ (wide (du d) ++ (leb x.length ++ (x ++ r)))))))) := by simp [commitB]
  have hb : ∀ l, rByte ⟨99 :: l, 0⟩ = (99, ⟨l, 0⟩) := fun l => rfl
  rw [e, preF, hb, if_neg (show ¬ (99 : UInt8) = 98 by decide), if_neg (show ¬ (99 : UInt8) = 116 by decide), if_pos rfl, rWord_whole t h1]
  simp only
  rw [rUint_whole ps.length (by omega)]
  simp only
  rw [readP_whole ps _ [] h2, afterC]
  simp only
  rw [rText_at 64 a _ (by omega) (by omega)]
  simp only
  rw [rWord_whole (du d) (du_lt d)]
  simp only
  rw [rText_at 1024 x r (by omega) (by omega), sd_du d ⟨h3, h4⟩]
  rfl
/-- What was written is read, whatever follows (but for a blob). -/
theorem pre_whole (o : Ob) (h : Wf o) (hc : obCheck o = 0) (r : List UInt8) (hr : r = [] ∨ ∀ l, o ≠ .blob l) : preF (obB o ++ r) = some (o, ⟨r, 0⟩) := by
  cases o with
  | blob l =>
    rcases hr with rfl | hr
    · rw [List.append_nil]; exact pre_blob l
    · exact absurd rfl (hr l)
  | tree l =>
    obtain ⟨q1, q2⟩ := treeF_zero hc
    exact pre_tree l r (fun x hx => ⟨(q2 x hx).1, h x hx⟩) (by omega)
  | commit t ps a d x =>
    have hc : ((commitF t ps a x : Nat) : Int) = 0 := hc
    obtain ⟨-, q2, -, q4, -, q6, -⟩ := commitF_zero (show commitF t ps a x = 0 by omega)
    exact pre_commit t ps a d x r h q2 q4 q6
theorem dec_whole (o : Ob) (h : Wf o) (hc : obCheck o = 0) : decF (obB o) = some o := by
  have := pre_whole o h hc [] (.inl rfl)
  rw [List.append_nil] at this
  rw [decF, this]
  exact if_pos ⟨rfl, hc⟩

set_option maxRecDepth 100000 in
theorem decode_calls (w : World) (A : Option Addr) (n c : Nat) (xs : List UInt8) (hb : Bytes w (.slice A n c) xs) (hl : xs.length = n) (hn : n ≤ 1000000) :
    Calls Try.prog 34 #[.slice A n c] w fun e w' => DecR w.heap.size w' e (decF xs) ∧ Chg No w w' := by
  by_cases h1 : (rByte ⟨xs, 0⟩).1 = 98
  · exact decode_blob w A n c xs hb hl hn h1
  by_cases h2 : (rByte ⟨xs, 0⟩).1 = 116
  · exact decode_tree w A n c xs hb hl hn h2
  by_cases h3 : (rByte ⟨xs, 0⟩).1 = 99
  · exact decode_commit w A n c xs hb hl hn h3
  · exact decode_none w A n c xs hb hl hn h1 h2 h3
end Go.Proofs.Ytccphnkdnifpfaa

namespace Go.Proofs.Ytccphnkdnifpfaa
set_option linter.unnecessarySimpa false
set_option linter.unusedVariables false
set_option linter.unusedSimpArgs false

theorem rWord_split {r : Rd} (h : (rWord r).2.err = 0) : r.err = 0 ∧ r.rest = wide (rWord r).1 ++ (rWord r).2.rest := by
  by_cases he : r.err = 0
  · refine ⟨he, ?_⟩
    unfold rWord at h ⊢
    rw [if_neg (by rw [he]; simp)] at h ⊢
    split at h
    · simp at h
    · rename_i h8
      rw [if_neg h8]
      simp only
      rw [wide_beF _ (by rw [List.length_take]; omega), List.take_append_drop]
  · rw [(rWord_rest r).2 he] at h
    exact absurd h he
theorem rByte_split {r : Rd} (h : (rByte r).2.err = 0) : r.err = 0 ∧ r.rest = (rByte r).1 :: (rByte r).2.rest := by
  by_cases he : r.err = 0
  · refine ⟨he, ?_⟩
    obtain ⟨xs, e⟩ := r
    simp only at he
    subst he
    cases xs with
    | nil => simp [rByte] at h
    | cons b t => rfl
  · rw [(rByte_rest r).2 he] at h
    exact absurd h he
theorem rUint_split {r : Rd} (h : (rUint r).2.err = 0) : r.err = 0 ∧ r.rest = leb (rUint r).1 ++ (rUint r).2.rest := by
  by_cases he : r.err = 0
  · refine ⟨he, ?_⟩
    unfold rUint at h ⊢
    rw [if_neg (by rw [he]; simp)] at h ⊢
    split at h
    · rename_i h1; exact absurd h h1
    · rename_i h1
      rw [if_neg h1]
      simp only
      have h1' : (numF 0 0 r.rest).2.2 = 0 := by simpa using h1
      have := numF_leb0 r.rest (numF 0 0 r.rest).1 (numF 0 0 r.rest).2.1 (by rw [← h1'])
      rw [this, List.take_append_drop]
  · unfold rUint at h
    rw [if_pos he] at h
    exact absurd h he
theorem rText_split {most : Int} {r : Rd} (h : (rText most r).2.err = 0) : r.err = 0 ∧ r.rest = leb (rText most r).1.length ++ ((rText most r).1 ++ (rText most r).2.rest) := by
  by_cases he : r.err = 0
  · refine ⟨he, ?_⟩
    unfold rText at h ⊢
    rw [if_neg (by rw [he]; simp)] at h ⊢
    split at h
    · simp at h
    · rename_i h0
      split at h
      · rename_i h1; exact absurd h h1
      · rename_i h1
        split at h
        · simp at h
        · rename_i h2
          split at h
          · simp at h
          · rename_i h3
            rw [if_neg h0, if_neg h1, if_neg h2, if_neg h3]
            simp only
            have h1' : (numF 0 0 r.rest).2.2 = 0 := by simpa using h1
            have e := numF_leb0 r.rest (numF 0 0 r.rest).1 (numF 0 0 r.rest).2.1 (by rw [← h1'])
            have el : ((r.rest.drop (numF 0 0 r.rest).2.1).take (numF 0 0 r.rest).1).length = (numF 0 0 r.rest).1 := by rw [List.length_take, List.length_drop]; omega
            rw [el, e, List.take_append_drop, List.take_append_drop]
  · unfold rText at h
    rw [if_pos he] at h
    exact absurd h he
theorem readE_split : ∀ (k : Nat) (r : Rd) (acc l : List Ent) (r' : Rd), readE k r acc = (some l, r') → r'.err = 0 → r.err = 0 ∧ ∃ es : List Ent, l = acc ++ es ∧ es.length = k ∧ r.rest = es.flatMap entB ++ r'.rest ∧ ∀ x ∈ es, x.2.2 < 18446744073709551616
  | 0, r, acc, l, r', h, he => by
    rw [readE] at h
    simp only [Prod.mk.injEq, Option.some.injEq] at h
    obtain ⟨rfl, rfl⟩ := h
    exact ⟨he, [], by simp, rfl, by simp, fun x hx => by cases hx⟩
  | k + 1, r, acc, l, r', h, he => by
    by_cases h0 : r.err = 0
    · refine ⟨h0, ?_⟩
      rw [readE, if_neg (by rw [h0]; simp)] at h
      split at h
      · simp at h
      · rename_i hb
        obtain ⟨e1, es, rfl, hl, hr, hi⟩ := readE_split k _ _ l r' h he
        obtain ⟨e2, hw⟩ := rWord_split e1
        obtain ⟨e3, hby⟩ := rByte_split e2
        obtain ⟨e4, ht⟩ := rText_split e3
        refine ⟨_ :: es, by rw [List.append_assoc]; rfl, by rw [List.length_cons, hl], ?_, ?_⟩
        · rw [List.flatMap_cons, ht, hby, hw, hr, entB, mkS_size, mkS_list]
          have hbb : (rByte (rText 32 r).2).1 = if ((rByte (rText 32 r).2).1 == 1) = true then 1 else 0 := by
            by_cases h1 : (rByte (rText 32 r).2).1 = 1
            · rw [h1]; rfl
            · have h2 : (rByte (rText 32 r).2).1 = 0 := by
                rcases Classical.em ((rByte (rText 32 r).2).1 = 0) with h | h
                · exact h
                · exact absurd ⟨h, h1⟩ hb
              rw [h2]; rfl
          simp only
          rw [← hbb]
          simp
        · intro x hx
          rcases List.mem_cons.1 hx with rfl | hx
          · exact rWord_lt _
          · exact hi x hx
    · rw [readE, if_pos h0] at h
      simp only [Prod.mk.injEq, Option.some.injEq] at h
      rw [h.2] at h0
      exact absurd he h0
theorem readP_split : ∀ (k : Nat) (r : Rd) (acc l : List Nat) (r' : Rd), readP k r acc = (l, r') → r'.err = 0 → r.err = 0 ∧ ∃ ps : List Nat, l = acc ++ ps ∧ ps.length = k ∧ r.rest = ps.flatMap wide ++ r'.rest ∧ ∀ x ∈ ps, x < 18446744073709551616
  | 0, r, acc, l, r', h, he => by
    rw [readP] at h
    simp only [Prod.mk.injEq] at h
    obtain ⟨rfl, rfl⟩ := h
    exact ⟨he, [], by simp, rfl, by simp, fun x hx => by cases hx⟩
  | k + 1, r, acc, l, r', h, he => by
    by_cases h0 : r.err = 0
    · refine ⟨h0, ?_⟩
      rw [readP, if_neg (by rw [h0]; simp)] at h
      obtain ⟨e1, ps, rfl, hl, hr, hi⟩ := readP_split k _ _ l r' h he
      obtain ⟨e2, hw⟩ := rWord_split e1
      refine ⟨_ :: ps, by rw [List.append_assoc]; rfl, by rw [List.length_cons, hl], ?_, ?_⟩
      · rw [List.flatMap_cons, hw, hr]; simp
      · intro x hx
        rcases List.mem_cons.1 hx with rfl | hx
        · exact rWord_lt _
        · exact hi x hx
    · rw [readP, if_pos h0] at h
      simp only [Prod.mk.injEq] at h
      rw [h.2] at h0
      exact absurd he h0
theorem rEnd_zero {r : Rd} (h : rEnd r = 0) : r.err = 0 ∧ r.rest = [] := by
  unfold rEnd at h
  split at h
  · rename_i h1; exact absurd h h1
  · rename_i h1
    split at h
    · cases h
    · rename_i h2; exact ⟨by simpa using h1, List.eq_nil_of_length_eq_zero (by omega)⟩
theorem du_sd (x : Nat) (h : x < 18446744073709551616) : du (sd x) = x := by
  unfold sd du; split <;> omega
theorem sd_range (x : Nat) (h : x < 18446744073709551616) : -9223372036854775808 ≤ sd x ∧ sd x ≤ 9223372036854775807 := by
  unfold sd; split <;> omega
/-- What Decode reads has just these bytes. -/
theorem dec_sound {xs : List UInt8} {o : Ob} (h : decF xs = some o) : obB o = xs ∧ obCheck o = 0 ∧ Wf o := by
  unfold decF at h
  split at h
  · cases h
  · rename_i p hp
    split at h
    · rename_i hc
      obtain ⟨hend, hc⟩ := hc
      obtain ⟨he, hr⟩ := rEnd_zero hend
      cases h
      unfold preF at hp
      split at hp
      · rename_i h1
        obtain ⟨b, t, rfl, hR⟩ := rByte_zero (xs := xs) (by rw [h1]; decide)
        rw [hR] at h1 hp
        have hb : b = 98 := h1
        subst hb
        have h2 : rRaw (t.length : Int) ⟨t, 0⟩ = (t, ⟨[], 0⟩) := by
          simp only [rRaw]
          rw [if_neg (by simp), if_neg (by omega), if_neg (by omega)]
          simp
        simp only at hp
        rw [h2] at hp
        cases hp
        exact ⟨rfl, hc, trivial⟩
      · split at hp
        · rename_i h1
          obtain ⟨b, t, rfl, hR⟩ := rByte_zero (xs := xs) (by rw [h1]; decide)
          rw [hR] at h1 hp
          have hb : b = 116 := h1
          subst hb
          simp only at hp
          cases hq : readE (rUint ⟨t, 0⟩).1 (rUint ⟨t, 0⟩).2 [] with
          | mk a r' =>
            rw [hq] at hp
            cases a with
            | none => simp at hp
            | some l =>
              simp only [Option.map_some, Option.some.injEq] at hp
              subst hp
              obtain ⟨e1, es, hl, hk, hrr, hi⟩ := readE_split _ _ _ _ _ hq he
              obtain ⟨e2, hu⟩ := rUint_split e1
              simp only [List.nil_append] at hl
              subst hl
              simp only at hr
              refine ⟨?_, hc, hi⟩
              show treeB l = _
              simp only at hu
              rw [treeB, hu, hrr, hr, hk]
              simp
        · split at hp
          · rename_i h1
            obtain ⟨b, t, rfl, hR⟩ := rByte_zero (xs := xs) (by rw [h1]; decide)
            rw [hR] at h1 hp
            have hb : b = 99 := h1
            subst hb
            simp only [Option.some.injEq] at hp
            subst hp
            simp only [afterC] at he hr hc ⊢
            obtain ⟨x1, x2⟩ := rText_split he
            obtain ⟨d1, d2⟩ := rWord_split x1
            obtain ⟨a1, a2⟩ := rText_split d1
            obtain ⟨p1, ps, hl, hk, hrr, hi⟩ := readP_split _ _ _ _ _ (Prod.eta _).symm a1
            obtain ⟨u1, u2⟩ := rUint_split p1
            obtain ⟨w1, w2⟩ := rWord_split u1
            simp only [List.nil_append] at hl
            refine ⟨?_, hc, rWord_lt _, by rw [hl]; exact hi, (sd_range _ (rWord_lt _)).1, (sd_range _ (rWord_lt _)).2⟩
            show commitB _ _ _ _ _ = _
            simp only at w2
            rw [commitB, du_sd _ (rWord_lt _)]
            conv => rhs; rw [w2, u2, hrr, a2, d2, x2, hr]
            rw [hl, hk]
            simp
          · cases hp
    · cases h
/-- One byte more, one byte less: no tree, no commit. -/
theorem dec_more {xs : List UInt8} {o : Ob} (h : decF xs = some o) (hb : ∀ l, o ≠ .blob l) (m : UInt8) : decF (xs ++ [m]) = none := by
  obtain ⟨h1, h2, h3⟩ := dec_sound h
  rw [← h1, decF, pre_whole o h3 h2 [m] (.inr hb)]
  simp [rEnd]
theorem dec_less {xs : List UInt8} {o : Ob} {m : UInt8} (h : decF (xs ++ [m]) = some o) (hb : ∀ l, o ≠ .blob l) : decF xs = none := by
  cases hq : decF xs with
  | none => rfl
  | some o' =>
    by_cases hb' : ∀ l, o' ≠ .blob l
    · rw [dec_more hq hb' m] at h
      cases h
    · obtain ⟨l, hl⟩ := Classical.not_forall.1 hb'
      have hl : o' = .blob l := Classical.not_not.1 hl
      subst hl
      have h1 := (dec_sound hq).1
      rw [← h1] at h
      have : obB (.blob l) ++ [m] = 98 :: (l ++ [m]) := rfl
      rw [this, decF, pre_blob] at h
      simp only at h
      split at h
      · cases h; exact absurd rfl (hb _)
      · cases h
end Go.Proofs.Ytccphnkdnifpfaa

namespace Go.Proofs.Ytccphnkdnifpfaa
set_option linter.unnecessarySimpa false
open Go.Joins Go.ChangeShapes Go.WideShapes Go.ChangeAt Go.RowKit Go.Deep
set_option linter.unusedVariables false
set_option linter.unusedSimpArgs false
set_option maxRecDepth 100000

theorem take_one {α : Type} (l : List α) (i : Nat) (u : α) (h : l[i]? = some u) : (l.drop i).take 1 = [u] := by
  have hi := (List.getElem?_eq_some_iff.1 h).1
  rw [List.drop_eq_getElem_cons hi, List.take_succ_cons, List.take_zero]
  rw [List.getElem?_eq_getElem hi] at h
  rw [Option.some.inj h]
/-- A struct by value: its fields' cells, each with what it reads as. -/
theorem open_fields {H : Type} {enc : TypeId × Value → H} {P : Program} {W : World} {t : TypeId} {v : Value} {d : DataW H} {p : List MemPlace} {r : Reach} {b0 : Nat} {fs : Array Field}
    (ht : P.underlying t = some (.struct fs)) (hone : oneCellFields P fs = true) (hC : P.cellsOf t = fs.size) (hval : Value.okWide P W r b0 t v) (h : DataW.Trod enc P W 0 (fun _ => true) true t v d p) :
    ∃ cs : Array Value, v = .agg cs ∧ cs.size = fs.size ∧ ∀ (i : Nat) (f : Field), fs[i]? = some f → ∃ (u : Value) (y : DataW H × List MemPlace) (n : Nat), cs[i]? = some u ∧ DataW.trod enc P W 0 (fun _ => true) true n f.type [u] = some y := by
  obtain ⟨cs, rfl, hsz⟩ := okWide_struct ht hval
  obtain ⟨fuel, hf⟩ := h
  obtain ⟨ys, n, -, -, hlen, hyl, hfd⟩ := DataW.trod_struct ht hf
  refine ⟨cs, rfl, hsz.trans hC, fun i f hi => ?_⟩
  obtain ⟨o, k⟩ := hone_of hone i f hi
  have hil : i < fs.size := (Array.getElem?_eq_some_iff.1 hi).1
  have hic : i < cs.size := by rw [hsz, hC]; exact hil
  have hiy : i < ys.length := by rw [hyl]; exact hil
  have h1 := hfd i f hi
  rw [o, k, take_one _ i (cs[i]'hic) (by simp [Value.cells, hic]), List.getElem?_eq_getElem hiy] at h1
  exact ⟨_, _, n, Array.getElem?_eq_getElem hic, h1⟩

theorem read_u64s {H : Type} {enc : TypeId × Value → H} {P : Program} {W : World} {t e : TypeId} {v : Value} {fuel : Nat} {y : DataW H × List MemPlace}
    (ht : P.underlying t = some (.slice e)) (he : P.underlying e = some (.int .u64)) (hc : P.cellsOf e = 1) (hf : DataW.trod enc P W 0 (fun _ => true) true fuel t [v] = some y) :
    ∃ A n c xs, v = .slice A n c ∧ Sl u64v W (.slice A n c) xs ∧ (∀ x ∈ xs, x < 18446744073709551616) ∧ n ≤ maxLen := by
  rcases open_ints ht he hc hf with ⟨hcs, _⟩ | ⟨x, l, c, zs, hcs, _, hl, hm, hz, hx, hcell, hwz⟩
  · cases hcs
    exact ⟨_, _, _, [], rfl, Holds.nil W, (fun x hx => by cases hx), by unfold maxLen; omega⟩
  · cases hcs
    simp only [if_true] at hz
    have hzl : (zs.take l).length = l := by rw [List.length_take]; omega
    have hwf : ∀ z ∈ zs, 0 ≤ z ∧ z ≤ 18446744073709551615 := fun z hzm => by simpa [Lit.wf, IntKind.min, IntKind.max, IntKind.signed, IntKind.bits] using hwz z hzm
    refine ⟨_, _, _, (zs.take l).map Int.toNat, rfl, ?_, ?_, by omega⟩
    · refine ⟨_, _, by rw [List.length_map, hzl], by rw [List.length_map, hzl]; exact hl, hm, fun hp => ?_⟩
      have hpos : 0 < zs.length := by
        simp only [List.length_map, List.length_take] at hp
        omega
      obtain ⟨b, off, spot⟩ := x
      have hc0 := hcell 0 hpos
      have hspot : spot = none := by simpa [Addr.add] using World.cell?_spot hc0
      subst hspot
      refine ⟨b, off, rfl, fun j u hj => ?_⟩
      have hjl : j < l := by
        have := (List.getElem?_eq_some_iff.1 hj).1
        simp only [List.length_map, hzl] at this
        exact this
      have hcj := hcell j (by omega)
      rw [Addr.add_lit] at hcj
      rw [hcj]
      have hzj : zs.getD j 0 ∈ zs := by
        simp only [List.getD, List.getElem?_eq_getElem (show j < zs.length by omega), Option.getD_some]
        exact List.getElem_mem _
      have hb := hwf _ hzj
      rw [List.getElem?_eq_getElem (by simp only [List.length_map, hzl]; exact hjl)] at hj
      simp only [List.getElem_map, List.getElem_take, Option.some.injEq] at hj
      rw [← hj]
      have hg : zs[j]'(by omega) = zs.getD j 0 := by simp [List.getD, List.getElem?_eq_getElem (show j < zs.length by omega)]
      rw [hg, u64v]
      congr 2
      omega
    · intro x hx
      obtain ⟨z, hz, rfl⟩ := List.mem_map.1 hx
      have := hwf z (List.mem_of_mem_take hz)
      omega


theorem open_commit {H : Type} {enc : TypeId × Value → H} {W : World} {v : Value} {d : DataW H} {p : List MemPlace} {r : Reach} {b0 : Nat}
    (hval : Value.okWide Try.prog W r b0 44 v) (h : DataW.Trod enc Try.prog W 0 (fun _ => true) true 44 v d p) :
    ∃ (t : Nat) (A : Option Addr) (n c : Nat) (ps : List Nat) (a : ByteArray) (dt : Int) (x : ByteArray), v = .agg #[.int .u64 (t : Int), .slice A n c, .string a, .int .i64 dt, .string x] ∧ Sl u64v W (.slice A n c) ps ∧ (∀ q ∈ ps, q < 18446744073709551616) ∧
      t < 18446744073709551616 ∧ n ≤ maxLen ∧ a.size ≤ maxLen ∧ x.size ≤ maxLen ∧ -9223372036854775808 ≤ dt ∧ dt ≤ 9223372036854775807 := by
  obtain ⟨cs, rfl, hsz, hf⟩ := open_fields Try.underlying44 (by kernel_rfl) (by kernel_rfl) hval h
  obtain ⟨u0, y0, n0, e0, h0⟩ := hf 0 _ rfl
  obtain ⟨u1, y1, n1, e1, h1⟩ := hf 1 _ rfl
  obtain ⟨u2, y2, n2, e2, h2⟩ := hf 2 _ rfl
  obtain ⟨u3, y3, n3, e3, h3⟩ := hf 3 _ rfl
  obtain ⟨u4, y4, n4, e4, h4⟩ := hf 4 _ rfl
  obtain ⟨t, q0, -, w0⟩ := DataW.trod_int Try.underlying32 h0
  obtain ⟨A, n, c, ps, rfl, s1, s2, s3⟩ := read_u64s Try.underlying42 Try.underlying32 (by kernel_rfl) h1
  obtain ⟨a, q2, -, w2⟩ := DataW.trod_string Try.underlying9 h2
  obtain ⟨dt, q3, -, w3⟩ := DataW.trod_int Try.underlying2 h3
  obtain ⟨x, q4, -, w4⟩ := DataW.trod_string Try.underlying9 h4
  cases q0
  cases q2
  cases q3
  cases q4
  have hw0 : 0 ≤ t ∧ t ≤ 18446744073709551615 := by simpa [Lit.wf, IntKind.min, IntKind.max, IntKind.signed, IntKind.bits] using w0
  have hw3 : -9223372036854775808 ≤ dt ∧ dt ≤ 9223372036854775807 := by simpa [Lit.wf, IntKind.min, IntKind.max, IntKind.signed, IntKind.bits] using w3
  refine ⟨t.toNat, A, n, c, ps, a, dt, x, ?_, s1, s2, by omega, s3, w2, w4, hw3.1, hw3.2⟩
  have ht : ((t.toNat : Nat) : Int) = t := by omega
  rw [ht]
  obtain ⟨l⟩ := cs
  match l, hsz with
  | [c0, c1, c2, c3, c4], _ =>
    simp at e0 e1 e2 e3 e4
    rw [e0, e1, e2, e3, e4]
end Go.Proofs.Ytccphnkdnifpfaa

namespace Go.Proofs.Ytccphnkdnifpfaa
set_option linter.unnecessarySimpa false
open Go.RowKit
set_option linter.unusedVariables false
set_option linter.unusedSimpArgs false
set_option maxRecDepth 100000

theorem IsOb.chg {S : Nat → Prop} {w w' : World} {base : Nat} {v : Value} {o : Ob} (h : IsOb w base v o) (hc : Chg S w w') (hs : ∀ k, base ≤ k → ¬ S k) : IsOb w' base v o := by
  cases o with
  | blob l =>
    obtain ⟨s, rfl, h⟩ := h
    exact ⟨s, rfl, h.chg hc (fun b hb => hs b (h.block b hb).1)⟩
  | tree l =>
    obtain ⟨s, rfl, h⟩ := h
    exact ⟨s, rfl, ownsRow_chg h hc (fun b hb => hs b (World.ownsRow.lt h b hb).1)⟩
  | commit t ps a d x =>
    obtain ⟨s, rfl, h⟩ := h
    exact ⟨s, rfl, ownsRow_chg h hc (fun b hb => hs b (World.ownsRow.lt h b hb).1)⟩
theorem IsOb.no {w w' : World} {base : Nat} {v : Value} {o : Ob} (h : IsOb w base v o) (hc : Chg No w w') : IsOb w' base v o := h.chg hc (fun _ _ x => x)
theorem encodes_ob (w : World) (base : Nat) (v : Value) (o : Ob) (h : IsOb w base v o) (hc : obCheck o = 0) (hw : Wf o) : Encodes w v 0 (obB o) := by
  cases o with
  | blob l =>
    obtain ⟨s, rfl, h⟩ := h
    obtain ⟨A, n, c, rfl, HL, HO⟩ := h.form
    have h4 : ¬ 4096 < n := by
      intro h4
      have : obCheck (.blob l) = 3 := if_pos (by rw [HL.out]; exact h4)
      rw [this] at hc
      cases hc
    have := encodes_blob w A n c l HO.out.bytes HL.out
    rw [if_neg h4, if_neg h4] at this
    exact this
  | tree l =>
    obtain ⟨s, rfl, h⟩ := h
    obtain ⟨A, c, rfl⟩ := ownsRow_form h
    have hc : treeF l = 0 := hc
    have := encodes_tree w A l.length c l (Holds.ofOwn h) (fun x hx => by have := ((treeF_zero hc).2 x hx).1; omega) hw
    rw [if_pos hc, hc] at this
    exact this
  | commit t ps a d x =>
    obtain ⟨s, rfl, h⟩ := h
    obtain ⟨A, c, rfl⟩ := ownsRow_form h
    have hc : ((commitF t ps a x : Nat) : Int) = 0 := hc
    have hc0 : commitF t ps a x = 0 := by omega
    obtain ⟨-, q2, -, q4, -, q6, -⟩ := commitF_zero hc0
    have hs : Sl u64v w (.slice A ps.length c) ps := Holds.ofOwn h
    have := encodes_commit w t A ps.length c ps (mkS a) d (mkS x) hs (by omega) (by rw [mkS_size]; omega) (by rw [mkS_size]; omega) hw.1 hw.2.1
    rw [mkS_list, mkS_list, if_pos hc0, hc0] at this
    exact this
def obKind : Ob → Nat
  | .blob _ => 1
  | .tree _ => 2
  | .commit .. => 3
theorem kind_ob (w : World) (base : Nat) (v : Value) (o : Ob) (w1 : World) (h : IsOb w base v o) : Calls Try.prog 47 #[v] w1 fun e w' => e = .returned (.int .i64 (obKind o : Nat)) ∧ w' = w1 := by
  cases o with
  | blob l =>
    obtain ⟨s, rfl, h⟩ := h
    exact kind_blob w1 _
  | tree l =>
    obtain ⟨s, rfl, h⟩ := h
    exact kind_tree w1 _
  | commit t ps a d x =>
    obtain ⟨s, rfl, h⟩ := h
    exact kind_commit w1 _ _ _ _ _
theorem obKind_pos (o : Ob) : obKind o ≠ 0 := by cases o <;> simp [obKind]
def isBlob : Ob → Bool
  | .blob _ => true
  | _ => false
theorem isBlob_no {o : Ob} (h : isBlob o = false) : ∀ l, o ≠ .blob l := by
  rintro l rfl
  cases h
theorem ta_ob (w : World) (base : Nat) (v : Value) (o : Ob) (h : IsOb w base v o) : ∃ A n c, ∀ w, Sem.run Try.prog (Instr.typeAssert v 38 36 true) w = .ok (.tuple #[.agg #[.slice A n c], .bool (isBlob o)]) w := by
  cases o with
  | blob l =>
    obtain ⟨s, rfl, h⟩ := h
    obtain ⟨A, n, c, rfl, -, -⟩ := h.form
    exact ⟨A, n, c, fun w => ta_blob_blob w _⟩
  | tree l =>
    obtain ⟨s, rfl, h⟩ := h
    exact ⟨_, _, _, fun w => ta_tree_blob w _⟩
  | commit t ps a d x =>
    obtain ⟨s, rfl, h⟩ := h
    exact ⟨_, _, _, fun w => ta_commit_blob w _⟩
end Go.Proofs.Ytccphnkdnifpfaa

namespace Go.Proofs.Ytccphnkdnifpfaa
set_option linter.unnecessarySimpa false
open Go.RowKit Go.Shelf
set_option linter.unusedVariables false
set_option linter.unusedSimpArgs false
set_option maxRecDepth 100000

set_option maxHeartbeats 1600000 in
theorem get_some (w : World) (S : Nat → Prop) (base s mp j d m wr : Nat) (th : Bool) (ps : List (List UInt8)) (h : SD w S base s mp j d m wr th ps) (hn : (encF ps).length ≤ 4194304) (i q : Nat) (hq : findI i (ps.map idF) = some q) (hlen : (ps.getD q []).length ≤ 1000000) (o : Ob) (hdec : decF (ps.getD q []) = some o) :
    Calls Try.prog 12 #[.pointer (some ⟨s, 0, none⟩), .int .u64 (i : Int)] w fun e w' => (∃ v b, e = .returned (.tuple #[v, .int .i64 0]) ∧ IsOb w' b v o ∧ w.heap.size ≤ b) ∧ Chg No w w' := by
  have HBY := Lib.hid (sbytes_calls w S base s mp j d m wr th ps h hn i)
  have HBR : Hid (∀ e w', BytesR w ps i e w' → ∃ v, e = .returned (.tuple #[v, .int .i64 0]) ∧ OwnB w' w.heap.size v (ps.getD q [])) := fun e w' h => by rw [BytesR, hq] at h; exact h
  have HD := Lib.hid hdec
  generalize ps.getD q [] = row at *
  clear h hq hdec
  go_enter Try.func12, Try.ntmps12
  go_wp2_with fail
  refine HBY.out.mono ?_
  rintro e w1 ⟨hr, hc1⟩
  obtain ⟨v1, rfl, ho1⟩ := HBR.out _ _ hr
  obtain ⟨A1, n1, c1, rfl, HL1, HO1⟩ := ho1.form
  have HC1 := Lib.hid hc1
  have HDE := Lib.hid (decode_calls w1 A1 n1 c1 row HO1.out.bytes HL1.out (by have := HL1.out; omega))
  clear hr hc1 ho1 HBY HBR
  go_wp2_with fail
  refine HDE.out.mono ?_
  rintro e w2 ⟨hdr, hc2⟩
  rw [HD.out] at hdr
  obtain ⟨v2, rfl, hob⟩ : ∃ v, e = .returned (.tuple #[v, .int .i64 0]) ∧ IsOb w2 w1.heap.size v o := hdr
  have HOB := Lib.hid hob
  have HC2 := Lib.hid (HC1.out.no hc2)
  have hz := Lib.hid HC1.out.size
  clear hob hc2
  go_wp2
  go_ret2
  exact ⟨⟨_, _, rfl, HOB.out, hz.out⟩, HC2.out⟩
set_option maxHeartbeats 1600000 in
theorem get_none (w : World) (S : Nat → Prop) (base s mp j d m wr : Nat) (th : Bool) (ps : List (List UInt8)) (h : SD w S base s mp j d m wr th ps) (hn : (encF ps).length ≤ 4194304) (i : Nat) (hq : findI i (ps.map idF) = none) :
    Calls Try.prog 12 #[.pointer (some ⟨s, 0, none⟩), .int .u64 (i : Int)] w fun e w' => e = .returned (.tuple #[.nilIface, .int .i64 4]) ∧ Chg No w w' := by
  have HBY := Lib.hid (sbytes_calls w S base s mp j d m wr th ps h hn i)
  have HBR : Hid (∀ e w', BytesR w ps i e w' → e = .returned (.tuple #[.slice none 0 0, .int .i64 4])) := fun e w' h => by rw [BytesR, hq] at h; exact h
  clear h hq
  go_enter Try.func12, Try.ntmps12
  go_wp2_with fail
  refine HBY.out.mono ?_
  rintro e w1 ⟨hr, hc1⟩
  obtain rfl := HBR.out _ _ hr
  have HC1 := Lib.hid hc1
  clear hr hc1 HBY HBR
  go_wp2
  go_ret2
  exact ⟨rfl, HC1.out⟩
set_option maxHeartbeats 1600000 in
theorem blob_blob (w : World) (S : Nat → Prop) (base s mp j d m wr : Nat) (th : Bool) (ps : List (List UInt8)) (h : SD w S base s mp j d m wr th ps) (hn : (encF ps).length ≤ 4194304) (i q : Nat) (hq : findI i (ps.map idF) = some q) (hlen : (ps.getD q []).length ≤ 1000000) (l : List UInt8) (hdec : decF (ps.getD q []) = some (.blob l)) :
    Calls Try.prog 16 #[.pointer (some ⟨s, 0, none⟩), .int .u64 (i : Int)] w fun e w' => (∃ v b, e = .returned (.tuple #[.agg #[v], .int .i64 0]) ∧ OwnB w' b v l ∧ w.heap.size ≤ b) ∧ Chg No w w' := by
  have X1 := (Chg.refl No w).alloc (.cells #[.slice none 0 0] 36)
  have HG := Lib.hid (get_some _ S base s mp j d m wr th ps (h.no X1) hn i q hq hlen _ hdec)
  have B4 := Boxed.new w 36 (.slice none 0 0)
  have HX1 := Lib.hid X1
  have HB4 := Lib.hid B4
  have fb := fun w v => ta_blob_blob w v
  clear h hq hdec X1 B4
  go_enter Try.func16, Try.ntmps16
  go_wp2_with fail
  refine HG.out.mono ?_
  rintro e w1 ⟨⟨v1, b1, rfl, ⟨s1, rfl, ho1⟩, hb1⟩, hc1⟩
  have HB41 : Hid (Boxed w1 w.heap.size 36 (.slice none 0 0)) := hc1.heap HB4.out (fun x => x)
  have HC1 := Lib.hid (HX1.out.no hc1)
  obtain ⟨A2, n2, c2, rfl, HL2, HO1⟩ := ho1.form
  have c4 := HB41.out.cell
  have f4 := HB41.out.frozen
  unfold blobV
  clear ho1 hc1 HG HB4
  have hne : ¬ w.heap.size = w1.heap.size := by have := HB41.out.lt; omega
  have c4' : ∀ o, (w1.alloc o).cell? ⟨w.heap.size, 0, none⟩ = some (.slice none 0 0) := fun o => ((Chg.refl No w1).alloc o).cell c4 (fun x => x)
  have f4' : ∀ o, (w1.alloc o).frozen? ⟨w.heap.size, 0, none⟩ = false := fun o => (HB41.out.alloc o).frozen
  have HB42 : Hid (Boxed (w1.alloc (.cells #[.slice A2 n2 c2] 36)) w.heap.size 36 (.slice none 0 0)) := HB41.out.alloc _
  have hb1' : w.heap.size ≤ b1 := by rw [World.size_alloc] at hb1; omega
  have hb1s : w.heap.size + 1 ≤ b1 := by rw [World.size_alloc] at hb1; omega
  clear hb1
  go_wp2
  have e4 := (HB42.out.set (.slice A2 n2 c2)).cell
  refine bodyPost_ret (v := .tuple #[.agg #[.slice A2 n2 c2], .int .i64 0]) (by simp [results, Try.f16, go_sem, e4]) rfl ⟨⟨_, b1, rfl, ?_, hb1'⟩, (HC1.out.alloc _).setCell (p := ⟨w.heap.size, 0, none⟩) (.inl (Nat.le_refl _)) _⟩
  exact HO1.out.chg (((Chg.refl (One w.heap.size) w1).alloc _).setCell (p := ⟨w.heap.size, 0, none⟩) (.inr rfl) _) (fun x hx (e : x = w.heap.size) => by have := (HO1.out.lt x hx); omega)
set_option maxHeartbeats 1600000 in
theorem tree_blob (w : World) (S : Nat → Prop) (base s mp j d m wr : Nat) (th : Bool) (ps : List (List UInt8)) (h : SD w S base s mp j d m wr th ps) (hn : (encF ps).length ≤ 4194304) (i q : Nat) (hq : findI i (ps.map idF) = some q) (hlen : (ps.getD q []).length ≤ 1000000) (l : List UInt8) (hdec : decF (ps.getD q []) = some (.blob l)) :
    Calls Try.prog 17 #[.pointer (some ⟨s, 0, none⟩), .int .u64 (i : Int)] w fun e w' => e = .returned (.tuple #[.agg #[.slice none 0 0], .int .i64 170]) ∧ Chg No w w' := by
  have X1 := (Chg.refl No w).alloc (.cells #[.slice none 0 0] 55)
  have HG := Lib.hid (get_some _ S base s mp j d m wr th ps (h.no X1) hn i q hq hlen _ hdec)
  have B4 := Boxed.new w 55 (.slice none 0 0)
  have HX1 := Lib.hid X1
  have HB4 := Lib.hid B4
  have fb := fun w v => ta_blob_tree w v
  clear h hq hdec X1 B4
  go_enter Try.func17, Try.ntmps17
  go_wp2_with fail
  refine HG.out.mono ?_
  rintro e w1 ⟨⟨v1, b1, rfl, ⟨s1, rfl, ho1⟩, hb1⟩, hc1⟩
  have HB41 : Hid (Boxed w1 w.heap.size 55 (.slice none 0 0)) := hc1.heap HB4.out (fun x => x)
  have HC1 := Lib.hid (HX1.out.no hc1)
  obtain ⟨A2, n2, c2, rfl, HL2, HO1⟩ := ho1.form
  have c4 := HB41.out.cell
  have f4 := HB41.out.frozen
  unfold blobV
  clear ho1 hc1 HG HB4
  have hne : ¬ w.heap.size = w1.heap.size := by have := HB41.out.lt; omega
  have c4' : ∀ o, (w1.alloc o).cell? ⟨w.heap.size, 0, none⟩ = some (.slice none 0 0) := fun o => ((Chg.refl No w1).alloc o).cell c4 (fun x => x)
  have f4' : ∀ o, (w1.alloc o).frozen? ⟨w.heap.size, 0, none⟩ = false := fun o => (HB41.out.alloc o).frozen
  have HB42 : Hid (Boxed (w1.alloc (.cells #[.slice none 0 0] 55)) w.heap.size 55 (.slice none 0 0)) := HB41.out.alloc _
  clear hb1
  go_wp2
  have e4 := (HB42.out.set (.slice none 0 0)).cell
  exact bodyPost_ret (v := .tuple #[.agg #[.slice none 0 0], .int .i64 170]) (by simp [results, Try.f17, go_sem, e4]) rfl ⟨rfl, (HC1.out.alloc _).setCell (p := ⟨w.heap.size, 0, none⟩) (.inl (Nat.le_refl _)) _⟩
end Go.Proofs.Ytccphnkdnifpfaa

namespace Go.Proofs.Ytccphnkdnifpfaa
set_option linter.unnecessarySimpa false
open Go.RowKit Go.Shelf
set_option linter.unusedVariables false
set_option linter.unusedSimpArgs false
set_option maxRecDepth 100000

theorem dec_blob (l : List UInt8) (h : l.length ≤ 4096) : decF (98 :: l) = some (.blob l) := dec_whole (.blob l) trivial (by rw [obCheck, if_neg (by omega)])
theorem enc_blob (w : World) (A : Option Addr) (n c : Nat) (l : List UInt8) (hb : Bytes w (.slice A n c) l) (hl : l.length = n) (h : l.length ≤ 4096) : Encodes w (blobV (.slice A n c)) 0 (98 :: l) := by
  have := encodes_blob w A n c l hb hl
  rwa [if_neg (by omega : ¬ 4096 < n), if_neg (by omega : ¬ 4096 < n)] at this
/-- A store opened on a disk that is just made. -/
theorem made_open (w w1 : World) (hc : Chg No w w1) (hD : DiskAt w1 (w.heap.size + 1) w.heap.size 0 none) (hz : w.heap.size + 2 ≤ w1.heap.size) :
    Calls Try.prog 10 #[.pointer (some ⟨w.heap.size + 1, 0, none⟩)] w1 fun e w' => ∃ s mp j S, e = .returned (.tuple #[.pointer (some ⟨s, 0, none⟩), .int .i64 0]) ∧ SD w' S w.heap.size s mp j (w.heap.size + 1) w.heap.size 0 false [] ∧ Chg No w w' := by
  refine (sopen_calls w1 w.heap.size (w.heap.size + 1) w.heap.size 0 hD (by omega) (Nat.le_refl _) (by omega) (by omega) (by omega) (by omega)).mono ?_
  rintro e w' ⟨s, mp, j, S, rfl, hS, hc2⟩
  exact ⟨s, mp, j, S, rfl, hS, hc.newer hc2 (fun i hi => by rcases hi with rfl | rfl <;> omega)⟩
theorem findI_self (i : Nat) (r : List Nat) : findI i (i :: r) = some 0 := by rw [findI, if_pos rfl]
set_option maxHeartbeats 6400000 in
theorem swakes_calls (w : World) : Calls Try.prog 8 #[] w fun e w' => e = .returned (.bool true) ∧ Chg No w w' := by
  have kc := fun (w : World) (C : Array Value) (n c : Nat) => Lib.run_convert_bytes_const (P := Try.prog) w 30 5 C n c Try.underlying30 Try.underlying5
  go_enter Try.func8, Try.ntmps8
  go_wp2_with fail
  refine (new_calls w).mono ?_
  rintro e w1 ⟨rfl, hD, hc1⟩
  have HMO := Lib.hid (made_open w w1 hc1 hD (by have := hD.cells; have h1 := (Array.getElem?_eq_some_iff.1 hD.1).1; omega))
  clear hD hc1
  go_wp2_with fail
  refine HMO.out.mono ?_
  rintro e w2 ⟨s, mp, j, S, rfl, hS, hc2⟩
  have HS2 := Lib.hid hS
  have HC2 := Lib.hid hc2
  have XA := (Chg.refl No w2).alloc (.cells #[.int .u8 97, .int .u8 98] 5 (2, 3))
  have HEN : Hid (Encodes (w2.alloc (.cells #[.int .u8 97, .int .u8 98] 5 (2, 3))) (blobV (.slice (some ⟨w2.heap.size, 0, none⟩) 2 2)) 0 [98, 97, 98]) := by
    show Encodes _ _ _ _
    exact enc_blob _ _ _ _ [97, 98] (Bytes.litMark 2 2 rfl (Nat.le_refl _) (by unfold maxLen; omega)) rfl (by decide)
  have HPN := Lib.hid (put_new _ S w.heap.size s mp j (w.heap.size + 1) w.heap.size 0 false [] (HS2.out.no XA) _ [98, 97, 98] (by decide) HEN.out rfl (by rw [recF_small [98, 97, 98] (by decide)]; simp [encF]) (by decide) (by decide))
  rw [List.nil_append] at HPN
  have HDC := Lib.hid (dec_blob [97, 98] (by decide))
  have HEL : Hid ((encF [[98, 97, 98]]).length ≤ 4194304) := by simp [Hid, encF, recF_small [98, 97, 98] (by decide)]
  have HFI := Lib.hid (findI_self (idF [98, 97, 98]) [])
  have HLT := Lib.hid hS.lt
  obtain ⟨ib, hib⟩ : ∃ i, i = idF [98, 97, 98] := ⟨_, rfl⟩
  have HIB := Lib.hid hib
  rw [← hib] at HPN HFI
  clear hS hc2 HMO hib XA
  go_wp2_with fail
  refine HPN.out.mono ?_
  rintro e w3 ⟨rfl, hS3, hc3⟩
  have HS3 := Lib.hid hS3
  have HC3 : Hid (Chg No w w3) := (HC2.out.alloc _).newer hc3 (fun i hi => (HLT.out i hi).1)
  have hcz := hc3.size
  clear hS3 hc3 HPN
  have hsz : Hid (w2.heap.size < w3.heap.size) := by
    have := hcz
    rw [World.size_alloc] at this
    exact this
  have HF3 : Hid (findI ib (([[98, 97, 98]] : List (List UInt8)).map idF) = some 0) := by rw [Hid, HIB.out]; exact findI_self _ _
  have HBL := Lib.hid (blob_blob w3 _ _ _ _ _ _ _ _ _ _ HS3.out HEL.out ib 0 HF3.out (by decide) [97, 98] HDC.out)
  go_wp2_with fail
  refine HBL.out.mono ?_
  rintro e w4 ⟨⟨v4, b4, rfl, ho4, hb4⟩, hc4⟩
  obtain ⟨A4, n4, c4, rfl, HL4, HO4⟩ := ho4.form
  have HS4 := Lib.hid (HS3.out.no hc4)
  have HC4 := Lib.hid (HC3.out.no hc4)
  clear ho4 hc4 HBL HS3 HC3
  have HTR := Lib.hid (fun (o : Obj) => tree_blob (w4.alloc o) _ _ _ _ _ _ _ _ _ _ (HS4.out.no ((Chg.refl No w4).alloc o)) HEL.out ib 0 HF3.out (by decide) [97, 98] HDC.out)
  go_wp2_with fail
  refine (HTR.out _).mono ?_
  rintro e w5 ⟨rfl, hc5⟩
  have HC45 := Lib.hid (((Chg.refl No w4).alloc (.cells #[.slice A4 n4 c4] 36)).no hc5)
  have c5 : ∀ o, (w5.alloc o).cell? ⟨w4.heap.size, 0, none⟩ = some (.slice A4 n4 c4) := fun o => Boxed.cell (Boxed.alloc (W := w5) (v := .slice A4 n4 c4) (hc5.heap (Boxed.new w4 _ _) (fun x => x)) o)
  have HC5 := Lib.hid (HC4.out.no HC45.out)
  have HS5 := Lib.hid (HS4.out.no HC45.out)
  have ht1 := fun o => ((HO4.out.bytes.no HC45.out).no ((Chg.refl No w5).alloc o)).text (P := Try.prog) (src := 30) (dst := 9) Try.underlying30 Try.underlying5 Try.underlying9
  have HLN : Hid (∀ o, Calls Try.prog 21 #[.pointer (some ⟨s, 0, none⟩)] (w5.alloc o) fun e w' => e = .returned (.int .i64 1) ∧ w5.alloc o = w') := fun o => by
    obtain ⟨sv, hsc⟩ := (HS5.out.no ((Chg.refl No w5).alloc o)).ids
    exact slen_calls _ _ _ _ _ _ _ hsc
  have HHS : Hid (∀ o, Calls Try.prog 20 #[.pointer (some ⟨s, 0, none⟩), .int .u64 (ib : Int)] (w5.alloc o) fun e w' => e = .returned (.bool true) ∧ w5.alloc o = w') := fun o => by
    obtain ⟨sv, hsc⟩ := (HS5.out.no ((Chg.refl No w5).alloc o)).ids
    have h := shas_calls _ _ _ _ _ _ _ hsc ib
    rw [HF3.out] at h
    exact h
  have hbe : ((mkS [97, 98]).toList == [97, 98]) = true := by rw [Lib.toList_data, mkS_list]; decide
  clear hc5 HTR HS4 HC4
  go_wp2_with (first | (go_at_call 21; refine (HLN.out _).mono ?_; rintro e w' ⟨rfl, rfl⟩) | (go_at_call 20; refine (HHS.out _).mono ?_; rintro e w' ⟨rfl, rfl⟩))
  go_ret
  exact ⟨rfl, HC5.out.alloc _⟩
end Go.Proofs.Ytccphnkdnifpfaa

namespace Go.Proofs.Ytccphnkdnifpfaa
set_option linter.unnecessarySimpa false
open Go.RowKit Go.Shelf
set_option linter.unusedVariables false
set_option linter.unusedSimpArgs false
set_option maxRecDepth 100000

attribute [local go_sem] Oper.semAt_some

theorem SC.sl {w : World} {base s mp j : Nat} {v : Value} {ids : List Nat} (h : SC w base s mp j v ids) : Sl u64v w v ids := by
  have := Holds.ofOwn h.2.2.1
  exact this
theorem Slu.drop {w : World} {A : Option Addr} {n c k : Nat} {l : List Nat} (h : Sl u64v w (.slice A n c) l) (hk : k ≤ n) : Sl u64v w (.slice (if c = k then A else A.map (·.add k)) (n - k) (c - k)) (l.drop k) := by
  have hl := h.len
  unfold Sl at h ⊢
  rw [hl] at h
  have := Holds.drop (size := 1) h hk (by decide) (by simp [hl])
  rw [Nat.mul_one] at this
  rw [List.length_drop, hl, List.map_drop]
  exact this
theorem slices_values (w : World) (A : Option Addr) (n c : Nat) : Calls Try.prog 41 #[.slice A n c] w fun e w' => e = .returned (.func (.func 75) #[] #[.pointer (some ⟨w.heap.size, 0, none⟩)]) ∧ w' = w.alloc (.cells #[.slice A n c] 42) := by
  go_enter Try.func41, Try.ntmps41
  go_wp2
  go_ret
  exact ⟨rfl, rfl⟩
/-- What Since answers: an iterator over a row. -/
def SinceR (w : World) (ids : List Nat) (k : Nat) (e : Ending) (w' : World) : Prop :=
  ∃ A m c, e = .returned (.func (.func 75) #[] #[.pointer (some ⟨w.heap.size, 0, none⟩)]) ∧ w' = w.alloc (.cells #[.slice A m c] 42) ∧ Sl u64v w (.slice A m c) (ids.drop k) ∧ m ≤ 4194304 ∧ ∀ b, (Value.slice A m c).ownBlock = some b → ∃ cc fz, w.heap[b]? = some (.cells cc 32 fz)
set_option maxHeartbeats 1600000 in
theorem since_nil (w : World) (n : Int) : Calls Try.prog 19 #[.pointer none, .int .i64 n] w fun e w' => SinceR w [] 0 e w' := by
  go_enter Try.func19, Try.ntmps19
  go_wp2_with (go_at_call 41; refine (slices_values _ _ _ _).mono ?_; rintro e w' ⟨rfl, rfl⟩)
  go_ret
  exact ⟨none, 0, 0, rfl, rfl, Holds.nil w, by omega, fun b hb => by cases hb⟩
set_option maxHeartbeats 3200000 in
theorem since_calls (w : World) (base s mp j : Nat) (v : Value) (ids : List Nat) (h : SC w base s mp j v ids) (n : Int) (hn1 : -9223372036854775808 ≤ n) (hn2 : n ≤ 9223372036854775807) (hl : ids.length ≤ 4194304) :
    Calls Try.prog 19 #[.pointer (some ⟨s, 0, none⟩), .int .i64 n] w fun e w' => SinceR w ids n.toNat e w' := by
  have hsl := h.sl
  obtain ⟨A, c, rfl⟩ := h.form
  obtain ⟨c0, c1, c2⟩ := cells3 h.1
  have HSL := Lib.hid hsl
  have HLE : Hid (∀ k, ids.length ≤ k → ids.drop k = []) := fun k hk => List.drop_of_length_le hk
  have HCC : ids.length ≤ c := by
    obtain ⟨_, _, he, h2, -⟩ := hsl
    cases he
    exact h2
  have HD : Hid (∀ k, k < ids.length → Sl u64v w (.slice (A.map (·.add k)) (ids.length - k) (c - k)) (ids.drop k)) := fun k hk => by
    have := Slu.drop HSL.out (Nat.le_of_lt hk)
    rwa [if_neg (by omega)] at this
  have HK : Hid ((max n 0).toNat = n.toNat) := by
    show _ = _
    rcases Int.le_total n 0 with h | h
    · rw [Int.max_eq_right h]; omega
    · rw [Int.max_eq_left h]
  have HOB : Hid (∀ b, (Value.slice A ids.length c).ownBlock = some b → ∃ cc fz, w.heap[b]? = some (.cells cc 32 fz)) := fun b hb => ownsRow_cells h.2.2.1 b hb
  clear h hsl
  generalize ids.length = m at *
  by_cases h1 : n < (m : Int)
  · by_cases h2 : 0 ≤ n
    · obtain ⟨k, rfl⟩ := Int.eq_ofNat_of_zero_le h2
      have hk : k < m := by omega
      have hkc : k ≤ c := by omega
      have HD' := Lib.hid (HD.out k hk)
      have hmx : max (k : Int) 0 = (k : Int) := by omega
      clear HK HD
      go_enter Try.func19, Try.ntmps19
      go_wp2_with (go_at_call 41; refine (slices_values _ _ _ _).mono ?_; rintro e w' ⟨rfl, rfl⟩)
      go_ret
      exact ⟨_, _, _, rfl, rfl, HD'.out, by omega, fun b hb => HOB.out b (by cases A with | none => cases hb | some a => exact (show (some a.block : Option Nat) = some b from by have hb : some (a.add k).block = some b := hb; rwa [show (a.add k).block = a.block by unfold Addr.add; split <;> rfl] at hb))⟩
    · have HT : Hid (n.toNat = 0) := by rw [Hid]; omega
      have hmx : max n 0 = 0 := by omega
      clear HK HD
      go_enter Try.func19, Try.ntmps19
      go_wp2_with (go_at_call 41; refine (slices_values _ _ _ _).mono ?_; rintro e w' ⟨rfl, rfl⟩)
      go_ret
      refine ⟨_, _, _, rfl, rfl, ?_, by omega, HOB.out⟩
      rw [HT.out]
      exact HSL.out
  · have HT := Lib.hid (HLE.out n.toNat (by omega))
    clear HK HD
    go_enter Try.func19, Try.ntmps19
    go_wp2_with (go_at_call 41; refine (slices_values _ _ _ _).mono ?_; rintro e w' ⟨rfl, rfl⟩)
    go_ret
    exact ⟨none, 0, 0, rfl, rfl, by rw [HT.out]; exact Holds.nil w, by omega, fun b hb => by cases hb⟩

/-- What is handed on: an id, in order. -/
def IdAt (ids : List Nat) (pre : List Nat) (x : Nat) (_ : World) : Prop := pre = ids.take pre.length ∧ ids[pre.length]? = some x
set_option maxHeartbeats 2000000 in
theorem values_seq (n : Nat) (hn : 1 ≤ n) (n₀ : Nat) (w : World) (A : Option Addr) (m c : Nat) (ids : List Nat) (h : Sl u64v w (.slice A m c) ids) (B : Nat) (hB : Boxed w B 42 (.slice A m c)) (hm : m ≤ 4194304)
    (hn0 : n₀ ≤ w.heap.size) (hS : ∀ b, (Value.slice A m c).ownBlock = some b → b < n₀) :
    SeqC Fence.wide n Try.prog 75 #[.pointer (some ⟨B, 0, none⟩)] (fun x : Nat => #[.int .u64 (x : Int)]) (IdAt ids) (Below n₀) (fun xs => xs = ids) w := fun l J Jx W hW0 hJ hJx hY h0 => by
  have hBw : B < w.heap.size := (Array.getElem?_eq_some_iff.1 (show w.heap[B]? = _ from hB)).1
  have e0 := Boxed.cell (show Boxed W B 42 (.slice A m c) from (hW0.block B hBw).trans hB)
  have hW := hW0.mono hn0
  have HSL := Lib.hid (fun V hV => h.chg (Chg.ofBelowN (n₀ := n₀) (w' := V) hV) (fun i hi => by have := hS i hi; omega))
  have HL := Lib.hid h.len
  have HY := Lib.hid hY
  have HJ := Lib.hid hJ
  clear hY hJ h hB
  refine callsIn_of_wp Try.func75 rfl trivial ?_ rfl
  simp only [Try.ntmps75, List.size_toArray, List.length_cons, List.length_nil, Nat.reduceAdd, Nat.reduceSub, Array.replicate_succ, Array.replicate_zero, List.push_toArray, List.append_toArray, List.nil_append, List.cons_append]
  gi_wp2
  gi_loopw [7] (fun i V => ∃ pre : List Nat, pre.length ≤ m ∧ i = .int .i64 (pre.length : Int) ∧ Hid (pre = ids.take pre.length) ∧ Below n₀ w V ∧ J pre V)
    (fun i _ => m - (intOf i).toNat)
  case atStart => exact ⟨[], Nat.zero_le _, rfl, rfl, hW, h0⟩
  case round =>
    obtain ⟨pre, hpre, rfl, HM, hV, hJV⟩ := hrel
    by_cases hlt : pre.length < m
    · have i1 : (pre.length : Int) < (m : Int) := by omega
      obtain ⟨b, o, rfl, hcell⟩ := (HSL.out _ hV).addr (by rw [HL.out]; omega)
      have hc0 := hcell pre.length (by rw [HL.out]; exact hlt)
      have HX : Hid (ids[pre.length]? = some (ids[pre.length]'(by rw [HL.out]; exact hlt))) := List.getElem?_eq_getElem _
      generalize ids[pre.length]'(by rw [HL.out]; exact hlt) = x at *
      unfold u64v at hc0
      clear hcell
      obtain ⟨fn, tmps, assign, body, hy, hR⟩ := HY.out pre x wr hJV ⟨HM.out, HX.out⟩
      gi_wp2
      refine hR.mono ?_
      rintro e W3 (⟨rfl, hJ3, hk3⟩ | ⟨rfl, hJx3⟩)
      · clear hy hR
        gi_wp2
        go_roundw
        case rel =>
          refine ⟨pre ++ [x], by simp; omega, by simp, ?_, hV.trans hk3, hJ3⟩
          show _ = _
          rw [List.length_append]
          show _ = List.take (pre.length + 1) ids
          rw [List.take_add_one, HX.out, ← HM.out]
          rfl
        case measure => simp only [intOf]; omega
      · clear hy hR
        gi_wp2
        refine bodyPost_ret (results_none rfl _ _ _) rfl ?_
        exact ⟨⟨_, rfl⟩, .inr hJx3⟩
    · have i1 : ¬ ((pre.length : Int) < (m : Int)) := by omega
      have hpe : pre.length = m := by omega
      have HX : Hid (pre = ids) := by
        have := HM.out
        rw [hpe, List.take_of_length_le (by rw [HL.out]; exact Nat.le_refl _)] at this
        exact this
      clear hpe
      gi_wp2
      go_end0
      exact ⟨⟨_, rfl⟩, .inl (by have := HX.out; subst this; exact hJV)⟩
end Go.Proofs.Ytccphnkdnifpfaa

namespace Go.Proofs.Ytccphnkdnifpfaa
set_option linter.unnecessarySimpa false
open Go.RowKit Go.Shelf
set_option linter.unusedVariables false
set_option linter.unusedSimpArgs false
set_option maxRecDepth 100000

theorem put_nil (w : World) (v : Value) : Calls Try.prog 11 #[.pointer none, v] w fun e w' => e = .returned (.tuple #[.int .u64 0, .int .i64 1]) ∧ w' = w := by
  go_enter Try.func11, Try.ntmps11
  go_wp2
  go_ret2
  exact ⟨rfl, rfl⟩
theorem sbytes_nil (w : World) (i : Nat) : Calls Try.prog 13 #[.pointer none, .int .u64 (i : Int)] w fun e w' => e = .returned (.tuple #[.slice none 0 0, .int .i64 1]) ∧ w' = w := by
  go_enter Try.func13, Try.ntmps13
  go_wp2
  go_ret2
  exact ⟨rfl, rfl⟩
theorem get_nil (w : World) (i : Nat) : Calls Try.prog 12 #[.pointer none, .int .u64 (i : Int)] w fun e w' => e = .returned (.tuple #[.nilIface, .int .i64 1]) ∧ w' = w := by
  go_enter Try.func12, Try.ntmps12
  go_wp2_with (go_at_call 13; refine (sbytes_nil _ _).mono ?_; rintro e w' ⟨rfl, rfl⟩)
  go_ret2
  exact ⟨rfl, rfl⟩
theorem blob_nil (w : World) (i : Nat) : Calls Try.prog 16 #[.pointer none, .int .u64 (i : Int)] w fun e w' => e = .returned (.tuple #[.agg #[.slice none 0 0], .int .i64 1]) ∧ Chg No w w' := by
  go_enter Try.func16, Try.ntmps16
  go_wp2_with (go_at_call 12; refine (get_nil _ _).mono ?_; rintro e w' ⟨rfl, rfl⟩)
  exact bodyPost_ret (v := .tuple #[.agg #[.slice none 0 0], .int .i64 1]) (by simp [results, Try.f16, go_sem]) rfl ⟨rfl, (Chg.refl No _).alloc _⟩
theorem tree_nil (w : World) (i : Nat) : Calls Try.prog 17 #[.pointer none, .int .u64 (i : Int)] w fun e w' => e = .returned (.tuple #[.agg #[.slice none 0 0], .int .i64 1]) ∧ Chg No w w' := by
  go_enter Try.func17, Try.ntmps17
  go_wp2_with (go_at_call 12; refine (get_nil _ _).mono ?_; rintro e w' ⟨rfl, rfl⟩)
  exact bodyPost_ret (v := .tuple #[.agg #[.slice none 0 0], .int .i64 1]) (by simp [results, Try.f17, go_sem]) rfl ⟨rfl, (Chg.refl No _).alloc _⟩
theorem commit_nil (w : World) (i : Nat) : Calls Try.prog 18 #[.pointer none, .int .u64 (i : Int)] w fun e w' => e = .returned (.tuple #[.agg #[.int .u64 0, .slice none 0 0, .string ⟨#[]⟩, .int .i64 0, .string ⟨#[]⟩], .int .i64 1]) ∧ Chg No w w' := by
  go_enter Try.func18, Try.ntmps18
  go_wp2_with (go_at_call 12; refine (get_nil _ _).mono ?_; rintro e w' ⟨rfl, rfl⟩)
  exact bodyPost_ret (v := .tuple #[.agg #[.int .u64 0, .slice none 0 0, .string ⟨#[]⟩, .int .i64 0, .string ⟨#[]⟩], .int .i64 1]) (by simp [results, Try.f18, go_sem]) rfl ⟨rfl, (Chg.refl No _).alloc _⟩
theorem has_nil (w : World) (i : Nat) : Calls Try.prog 20 #[.pointer none, .int .u64 (i : Int)] w fun e w' => e = .returned (.bool false) ∧ w' = w := by
  go_enter Try.func20, Try.ntmps20
  go_wp2
  go_ret
  exact ⟨rfl, rfl⟩
theorem len_nil (w : World) : Calls Try.prog 21 #[.pointer none] w fun e w' => e = .returned (.int .i64 0) ∧ w' = w := by
  go_enter Try.func21, Try.ntmps21
  go_wp2
  go_ret
  exact ⟨rfl, rfl⟩
theorem sopen_nil (w : World) : Calls Try.prog 10 #[.pointer none] w fun e w' => e = .returned (.tuple #[.pointer none, .int .i64 1]) ∧ Chg No w w' := by
  have B2 := Lib.hid ((Boxed.new w 26 (.pointer none)).alloc (.cells #[.int .i64 0] 27))
  have B3 := Boxed.new (w.alloc (.cells #[.pointer none] 26)) 27 (.int .i64 0)
  rw [World.size_alloc] at B3
  have HB3 := Lib.hid B3
  clear B3
  have hn23 : ¬ w.heap.size = w.heap.size + 1 := by omega
  have hn32 : ¬ w.heap.size + 1 = w.heap.size := by omega
  go_enter Try.func10, Try.ntmps10
  go_wp2_with (go_at_call 29; refine (open_none _ _).mono ?_; rintro e w' ⟨rfl, hc⟩; refine Hid.out ?_)
  refine Lib.hid ?_
  have b2 : Boxed w' w.heap.size 26 (.pointer none) := hc.heap B2.out (fun x => x)
  have b3 : Boxed w' (w.heap.size + 1) 27 (.int .i64 0) := hc.heap HB3.out (fun x => x)
  have c2 := b2.cell
  have c3 := b3.cell
  have f2 := b2.frozen
  have f3 := b3.frozen
  have HC : Hid (Chg No w w') := (((Chg.refl No w).alloc _).alloc _).no hc
  have E2 := (b2.set (.pointer none))
  have E3 : Boxed ((w'.setCell ⟨w.heap.size, 0, none⟩ (.pointer none)).setCell ⟨w.heap.size + 1, 0, none⟩ (.int .i64 1)) (w.heap.size + 1) 27 (.int .i64 1) := (show Boxed (w'.setCell ⟨w.heap.size, 0, none⟩ (.pointer none)) (w.heap.size + 1) 27 (.int .i64 0) from b3.other (fun e => hn32 e) _).set _
  have E22 := Boxed.other E2 (B' := w.heap.size + 1) (fun e => hn23 e) (.int .i64 1)
  have d2 := Lib.hid E22.cell
  have d3 := Lib.hid E3.cell
  clear b2 b3 hc E2 E3 E22
  go_wp2
  exact bodyPost_ret (v := .tuple #[.pointer none, .int .i64 1]) (by simp [results, Try.f10, go_sem, d2.out, d3.out]) rfl ⟨rfl, (HC.out.setCell (p := ⟨w.heap.size, 0, none⟩) (.inl (Nat.le_refl _)) _).setCell (p := ⟨w.heap.size + 1, 0, none⟩) (.inl (by show w.heap.size ≤ w.heap.size + 1; omega)) _⟩
end Go.Proofs.Ytccphnkdnifpfaa

namespace Go.Proofs.Ytccphnkdnifpfaa
set_option linter.unnecessarySimpa false
open Go.RowKit Go.Shelf
set_option linter.unusedVariables false
set_option linter.unusedSimpArgs false
set_option maxRecDepth 100000

theorem leaves_all {F : Fence} {n : Nat} {P : Program} {fn : Func} {tmps : Array Value} {R : Ending → World → Prop} (Bx : Nat) (t : TypeId) (v : Value) (n₀ : Nat) (w : World) (hn : n₀ ≤ w.heap.size)
    (hR : ∀ W, Boxed W Bx t v → Below n₀ w W → LeavesInM F n P fn tmps R [] .returning W) :
    ∀ (L : List Nat) (W : World), L.Nodup → (∀ D ∈ L, n₀ ≤ D ∧ W.heap[D]? = some (.deferred (some []))) → Boxed W Bx t v → Below n₀ w W → LeavesInM F n P fn tmps R (L.map (fun D => ({ target := .collected D, args := #[] } : Deferred))) .returning W
  | [], W, _, _, hb, hB => hR W hb hB
  | D :: L, W, hnd, hD, hb, hB => by
    have h0 := hD D (by simp)
    have hne := (List.nodup_cons.1 hnd).1
    refine ⟨by simp, .inl ⟨_, _, rfl, run_takeDeferred h0.2, ?_⟩⟩
    refine leaves_all Bx t v n₀ w hn hR L _ (List.nodup_cons.1 hnd).2 (fun D' hD' => ?_) ?_ ?_
    · obtain ⟨g1, g2⟩ := hD D' (by simp [hD'])
      refine ⟨g1, ?_⟩
      have hlt : D' < W.heap.size := (Array.getElem?_eq_some_iff.1 g2).1
      exact ((grownBy_putObj' W D (.deferred none)).block D' hlt (fun e => by cases e; exact hne hD')).trans g2
    · exact hb.kept (grownBy_putObj' W D (.deferred none)) (fun e => by have e' : Bx = D := Option.some.inj e; rw [← e', show W.heap[Bx]? = _ from hb] at h0; cases h0.2)
    · exact hB.grown (grownBy_putObj' W D (.deferred none)) (Nat.le_trans hn hB.size) (fun k e => by cases e; exact h0.1)

section
variable {F : Fence} {nF : Nat} {P : Program} {w : World}
theorem wpListIn_app {ops : Array Oper} {rest : List Oper} {o : Oper} {a : Act} {Q : Exit → Act → World → Prop} (hgd : o.guard = none) (s x : Operand) (t tx : TypeId)
    (ho : o.op = .call { callee := .builtin .append, args := #[s, x], argTypes := #[t, tx] })
    (base : Nat) (e : TypeId) (z : Value) (size bytes : Nat) (hinfo : (P.info? e).map (fun i => (i.zero, i.size, i.bytes)) = some (some z, size, bytes)) (ht : P.underlying t = some (.slice e))
    (hzs : z.cells.size = size) (hsz : 0 < size)
    (v xv : Value) (n m : Nat) (xs news : List Value) (hs : a.eval s = v) (hx : a.eval x = xv)
    (hown : w.ownsRow base e size v n xs) (hsrc : Src P size tx xv m news w)
    (hbytes : (n + m) * bytes ≤ 140737488355328) (h63 : n + m ≤ maxLen) (hbase : base ≤ w.heap.size)
    (h : ∀ v' w', w'.ownsRow base e size v' (n + m) (xs ++ news) → w.grownBy w' v.ownBlock → wpListIn F nF P ops Q rest (a.put o.dst v') w') : wpListIn F nF P ops Q (o :: rest) a w := by
  obtain ⟨i, hi, hz0, hz1, hz2⟩ := info_parts hinfo
  refine wpListIn_plain hgd fun K hK => ?_
  obtain ⟨v', w', hr, h2, h3⟩ := run_append_own_src (P := P) w base t tx o.type e i z size bytes ht hi hz0 hz1 hz2 hzs hsz v n xs hown xv m news hsrc hbytes h63 hbase
  unfold Oper.wpIn
  refine ⟨by simp [Oper.about, ho, resolve, Target.leads, Sem.run_pure], ?_⟩
  rw [Oper.semAt_plain F _ _ (by rw [ho]; intro c hc'; cases hc')]
  simp [execOp, ho, resolve, invoke, builtin, hs, hx, hr, Result.andThen]
  exact hK _ _ (h v' w' h2 h3)
end
theorem boxed_kept {X Y : World} {row : Option Nat} {B : Nat} {t : TypeId} {v : Value} {B0 : Nat} (h : Boxed X B t v) (hg : X.grownBy Y row) (hr : ∀ r, row = some r → B0 ≤ r ∧ ∃ o : Obj, X.heap[r]? = some o ∧ o.isCells = false) : Boxed Y B t v :=
  h.kept hg (fun e => by obtain ⟨_, o, ho, hc⟩ := hr _ e.symm; rw [show X.heap[B]? = _ from h] at ho; cases ho; cases hc)

theorem own_own {β : Type} {base size n : Nat} {e : TypeId} {v : Value} {xs : List Value} : Own (fun (_ : β) W => World.ownsRow W base e size v n xs) := by
  intro s W W' row h hg hr
  obtain ⟨h1, h2⟩ := h
  refine ⟨h1, h2.imp id ?_⟩
  rintro ⟨g, cap, cur, rfl, hbg, hh, r⟩
  refine ⟨g, cap, cur, rfl, hbg, ?_, r⟩
  refine (hg.block g (Array.getElem?_eq_some_iff.1 hh).1 (fun e => ?_)).trans hh
  obtain ⟨o, ho, hc⟩ := hr g e.symm
  rw [hh] at ho; cases ho; cases hc
theorem keeps_own {W W' : World} {base size k : Nat} {e : TypeId} {v : Value} {xs : List Value} (hr : W.ownsRow base e size v k xs) (hg : W.grownBy W' v.ownBlock) : KeepsOthers W W' :=
  KeepsOthers.of_grownBy hg fun j o ej hj => by
    rcases hr.2 with ⟨rfl, _⟩ | ⟨g, cap, cur, rfl, _, hgb, _⟩
    · simp [Value.ownBlock] at ej
    · obtain rfl : g = j := by simpa [Value.ownBlock] using ej
      rw [hgb] at hj; cases hj; rfl
theorem below_own {n₀ : Nat} {W W' : World} {size k : Nat} {e : TypeId} {v : Value} {xs : List Value} (hr : W.ownsRow n₀ e size v k xs) (hg : W.grownBy W' v.ownBlock) (hn : n₀ ≤ W.heap.size) : Below n₀ W W' :=
  (Below.refl n₀ W).grown hg hn fun j ej => by
    rcases hr.2 with ⟨rfl, _⟩ | ⟨g, cap, cur, rfl, hb, _, _⟩
    · simp [Value.ownBlock] at ej
    · obtain rfl : g = j := by simpa [Value.ownBlock] using ej
      exact hb
end Go.Proofs.Ytccphnkdnifpfaa

namespace Go.Proofs.Ytccphnkdnifpfaa
set_option linter.unnecessarySimpa false
open Go.RowKit Go.Shelf
set_option linter.unusedVariables false
set_option linter.unusedSimpArgs false
set_option maxRecDepth 100000

theorem swrites_calls (w : World) (S : Nat → Prop) (base s mp j d m wr : Nat) (th : Bool) (ps : List (List UInt8)) (h : SD w S base s mp j d m wr th ps) :
    Calls Try.prog 14 #[.pointer (some ⟨d, 0, none⟩)] w fun e w' => e = .returned (.int .i64 (wr : Int)) ∧ Chg No w w' := by
  obtain ⟨v, SJ, -, hJ, -⟩ := h
  obtain ⟨A, n, c, AP, np, cp, AF, nf, cf, g1, g2, _⟩ := hJ
  exact writes_calls w d _ _ _ g2
theorem findI_snoc : ∀ {l : List Nat} {i : Nat}, findI i l = none → findI i (l ++ [i]) = some l.length
  | [], i, _ => by rw [List.nil_append, findI, if_pos rfl]; rfl
  | x :: r, i, h => by
    rw [findI] at h
    split at h
    · cases h
    · rename_i hx
      rw [List.cons_append, findI, if_neg hx, findI_snoc (by simpa using h)]
      rfl
theorem getD_snoc (l : List (List UInt8)) (x : List UInt8) : (l ++ [x]).getD l.length [] = x := by
  rw [List.getD, List.getElem?_append_right (Nat.le_refl _)]
  simp
theorem getD_mem (l : List (List UInt8)) (k : Nat) (h : k < l.length) : l.getD k [] ∈ l := by
  rw [List.getD, List.getElem?_eq_getElem h]
  exact List.getElem_mem h
theorem scopy_own {w w1 : World} {vb : Value} {p : List UInt8} {q : Nat} (hown : w1.ownsRow w.heap.size 5 1 vb (0 + q) (u8s [] ++ u8s p)) (hg : (w.alloc (.cells #[] 5)).grownBy w1 (Value.slice (some ⟨w.heap.size, 0, none⟩) 0 0).ownBlock) : OwnB w1 w.heap.size vb p ∧ Chg No w w1 := by
  refine ⟨.of hown (by simp [u8s]), (((Chg.refl No w).alloc _).mono (fun _ _ x => x)).grown hg (fun k hk => ?_)⟩
  simp [Value.ownBlock] at hk
  left; omega
/-- Does a list have a row unlike b? -/
def unlike (b : List UInt8) : List (List UInt8) → Bool
  | [] => false
  | c :: r => decide (c ≠ b) || unlike b r
theorem unlike_app (b : List UInt8) : ∀ (x y : List (List UInt8)), unlike b (x ++ y) = (unlike b x || unlike b y)
  | [], y => rfl
  | c :: x, y => by rw [List.cons_append, unlike, unlike, unlike_app b x y, Bool.or_assoc]
theorem unlike_mem (b : List UInt8) : ∀ {x : List (List UInt8)} {c : List UInt8}, c ∈ x → c ≠ b → unlike b x = true
  | y :: r, c, h, hc => by
    rw [unlike, Bool.or_eq_true]
    rcases List.mem_cons.1 h with rfl | h
    · exact .inl (decide_eq_true hc)
    · exact .inr (unlike_mem b h hc)
theorem neS (a b : List UInt8) : ((mkS a).toList != (mkS b).toList) = decide (a ≠ b) := by
  rw [Lib.toList_data, Lib.toList_data, mkS_list, mkS_list]
  by_cases h : a = b
  · simp [h]
  · simp [h]
end Go.Proofs.Ytccphnkdnifpfaa

namespace Go.Proofs.Ytccphnkdnifpfaa
set_option linter.unnecessarySimpa false
open Go.RowKit Go.Shelf
set_option linter.unusedVariables false
set_option linter.unusedSimpArgs false
set_option maxRecDepth 100000

theorem jappend_over (w : World) (S : Nat → Prop) (base j d m nw : Nat) (k : ByteArray) (th : Bool) (ps : List (List UInt8)) (A2 : Option Addr) (n2 c2 : Nat) (h : JD w S base j d m nw k th ps) (hn2 : 262144 < n2) :
    Calls Try.prog 31 #[.pointer (some ⟨j, 0, none⟩), .slice A2 n2 c2] w fun e w' => e = .returned (.int .i64 3) ∧ w' = w := by
  obtain ⟨A, n, c, AP, np, cp, AF, nf, cf, h1, h2, h3, h4, h5, h6, h7, h8, h9, h10, h11, h12, h13, h14, h15, h16, h17, h18⟩ := h
  have c5 := h1.c5
  have hng2 : (262144 : Int) < (n2 : Int) := by omega
  go_enter Try.func31, Try.ntmps31
  go_wp2
  go_ret
  exact ⟨rfl, rfl⟩

set_option maxHeartbeats 3200000 in
theorem jappend_full (w : World) (S : Nat → Prop) (base j d m nw : Nat) (k : ByteArray) (hmay : ∀ w, Calls Try.prog 87 #[.string k] w fun e w' => e = .returned (.bool true) ∧ Chg No w w') (ps : List (List UInt8)) (A2 : Option Addr) (n2 c2 : Nat) (p : List UInt8)
    (h : JD w S base j d m nw k true ps) (hb : Bytes w (.slice A2 n2 c2) p) (hl2 : p.length = n2) (hn2 : n2 ≤ 262144) (hle : (encF ps).length ≤ 4194304) (hsum : 4194304 < (encF ps).length + (recF p).length) :
    Calls Try.prog 31 #[.pointer (some ⟨j, 0, none⟩), .slice A2 n2 c2] w fun e w' => e = .returned (.int .i64 3) ∧ JD w' S base j d m nw k true ps ∧ Chg S w w' := by
  obtain ⟨A, n, c, AP, np, cp, AF, nf, cf, h1, h2, h3, h4, h5, h6, h7, h8, h9, h10, h11, h12, h13, h14, h15, h16, h17, h18⟩ := h
  have c5 := h1.c5
  have HJ := Lib.hid h1
  have HD : Hid (DiskAt w d m nw (some (k, .slice AF nf cf))) := h2
  have HO := Lib.hid h3
  have HP := Lib.hid h4
  have HF := Lib.hid h5
  have HB := Lib.hid hb
  have HL := Lib.hid h6
  have HLP := Lib.hid h7
  have HLF := Lib.hid h8
  have HL2 := Lib.hid hl2
  have HTH := Lib.hid h9
  have hng2 : ¬ ((262144 : Int) < (n2 : Int)) := by omega
  clear h1 h2 h3 h4 h5 h6 h7 h8 hb hl2 h9
  go_enter Try.func31, Try.ntmps31
  go_wp2_with fail
  refine (record_calls w A2 n2 c2 p HB.out HL2.out (by omega)).mono ?_
  rintro e w1 ⟨v1, rfl, ho1, hc1⟩
  obtain ⟨A1, n1, c1, rfl, HL1, HO1⟩ := ho1.form
  have HC1 := Lib.hid hc1
  have e0 := hc1.cell HJ.out.c0 (fun x => x)
  have e1 := hc1.cell HJ.out.c1 (fun x => x)
  clear ho1 hc1 c5
  have hn1a : nf ≤ 4194304 := by have := HLF.out; omega
  have hn1b : 4194304 < nf + n1 := by have := HLF.out; have := HL1.out; omega
  clear hsum hle
  go_wp2_with fail
  refine wp_region_held_drew (S := (fun W => W.cell? ⟨j, 0, none⟩ = some (.pointer (some ⟨d, 0, none⟩)) ∧ W.cell? ⟨j, 1, none⟩ = some (.string k))) (by kernel_rfl) ⟨e0, e1⟩ (fun hSw => ?_)
  refine wpAnyH_take (i := 0) (oi := { dst := some 21, op := Go.Op.move (Go.Operand.tmp 0), type := 80, pos := "journal.go:82", after := #[], guard := none }) (v := ?_) rfl (by kernel_rfl) (by kernel_rfl) (by kernel_rfl) (fun _ _ _ h => h) (Or.inl ⟨by rfl, ?_⟩) hSw ?_
  rotate_left
  · (intro W hW; obtain ⟨hq1, hq2⟩ := hW; go_simp; try with_reducible rfl)
  try simp only [Act.put, List.setIfInBounds_toArray, List.set_cons_zero, List.set_cons_succ]
  refine wpAnyH_take (i := 1) (oi := { dst := some 22, op := Go.Op.nilCheck (Go.Operand.tmp 21), type := 0, pos := "journal.go:82", after := #[{ on := 0, ground := Go.Ground.data }], guard := none }) (v := ?_) rfl (by kernel_rfl) (by kernel_rfl) (by kernel_rfl) (fun _ _ _ h => h) (Or.inl ⟨by rfl, ?_⟩) hSw ?_
  rotate_left
  · (intro W hW; obtain ⟨hq1, hq2⟩ := hW; go_simp; try with_reducible rfl)
  try simp only [Act.put, List.setIfInBounds_toArray, List.set_cons_zero, List.set_cons_succ]
  refine wpAnyH_take (i := 2) (oi := { dst := some 23, op := Go.Op.fieldAddr 112 (Go.Operand.tmp 22) 0, type := 0, pos := "journal.go:82", after := #[{ on := 1, ground := Go.Ground.data }], guard := none }) (v := ?_) rfl (by kernel_rfl) (by kernel_rfl) (by kernel_rfl) (fun _ _ _ h => h) (Or.inl ⟨by rfl, ?_⟩) hSw ?_
  rotate_left
  · (intro W hW; obtain ⟨hq1, hq2⟩ := hW; go_simp; try with_reducible rfl)
  try simp only [Act.put, List.setIfInBounds_toArray, List.set_cons_zero, List.set_cons_succ]
  refine wpAnyH_take (i := 3) (oi := { dst := some 24, op := Go.Op.load 24 (Go.Operand.tmp 23), type := 24, pos := "journal.go:82", after := #[{ on := 2, ground := Go.Ground.data }], guard := none }) (v := ?_) rfl (by kernel_rfl) (by kernel_rfl) (by kernel_rfl) (fun _ _ _ h => h) (Or.inl ⟨by rfl, ?_⟩) hSw ?_
  rotate_left
  · (intro W hW; obtain ⟨hq1, hq2⟩ := hW; go_simp; try with_reducible rfl)
  try simp only [Act.put, List.setIfInBounds_toArray, List.set_cons_zero, List.set_cons_succ]
  refine wpAnyH_take (i := 4) (oi := { dst := some 25, op := Go.Op.move (Go.Operand.tmp 0), type := 80, pos := "journal.go:82", after := #[], guard := none }) (v := ?_) rfl (by kernel_rfl) (by kernel_rfl) (by kernel_rfl) (fun _ _ _ h => h) (Or.inl ⟨by rfl, ?_⟩) hSw ?_
  rotate_left
  · (intro W hW; obtain ⟨hq1, hq2⟩ := hW; go_simp; try with_reducible rfl)
  try simp only [Act.put, List.setIfInBounds_toArray, List.set_cons_zero, List.set_cons_succ]
  refine wpAnyH_take (i := 5) (oi := { dst := some 26, op := Go.Op.nilCheck (Go.Operand.tmp 25), type := 0, pos := "journal.go:82", after := #[{ on := 4, ground := Go.Ground.data }], guard := none }) (v := ?_) rfl (by kernel_rfl) (by kernel_rfl) (by kernel_rfl) (fun _ _ _ h => h) (Or.inl ⟨by rfl, ?_⟩) hSw ?_
  rotate_left
  · (intro W hW; obtain ⟨hq1, hq2⟩ := hW; go_simp; try with_reducible rfl)
  try simp only [Act.put, List.setIfInBounds_toArray, List.set_cons_zero, List.set_cons_succ]
  refine wpAnyH_take (i := 6) (oi := { dst := some 27, op := Go.Op.fieldAddr 112 (Go.Operand.tmp 26) 1, type := 0, pos := "journal.go:82", after := #[{ on := 5, ground := Go.Ground.data }], guard := none }) (v := ?_) rfl (by kernel_rfl) (by kernel_rfl) (by kernel_rfl) (fun _ _ _ h => h) (Or.inl ⟨by rfl, ?_⟩) hSw ?_
  rotate_left
  · (intro W hW; obtain ⟨hq1, hq2⟩ := hW; go_simp; try with_reducible rfl)
  try simp only [Act.put, List.setIfInBounds_toArray, List.set_cons_zero, List.set_cons_succ]
  refine wpAnyH_take (i := 7) (oi := { dst := some 28, op := Go.Op.load 9 (Go.Operand.tmp 27), type := 9, pos := "journal.go:82", after := #[{ on := 6, ground := Go.Ground.data }], guard := none }) (v := ?_) rfl (by kernel_rfl) (by kernel_rfl) (by kernel_rfl) (fun _ _ _ h => h) (Or.inl ⟨by rfl, ?_⟩) hSw ?_
  rotate_left
  · (intro W hW; obtain ⟨hq1, hq2⟩ := hW; go_simp; try with_reducible rfl)
  try simp only [Act.put, List.setIfInBounds_toArray, List.set_cons_zero, List.set_cons_succ]
  refine wpAnyH_take (i := 8) (oi := { dst := some 29, op := Go.Op.move (Go.Operand.tmp 5), type := 30, pos := "journal.go:82", after := #[], guard := none }) (v := ?_) rfl (by kernel_rfl) (by kernel_rfl) (by kernel_rfl) (fun _ _ _ h => h) (Or.inl ⟨by rfl, ?_⟩) hSw ?_
  rotate_left
  · (intro W hW; obtain ⟨hq1, hq2⟩ := hW; go_simp; try with_reducible rfl)
  try simp only [Act.put, List.setIfInBounds_toArray, List.set_cons_zero, List.set_cons_succ]
  refine wpAnyH_ready (rs := [9]) (by kernel_rfl) (by simp) ?_
  refine AllReadyH.cons (o := { dst := some 30, op := Go.Op.call { callee := Go.Callee.value (Go.Operand.func 61), args := #[Go.Operand.tmp 24, Go.Operand.tmp 28, Go.Operand.tmp 29], argTypes := #[24, 9, 30] }, type := 27, pos := "journal.go:82", after := #[{ on := 3, ground := Go.Ground.data }, { on := 7, ground := Go.Ground.data }, { on := 8, ground := Go.Ground.data }], guard := none }) rfl (fun K hK => ?_) AllReadyH.nil
  rw [if_pos (by rfl)]
  go_simp
  refine (dappend_long _ d m nw k hmay AF A1 nf cf n1 c1 (HD.out.chg HC1.out.drew (fun x => x) (fun x => x)) hn1a hn1b).mono ?_
  rintro e w2 ⟨rfl, hc2⟩
  have e02 := hc2.cell e0 (fun x => x)
  have e12 := hc2.cell e1 (fun x => x)
  refine hK.out _ _ ⟨e02, e12⟩ (fun hSw => ?_)
  clear hK
  try simp only [Act.put, List.setIfInBounds_toArray, List.set_cons_zero, List.set_cons_succ]
  refine wpAnyH_take (i := 10) (oi := { dst := some 6, op := Go.Op.assign (Go.Operand.tmp 30), type := 27, pos := "journal.go:82", after := #[{ on := 9, ground := Go.Ground.data }, { on := 9, ground := Go.Ground.chain }, { on := 0, ground := Go.Ground.phase }, { on := 1, ground := Go.Ground.phase }, { on := 2, ground := Go.Ground.phase }, { on := 3, ground := Go.Ground.phase }, { on := 4, ground := Go.Ground.phase }, { on := 5, ground := Go.Ground.phase }, { on := 6, ground := Go.Ground.phase }, { on := 7, ground := Go.Ground.phase }, { on := 8, ground := Go.Ground.phase }, { on := 9, ground := Go.Ground.phase }], guard := none }) (v := ?_) rfl (by kernel_rfl) (by kernel_rfl) (by kernel_rfl) (fun _ _ _ h => h) (Or.inl ⟨by rfl, ?_⟩) hSw ?_
  rotate_left
  · (intro W hW; obtain ⟨hq1, hq2⟩ := hW; go_simp; try with_reducible rfl)
  try simp only [Act.put, List.setIfInBounds_toArray, List.set_cons_zero, List.set_cons_succ]
  refine wpAnyH_done (by kernel_rfl) ?_ _
  have HJ2 := Lib.hid (show JCells w2 j d k (.slice A n c) (.slice AP np cp) (encF ps).length false from (HC1.out.drew.no hc2).heap HJ.out (fun x => x))
  have HC2 := Lib.hid (HC1.out.drew.no hc2)
  clear hc2
  have e5 := HJ2.out.c5
  have f5 := HJ2.out.fr 5
  go_wp2
  go_ret
  have hset : JCells (w2.setCell ⟨j, 5, none⟩ (.bool false)) j d k (.slice A n c) (.slice AP np cp) (encF ps).length false := HJ2.out.set 5 (.bool false)
  have hput := Chg.put w2 j 5 (.bool false)
  have hS : Chg S w (w2.setCell ⟨j, 5, none⟩ (.bool false)) := ((HC2.out.mono (fun _ _ x => x.elim)).setCell (p := ⟨j, 5, none⟩) (.inr h14) _)
  have hn := HJ2.out
  have hne : ∀ {e : TypeId} {size n' base' : Nat} {v : Value} {xs : List Value}, e ≠ 112 → w2.ownsRow base' e size v n' xs → ∀ b, v.ownBlock = some b → ¬ One j b := by
    rintro e size n' base' v xs he ho b hb rfl
    exact hn.nrow ho he hb.symm
  have hD2 := HD.out.chg HC2.out (fun x => x) (fun x => x)
  have hjd : d ≠ j ∧ m ≠ j := by
    constructor
    · rintro rfl
      have h1 := (show w2.heap[d]? = _ from hn).symm.trans hD2.1
      cases h1
    · rintro rfl
      have h1 := (show w2.heap[m]? = _ from hn).symm.trans hD2.2
      unfold mapObj at h1
      cases h1
  have hO2 := HO.out.chg HC2.out (fun _ _ x => x)
  have hP2 := ownsRow_chg HP.out HC2.out (fun _ _ x => x)
  have hF2 := HF.out.chg HC2.out (fun _ _ x => x)
  have hsz := hS.size
  refine ⟨rfl, ⟨A, n, c, AP, np, cp, AF, nf, cf, hset, hD2.chg hput hjd.1 hjd.2, hO2.chg hput (hne (by decide) hO2), ownsRow_chg hP2 hput (hne (by decide) hP2), hF2.chg hput (hne (by decide) hF2), HL.out, HLP.out, HLF.out, HTH.out, h10, h11, h12, h13, h14, h15, h16, ?_, by omega⟩, hS⟩
  intro i hi
  have := h17 i hi
  omega
end Go.Proofs.Ytccphnkdnifpfaa

namespace Go.Proofs.Ytccphnkdnifpfaa
set_option linter.unnecessarySimpa false
open Go.RowKit
set_option linter.unusedVariables false
set_option linter.unusedSimpArgs false

theorem step_enc (p t : List UInt8) (hp : p.length ≤ 262144) : stepF (recF p ++ t) = some (some p) := by
  have hN : numF 0 0 (recF p ++ t) = (p.length, (leb p.length).length, 0) := by
    have : recF p ++ t = leb p.length ++ (p ++ (wide (hashF p) ++ t)) := by simp [recF]
    rw [this]
    exact numF_leb_whole _ (by omega) _
  have hne : recF p ++ t ≠ [] := by
    intro h
    have := congrArg List.length h
    have h9 := recF_len0 p
    rw [List.length_append] at this
    simp only [List.length_nil] at this
    omega
  have hl : (recF p ++ t).length = (leb p.length).length + p.length + 8 + t.length := by
    simp only [recF, List.length_append, wide_len]
  have hd : (recF p ++ t).drop (leb p.length).length = p ++ (wide (hashF p) ++ t) := by
    have : recF p ++ t = leb p.length ++ (p ++ (wide (hashF p) ++ t)) := by simp [recF]
    rw [this, List.drop_left]
  unfold stepF
  rw [hN]
  simp only
  rw [if_neg (by rintro (h | h); exact hne h; simp at h), if_neg (by rintro (h | h); exact h rfl; omega), if_neg (by omega), hd, List.take_left, List.drop_left]
  rw [List.take_append_of_le_length (by rw [wide_len]; omega), List.take_of_length_le (by rw [wide_len]; omega), beF_wide _ (hashF_lt _), if_pos rfl]
theorem Rds.ofEnc : ∀ (K : List (List UInt8)), (∀ p ∈ K, p.length ≤ 262144) → Rds (encF K) K false
  | [], _ => Rds.stop (by simp [encF, stepF])
  | p :: K, h => by
    have e : encF (p :: K) = recF p ++ encF K := by simp [encF]
    rw [e]
    refine Rds.more (step_enc p _ (h p (by simp))) ?_
    rw [List.drop_left]
    exact Rds.ofEnc K (fun q hq => h q (by simp [hq]))
theorem made_u8 (n : Nat) : (madeCells (Value.int .u8 0).cells (n * 1)).toList = u8s (List.replicate n 0) := by
  apply List.ext_getElem
  · simp [size_madeCells]
  · intro i h1 h2
    simp [madeCells, u8s, Value.cells, Nat.mod_one]
end Go.Proofs.Ytccphnkdnifpfaa

namespace Go.Proofs.Ytccphnkdnifpfaa
set_option linter.unnecessarySimpa false
open Go.RowKit Go.Shelf
set_option linter.unusedVariables false
set_option linter.unusedSimpArgs false
set_option maxRecDepth 100000

/-- May these rows be opened, behind ids that are there? -/
def okF : List Nat → List (List UInt8) → Bool
  | _, [] => true
  | ids, p :: r => (decF p).isSome && (findI (idF p) ids).isNone && okF (ids ++ [idF p]) r
theorem okF_app : ∀ (ids : List Nat) (a b : List (List UInt8)), okF ids (a ++ b) = (okF ids a && okF (ids ++ a.map idF) b)
  | ids, [], b => by simp [okF]
  | ids, p :: a, b => by
    rw [List.cons_append, okF, okF, okF_app _ a b, Bool.and_assoc, Bool.and_assoc, Bool.and_assoc, List.map_cons, List.append_assoc]
    rfl
theorem okF_snoc (a : List (List UInt8)) (p : List UInt8) : okF [] (a ++ [p]) = (okF [] a && ((decF p).isSome && (findI (idF p) (a.map idF)).isNone)) := by
  rw [okF_app, okF, okF, Bool.and_true, List.nil_append]
/-- Where a row is wrong, all is. -/
theorem okF_bad {ps : List (List UInt8)} {k : Nat} {p : List UInt8} (hp : ps[k]? = some p) (hb : (decF p).isSome = false ∨ (findI (idF p) ((ps.take k).map idF)).isNone = false) : okF [] ps = false := by
  have hk := (List.getElem?_eq_some_iff.1 hp).1
  have hpk := (List.getElem?_eq_some_iff.1 hp).2
  have e : ps = ps.take k ++ (p :: ps.drop (k + 1)) := by
    conv => lhs; rw [← List.take_append_drop k ps, List.drop_eq_getElem_cons hk, hpk]
  rw [e, okF_app, okF, List.nil_append]
  rcases hb with h | h <;> rw [h] <;> simp only [Bool.false_and, Bool.and_false]
theorem findI_lt : ∀ {a : List Nat} {i : Nat} {b : List Nat}, findI i a = none → findI i (a ++ i :: b) = some a.length
  | [], i, b, _ => by rw [List.nil_append, findI, if_pos rfl]; rfl
  | x :: r, i, b, h => by
    rw [findI] at h
    split at h
    · cases h
    · rename_i hx
      rw [List.cons_append, findI, if_neg hx, findI_lt (by simpa using h)]
      rfl
/-- Each row of rows that may be opened. -/
theorem okF_get {ps : List (List UInt8)} (h : okF [] ps = true) {k : Nat} (hk : k < ps.length) : (∃ o, decF ps[k] = some o) ∧ findI (idF ps[k]) (ps.map idF) = some k := by
  have e : ps = ps.take k ++ (ps[k] :: ps.drop (k + 1)) := by
    conv => lhs; rw [← List.take_append_drop k ps, List.drop_eq_getElem_cons hk]
  have h2 := h
  rw [e, okF_app, okF, List.nil_append] at h2
  simp only [Bool.and_eq_true] at h2
  obtain ⟨-, ⟨h3, h4⟩, -⟩ := h2
  refine ⟨Option.isSome_iff_exists.1 h3, ?_⟩
  have h5 : findI (idF ps[k]) ((ps.take k).map idF) = none := by simpa using h4
  have h6 := findI_lt (b := (ps.drop (k + 1)).map idF) h5
  have e2 : ps.map idF = (ps.take k).map idF ++ idF ps[k] :: (ps.drop (k + 1)).map idF := by
    conv => lhs; rw [e]
    rw [List.map_append, List.map_cons]
  rw [e2, h6, List.length_map, List.length_take]
  congr 1
  omega
theorem encF_le : ∀ (K : List (List UInt8)) (m : Nat), (∀ p ∈ K, p.length ≤ m) → m < 1000000 → (encF K).length ≤ (m + 18) * K.length
  | [], m, _, _ => by simp [encF]
  | p :: K, m, h, hm => by
    have h1 := encF_le K m (fun q hq => h q (by simp [hq])) hm
    have h2 := (recF_len p (by have := h p (by simp); omega)).1
    have h3 := h p (by simp)
    have e : encF (p :: K) = recF p ++ encF K := by simp [encF]
    rw [e, List.length_append, List.length_cons, Nat.mul_add]
    omega
/-- A journal opened again; where it lies. -/
theorem again_open2 (w : World) (S : Nat → Prop) (base j d m nw : Nat) (k : ByteArray) (th : Bool) (K : List (List UInt8)) (h : JD w S base j d m nw k th K) (hK : ∀ p ∈ K, p.length ≤ 262144) (hn : (encF K).length ≤ 4194304) (hw : nw < 9223372036850000000) :
    Calls Try.prog 29 #[.pointer (some ⟨d, 0, none⟩), .string k] w fun e w' => ∃ j2 S2, e = .returned (.tuple #[.pointer (some ⟨j2, 0, none⟩), .int .i64 0]) ∧ JD w' S2 base j2 d m nw k th K ∧ Chg No w w' ∧ ∀ i, S2 i → S i ∨ w.heap.size ≤ i := by
  obtain ⟨A, n, c, AP, np, cp, AF, nf, cf, h1, h2, h3, h4, h5, h6, h7, h8, h9, h10, h11, h12, h13, h14, h15, h16, h17, h18⟩ := h
  refine (open_calls w base d m nw k th AF nf cf (encF K) K false (Rds.ofEnc K hK) h2 h5 h8 (fun ht => ⟨(h9 ht).1, (h9 ht).2.1, (h9 ht).2.2.1⟩) (by omega) hw ⟨(h17 _ h15).1, (h17 _ h16).1⟩ h18).mono ?_
  rintro e w' ⟨-, ho⟩
  obtain ⟨j2, he, nw', -, hnw, hJ, -, -⟩ := ho rfl
  obtain ⟨rfl, hc⟩ := hnw rfl
  refine ⟨j2, _, he, hJ, hc, fun i hi => ?_⟩
  rcases hi with (rfl | rfl | hi) | ⟨hi, -⟩
  · exact .inl h15
  · exact .inl h16
  · exact .inl (h13 i hi.symm)
  · exact .inr hi
/-- A store's cells over a change that no cell sees. -/
theorem SC.kept {X Y : World} {row : Option Nat} {base s mp j : Nat} {v : Value} {ids : List Nat} {B : Nat} (h : SC X base s mp j v ids) (hg : X.grownBy Y row) (hr : ∀ r, row = some r → B ≤ r ∧ ∃ o : Obj, X.heap[r]? = some o ∧ o.isCells = false) (hm : mp < B) : SC Y base s mp j v ids := by
  obtain ⟨h1, h2, h3, h4⟩ := h
  refine ⟨(hg.block s (Array.getElem?_eq_some_iff.1 h1).1 (fun e => ?_)).trans h1, (hg.block mp (Array.getElem?_eq_some_iff.1 h2).1 (fun e => ?_)).trans h2, own_own (β := Unit) () X Y row h3 hg (fun r e => (hr r e).2), h4⟩
  · obtain ⟨_, o, ho, hc⟩ := hr _ e.symm
    rw [h1] at ho; cases ho; cases hc
  · have := (hr _ e.symm).1; omega
/-- What a note changes keeps all that is no cell and lies from B on. -/
theorem keepsFrom_note {W W' : World} {B s mp : Nat} {v : Value} {base size n : Nat} {e : TypeId} {xs : List Value} (h : Chg (fun k => k = s ∨ k = mp ∨ v.ownBlock = some k) W W') (ho : W.ownsRow base e size v n xs) (hs : s < B) (hm : mp < B) : KeepsFrom B W W' :=
  ⟨h.size, fun k o hk hh hc => by
    refine (h.block k (Array.getElem?_eq_some_iff.1 hh).1 ?_).trans hh
    rintro (rfl | rfl | hv)
    · omega
    · omega
    · obtain ⟨c, fz, hcc⟩ := ownsRow_cells ho k hv
      rw [hcc] at hh; cases hh; cases hc⟩
end Go.Proofs.Ytccphnkdnifpfaa

