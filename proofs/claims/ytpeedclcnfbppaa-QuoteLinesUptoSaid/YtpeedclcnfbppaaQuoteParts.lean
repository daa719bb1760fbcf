/-
  The walk of QuoteParts.
-/
import Derived.Test.YtpeedclcnfbppaaL2
import Derived.RangeFuncBox
import Derived.Test.YtpeedclcnfbppaaBulk
namespace Go.Proofs.Ytpeedclcnfbppaa
open Go.RowKit Go.Shelf
set_option linter.unusedVariables false
set_option linter.unusedSimpArgs false
set_option maxRecDepth 100000

attribute [local go_sem] Oper.semAt_some

/-- Lines with a byte 10 behind each. -/
def joinL (ls : List (List UInt8)) : List UInt8 := ls.flatMap (· ++ [10])
theorem parts_law : ∀ (n : Nat) (l : List UInt8), l.length ≤ n → joinL (linesF l) = l ∨ (joinL (linesF l) = l ++ [10] ∧ l ≠ []) := by
  intro n
  induction n with
  | zero =>
    intro l hl
    have : l = [] := List.eq_nil_of_length_eq_zero (by omega)
    subst this
    left; rw [linesF_nil]; rfl
  | succ n ih =>
    intro l hl
    by_cases h : l = []
    · subst h; left; rw [linesF_nil]; rfl
    · have e : joinL (linesF l) = firstL l ++ [10] ++ joinL (linesF (restL l)) := by rw [linesF_cons l h]; simp [joinL]
      rcases Nat.lt_or_ge (firstL l).length l.length with hlt | hge
      · have hl' := firstL_end l hlt
        rcases ih (restL l) (by have := restL_len l h; omega) with h1 | ⟨h1, h2⟩
        · left; rw [e, h1]; conv => rhs; rw [hl']
          simp
        · right; refine ⟨?_, h⟩; rw [e, h1]; conv => rhs; rw [hl']
          simp
      · right
        refine ⟨?_, h⟩
        have hf : firstL l = l := by
          have := firstL_take l
          rw [List.take_of_length_le hge] at this
          exact this.symm
        have hr : restL l = [] := by rw [restL, List.drop_of_length_le (by omega)]
        rw [e, hr, linesF_nil, hf]; simp [joinL]
theorem lines_mem : ∀ (n : Nat) (l : List UInt8), l.length ≤ n → ∀ x ∈ linesF l, (∀ b ∈ x, b ≠ 10) ∧ x.length ≤ l.length := by
  intro n
  induction n with
  | zero =>
    intro l hl x hx
    have : l = [] := List.eq_nil_of_length_eq_zero (by omega)
    subst this
    rw [linesF_nil] at hx; cases hx
  | succ n ih =>
    intro l hl x hx
    by_cases h : l = []
    · subst h; rw [linesF_nil] at hx; cases hx
    · rw [linesF_cons l h] at hx
      rcases List.mem_cons.1 hx with rfl | hx
      · exact ⟨firstL_mem l, firstL_len l⟩
      · have hr := restL_len l h
        obtain ⟨h1, h2⟩ := ih (restL l) (by omega) x hx
        exact ⟨h1, by omega⟩
theorem lines_count : ∀ (n : Nat) (l : List UInt8), l.length ≤ n → (linesF l).length ≤ l.length := by
  intro n
  induction n with
  | zero =>
    intro l hl
    have : l = [] := List.eq_nil_of_length_eq_zero (by omega)
    subst this
    rw [linesF_nil]; exact Nat.le_refl _
  | succ n ih =>
    intro l hl
    by_cases h : l = []
    · subst h; rw [linesF_nil]; exact Nat.le_refl _
    · have hr := restL_len l h
      have := ih (restL l) (by omega)
      rw [linesF_cons l h, List.length_cons]; omega
theorem idx_mem : ∀ (ls : List (List UInt8)) (k : Nat) (x : Nat × List UInt8), x ∈ idx k ls → x.2 ∈ ls
  | [], _, _, h => by cases h
  | y :: r, k, x, h => by
    rcases List.mem_cons.1 h with rfl | h
    · simp
    · exact List.mem_cons_of_mem _ (idx_mem r (k + 1) x h)
theorem idx_join : ∀ (ls : List (List UInt8)) (k : Nat), (idx k ls).flatMap (fun x => x.2 ++ [10]) = joinL ls
  | [], _ => rfl
  | y :: r, k => by simp [idx, joinL, idx_join r (k + 1)]
abbrev LN (s : ByteArray) := { x : Nat × List UInt8 // x ∈ idx 0 (linesF s.data.toList) }
def partsB {s : ByteArray} (pre : List (LN s)) : List UInt8 := pre.flatMap (fun x => x.1.2 ++ [10])
theorem partsB_snoc {s : ByteArray} (pre : List (LN s)) (x : LN s) : partsB (pre ++ [x]) = partsB pre ++ (x.1.2 ++ [10]) := by simp [partsB]
theorem partsB_map {s : ByteArray} (pre : List (LN s)) : partsB pre = (pre.map (·.1)).flatMap (fun x => x.2 ++ [10]) := by
  induction pre with
  | nil => rfl
  | cons x r ih => simp only [partsB, List.flatMap_cons, List.map_cons] at ih ⊢; rw [ih]
theorem partsB_all (s : ByteArray) : partsB (idx 0 (linesF s.data.toList)).attach = joinL (linesF s.data.toList) := by
  have e : ((idx 0 (linesF s.data.toList)).attach.map (fun x : LN s => x.1)) = idx 0 (linesF s.data.toList) := List.attach_map_subtype_val _
  rw [partsB_map, e, idx_join]
theorem partsB_len {s : ByteArray} (hs : s.size ≤ 1048576) (pre : List (LN s)) : (partsB pre).length ≤ 1048577 * pre.length := by
  induction pre with
  | nil => simp [partsB]
  | cons x r ih =>
    have := (lines_mem _ s.data.toList (Nat.le_refl _) x.1.2 (idx_mem _ _ _ x.2)).2
    rw [size_list] at this
    simp only [partsB, List.flatMap_cons, List.length_append, List.length_cons, List.length_nil] at ih ⊢
    omega

theorem keeps_own {W W' : World} {base size k : Nat} {e : TypeId} {v : Value} {xs : List Value} (hr : W.ownsRow base e size v k xs) (hg : W.grownBy W' v.ownBlock) : KeepsOthers W W' :=
  KeepsOthers.of_grownBy hg fun j o ej hj => by
    rcases hr.2 with ⟨rfl, _⟩ | ⟨g, cap, cur, rfl, _, hgb, _⟩
    · simp [Value.ownBlock] at ej
    · obtain rfl : g = j := by simpa [Value.ownBlock] using ej
      rw [hgb] at hj; cases hj; rfl
theorem below_own {n₀ : Nat} {W W' : World} {size k : Nat} {e : TypeId} {v : Value} {xs : List Value} (hr : W.ownsRow n₀ e size v k xs) (hg : W.grownBy W' v.ownBlock) (hn : n₀ ≤ W.heap.size) : Below n₀ W W' :=
  (Below.refl n₀ W).grown hg hn fun j ej => by
    rcases hr.2 with ⟨rfl, _⟩ | ⟨g, cap, cur, rfl, hb, _, _⟩
    · simp [Value.ownBlock] at ej
    · obtain rfl : g = j := by simpa [Value.ownBlock] using ej
      exact hb

set_option maxHeartbeats 3200000 in
theorem quoteParts_core (n : Nat) (hn : 3 ≤ n) (w : World) (s : ByteArray) (hs : s.size ≤ 1048576) :
    CallsIn Fence.wide n Try.prog 8 #[.string s] w fun e W' => e = .returned (.bool true) ∧ Below w.heap.size w W' := by
  have h1 : 1 ≤ n := by omega
  have hcount := lines_count _ s.data.toList (Nat.le_refl _)
  rw [size_list] at hcount
  refine callsIn_of_wp_marks Try.func8 rfl trivial ?_ rfl
  simp only [Try.ntmps8, List.size_toArray, List.length_cons, List.length_nil, Nat.reduceAdd, Nat.reduceSub, Array.replicate_succ, Array.replicate_zero, List.push_toArray, List.append_toArray, List.nil_append, List.cons_append]
  gi_wp2_with (refine ⟨trivial, ?_⟩; (first | (gi_at_call 9; refine (callsIn_wide.2 (wakes_calls _)).mono ?_; rintro e w1 ⟨rfl, hc1⟩) | (gi_at_call 22; refine (callsIn_wide.2 (lines_calls _ _)).mono ?_; rintro e w2 ⟨rfl, rfl⟩)))
  have hsz1 : w.heap.size + 1 ≤ w1.heap.size := by have := hc1.size; simpa using this
  have hbx2 : Boxed w1 w.heap.size 4 (.bool false) := hc1.heap (World.alloc_heap_new w _) (fun x => x)
  have hB1 : Below w.heap.size w w1 := ((Below.refl _ w).alloc (Nat.le_refl _) _).trans ⟨hc1.os, hc1.tape, hc1.output, Nat.le_trans (by simp) hc1.size, fun k hk => hc1.block k (by simp; omega) (fun x => x)⟩
  have hB0 : Below w.heap.size w ((w1.alloc (.cells #[.slice none 0 0] 43)).alloc (.cells #[.string s] 9)) := (hB1.alloc (by omega) _).alloc (by simp; omega) _
  refine wpIn_rangeFunc_ownF rfl h1 (gf := 34) (lb := #[.pointer (some ⟨w1.heap.size + 1, 0, none⟩)]) rfl trivial (enters_of Try.func34 (by kernel_rfl) rfl)
    (lines_stops (α := LN s) (·.1) (idx 0 (linesF s.data.toList)).attach (n - 1) (by omega) (w1.heap.size + 1) s (by omega) (Below w.heap.size) _ (by have h := (Boxed.new (w1.alloc (.cells #[.slice none 0 0] 43)) 9 (.string s)).cell; rw [World.size_alloc] at h; exact h) (by simp) (List.attach_map_subtype_val _)) belowK_t (belowK_b (by simp; omega)) (Below.refl _ _) (fun _ => rfl)
    (fun pre W => ((∃ v, Boxed W w1.heap.size 43 v ∧ W.ownsRow w.heap.size 5 1 v (partsB pre).length (u8s (partsB pre)) ∧ True) ∧ Boxed W w.heap.size 4 (.bool false)) ∧ Below w.heap.size w W)
    (fun _ _ _ => False)
    (OwnFrom.and (OwnFrom.and (Own.from (holdsRow_own _ _ _ _ _ _ _ _) _) (Own.from (boxed_own _ _ (fun _ => .bool false)) _)) (ownFrom_below (Nat.le_refl _) (by simp; omega)))
    (fun _ _ _ _ _ hs _ _ => hs)
    ⟨⟨⟨_, (Boxed.new w1 _ _).alloc _, World.ownsRow_nil _ _ _ _, trivial⟩, (hbx2.alloc _).alloc _⟩, hB0⟩
    (fun x => { tmps := #[.string s, undef, .pointer (some ⟨w.heap.size, 0, none⟩), .pointer (some ⟨w1.heap.size, 0, none⟩), undef, .string (mkS x.1.2), undef, .bool true, .bool false, .string s, .func (.func 34) #[] #[.pointer (some ⟨w1.heap.size + 1, 0, none⟩)], .int .i64 (x.1.1 : Int), .string (mkS x.1.2), undef, undef, undef, undef, undef, undef, undef, undef, undef, undef, undef, undef, undef, undef, undef, undef, undef, undef, undef, undef, undef, undef, undef, undef, undef, undef, undef, undef, undef, undef, undef, undef, undef], defers := [] }) ?assign ?body ?done ?stop
  case assign =>
    intro l x W K hK
    gi_wp2
    exact hK
  case body =>
    rintro l pre x W ⟨⟨⟨v, hv, hrow, _⟩, hb2⟩, hB⟩ hlen
    have hsn := Lib.hid (partsB_snoc pre x)
    have hk := partsB_len hs pre
    rw [List.length_attach, idx_len] at hlen
    obtain ⟨⟨ki, L⟩, hxm⟩ := x
    obtain ⟨hno, hxl⟩ := lines_mem _ _ (Nat.le_refl _) L (idx_mem _ _ _ hxm)
    rw [size_list] at hxl
    have HO0 := hrow
    dsimp only at hsn
    obtain ⟨Y, hY⟩ : ∃ Y, partsB pre = Y := ⟨_, rfl⟩
    rw [hY] at hrow hk hsn
    clear hY
    obtain ⟨m, hm⟩ : ∃ m, Y.length = m := ⟨_, rfl⟩
    rw [hm] at hrow hk
    have HM := Lib.hid hm
    clear HO0 hm
    obtain ⟨A, c, rfl⟩ := own_form hrow
    dsimp only at hsn ⊢
    have htl : (mkS L).data.toList = L := mkS_list L
    have hts : (mkS L).size = L.length := mkS_size L
    obtain ⟨t, ht⟩ : ∃ t, mkS L = t := ⟨_, rfl⟩
    rw [ht] at htl hts
    have HTL := Lib.hid htl
    have hts2 : t.size ≤ s.size := by omega
    simp only [ht]
    clear htl hts ht
    have hWsz := hB.size
    have hc3 := hv.cell
    gi_wp2
    gi_loopw [6] (fun i wr => ∃ q : Nat, q ≤ t.size ∧ i = .int .i64 (q : Int) ∧ wr = W) (fun i _ => t.size - (intOf i).toNat)
    case atStart => exact ⟨0, Nat.zero_le _, rfl, rfl⟩
    case round =>
      obtain ⟨q, hq, rfl, rfl⟩ := hrel
      by_cases hqs : q < t.size
      · have i1 : (q : Int) < (t.size : Int) := by omega
        obtain ⟨y, hy⟩ : ∃ y, t[q] = y := ⟨_, rfl⟩
        have hy10 : y ≠ 10 := by
          have hql : q < L.length := by have := congrArg List.length HTL.out; rw [size_list] at this; omega
          have h1 : L[q] = y := by
            rw [← hy, ← List.getElem_of_eq HTL.out (by rw [size_list]; exact hqs)]; rfl
          rw [← h1]
          exact hno _ (List.getElem_mem hql)
        have hb10 : ((y.toNat : Int) == 10) = false := beq_eq_false_iff_ne.2 (fun h => hy10 (UInt8.toNat_inj.1 (Int.ofNat.inj h)))
        gi_wp2
        go_roundw
        case rel => exact ⟨q + 1, by omega, by go_num, by first | rfl | trivial⟩
        case measure => simp only [intOf]; omega
      · have i1 : ¬ ((q : Int) < (t.size : Int)) := by omega
        have hte : t.size = L.length := by rw [← HTL.out, size_list]
        have HTE := Lib.hid hte
        clear hte
        gi_wp2_with (first | (gi_at_builtin; (refine wpListIn_app rfl (.tmp 23) (.tmp 24) 43 9 rfl w.heap.size 5 (.int .u8 0) 1 1 infoU8 Try.underlying43 rfl (by decide) (.slice A m c) (.string t) m t.size (u8s Y) (u8s t.data.toList) rfl rfl hrow (Src.ofText Try.underlying9 t) ?b1 ?b2 ?b3 ?_; (case b1 => omega); (case b2 => unfold maxLen; omega); (case b3 => omega); intro v1 w3 hown1 hg1; obtain ⟨A1, c1, rfl⟩ := own_form hown1)) | (gi_at_builtin; (refine wpListIn_app rfl (.tmp 25) (.tmp 26) 43 43 rfl w.heap.size 5 (.int .u8 0) 1 1 infoU8 Try.underlying43 rfl (by decide) (.slice A1 (m + t.size) c1) (.slice (some ⟨w3.heap.size, 0, none⟩) 1 1) (m + t.size) 1 (u8s Y ++ u8s t.data.toList) [.int .u8 10] rfl rfl (World.ownsRow.alloc hown1 _) (Src.one Try.underlying43 _ rfl) ?b1 ?b2 ?b3 ?_; (case b1 => omega); (case b2 => unfold maxLen; omega); (case b3 => have := hg1.size; simp; omega); intro v2 w4 hown2 hg2; refine Hid.out ?_)))
        refine Lib.hid ?_
        have hn1 : w.heap.size ≤ w3.heap.size := Nat.le_trans hWsz hg1.size
        have hv3 : Boxed w3 w1.heap.size 43 (.slice A m c) := hv.kept hg1 (hv.not_row (by decide) hrow)
        have hv4 : Boxed w4 w1.heap.size 43 (.slice A m c) := (hv3.alloc (.cells #[.int .u8 10] 5)).kept hg2 ((hv3.alloc (.cells #[.int .u8 10] 5)).not_row (by decide) (World.ownsRow.alloc hown1 _))
        have hb3 : Boxed w3 w.heap.size 4 (.bool false) := hb2.kept hg1 (hb2.not_row (by decide) hrow)
        have hb4 : Boxed w4 w.heap.size 4 (.bool false) := (hb3.alloc (.cells #[.int .u8 10] 5)).kept hg2 ((hb3.alloc (.cells #[.int .u8 10] 5)).not_row (by decide) (World.ownsRow.alloc hown1 _))
        have hK4 : KeepsOthers wr w4 := (keeps_own hrow hg1).trans ((KeepsOthers.alloc _ (.cells #[.int .u8 10] 5)).trans (keeps_own (World.ownsRow.alloc hown1 _) hg2))
        have hBe4 : Below w.heap.size wr w4 := (below_own hrow hg1 hWsz).trans (((Below.refl _ _).alloc hn1 (.cells #[.int .u8 10] 5)).trans (below_own (World.ownsRow.alloc hown1 _) hg2 (by simp; omega)))
        obtain ⟨A2, c2, rfl⟩ := own_form hown2
        have hcell4 := hv4.cell
        have hfro4 := hv4.frozen
        clear hg1 hg2
        gi_wp2
        have hB5 : Below w.heap.size wr (w4.setCell ⟨w1.heap.size, 0, none⟩ (.slice A2 (m + t.size + 1) c2)) := hBe4.setCell (p := ⟨w1.heap.size, 0, none⟩) (by show w.heap.size ≤ w1.heap.size; omega) _
        refine ⟨hK4.trans (KeepsOthers.setCell _ _ _), hB5, ⟨⟨_, hv4.set _, ?_, trivial⟩, hb4.other (by omega) _⟩, hB.trans hB5⟩
        have h5 := hown2.kept (grownBy_setCell' w4 w1.heap.size (.slice A2 (m + t.size + 1) c2)) (.inr (hv4.not_row (by decide) hown2).symm)
        have e1 : u8s Y ++ u8s t.data.toList ++ [.int .u8 10] = u8s (partsB (pre ++ [⟨(ki, L), hxm⟩])) := by
          rw [hsn.out, HTL.out, ← List.append_assoc, u8s_append, u8s_append]; rfl
        have e2 : m + t.size + 1 = (partsB (pre ++ [⟨(ki, L), hxm⟩])).length := by
          rw [hsn.out, List.length_append, List.length_append, HM.out, HTE.out]; simp only [List.length_cons, List.length_nil]; omega
        rw [e1] at h5
        rw [← e2]
        exact h5
  case done =>
    rintro D xs W hD rfl ⟨⟨⟨v, hv, hrow, _⟩, hb2⟩, hB⟩ hK
    have hPL := parts_law _ s.data.toList (Nat.le_refl _)
    rw [partsB_all] at hrow
    generalize joinL (linesF s.data.toList) = Y at hrow hPL
    have hOB : OwnB W w.heap.size v Y := hrow
    obtain ⟨A, m, c, rfl, HL, HO⟩ := hOB.form
    have hcv := HO.out.bytes.text (P := Try.prog) Try.underlying43 Try.underlying5 Try.underlying9
    have hc3 := hv.cell
    have HB := Lib.hid hB
    have CWK := Lib.hid (fun w => wakes_calls w)
    clear hrow hOB HO hv hB0
    rcases hPL with hPL | ⟨hPL, hne⟩
    · have hb : ((mkS Y).toList == s.toList) = true := by rw [beq_iff_eq, Lib.toList_data, Lib.toList_data, mkS_list, hPL]
      clear hPL
      gi_wp2_with (refine ⟨trivial, ?_⟩; gi_at_call 9; refine (callsIn_wide.2 (CWK.out _)).mono ?_; rintro e W1 ⟨rfl, hcw⟩; have hb5 : Boxed W1 w.heap.size 4 (.bool false) := hcw.heap hb2 (fun x => x); have c5 := hb5.cell; have f5 := hb5.frozen)
      have hK1 : W1.heap[D]? = some (.deferred (some [])) := hcw.heap hK (fun x => x)
      have hK' := (KeepsOthers.setCell W1 ⟨w.heap.size, 0, none⟩ (.bool true)).same D _ hK1 rfl
      have hb6 := hb5.set (.bool true)
      have hc7 := cell_kept hb6.cell (grownBy_putObj' _ D (.deferred none)) (fun r e => by cases e; exact ⟨_, hK', rfl⟩)
      refine ⟨by simp, .inl ⟨_, _, rfl, run_takeDeferred hK', ?_⟩⟩
      refine ⟨.bool true, ?_, rfl, ((HB.out.trans ((Chg.below hcw).mono HB.out.size)).setCell (p := ⟨w.heap.size, 0, none⟩) (Nat.le_refl _) _).trans (belowK_b (w := w) (Nat.le_refl _) _ D _ _ (by simp at hD; omega) hK' rfl rfl)⟩
      simp [results, Try.f8, go_sem, hc7]
    · have hb : ((mkS Y).toList == s.toList) = false := by
        rw [beq_eq_false_iff_ne, Lib.toList_data, Lib.toList_data, mkS_list, hPL]
        intro h
        have := congrArg List.length h
        simp at this
      have hb2' : ((mkS Y).toList == (s ++ (⟨#[10]⟩ : ByteArray)).toList) = true := by
        rw [beq_iff_eq, Lib.toList_data, Lib.toList_data, mkS_list, hPL]
        simp [ByteArray.data_append]
      have he : (s.toList = []) = False := by rw [Lib.toList_data]; exact eq_false hne
      have he2 : s.toList.isEmpty = false := by
        rw [Lib.toList_data]
        cases hh : s.data.toList with
        | nil => exact absurd hh hne
        | cons a b => rfl
      clear hPL hne
      gi_wp2_with (refine ⟨trivial, ?_⟩; gi_at_call 9; refine (callsIn_wide.2 (CWK.out _)).mono ?_; rintro e W1 ⟨rfl, hcw⟩; have hb5 : Boxed W1 w.heap.size 4 (.bool false) := hcw.heap hb2 (fun x => x); have c5 := hb5.cell; have f5 := hb5.frozen)
      have hK1 : W1.heap[D]? = some (.deferred (some [])) := hcw.heap hK (fun x => x)
      have hK' := (KeepsOthers.setCell W1 ⟨w.heap.size, 0, none⟩ (.bool true)).same D _ hK1 rfl
      have hb6 := hb5.set (.bool true)
      have hc7 := cell_kept hb6.cell (grownBy_putObj' _ D (.deferred none)) (fun r e => by cases e; exact ⟨_, hK', rfl⟩)
      refine ⟨by simp, .inl ⟨_, _, rfl, run_takeDeferred hK', ?_⟩⟩
      refine ⟨.bool true, ?_, rfl, ((HB.out.trans ((Chg.below hcw).mono HB.out.size)).setCell (p := ⟨w.heap.size, 0, none⟩) (Nat.le_refl _) _).trans (belowK_b (w := w) (Nat.le_refl _) _ D _ _ (by simp at hD; omega) hK' rfl rfl)⟩
      simp [results, Try.f8, go_sem, hc7]
  case stop =>
    rintro D c pre W hD hpre h hK
    exact h.elim

theorem quoteParts_walk (w : World) (s : ByteArray) (hs : s.size ≤ 1048576) :
    Calls Try.prog 8 #[.string s] w fun e w' => e = .returned (.bool true) ∧ Below w.heap.size w w' :=
  callsIn_wide.1 (quoteParts_core 3 (Nat.le_refl _) w s hs)
end Go.Proofs.Ytpeedclcnfbppaa
