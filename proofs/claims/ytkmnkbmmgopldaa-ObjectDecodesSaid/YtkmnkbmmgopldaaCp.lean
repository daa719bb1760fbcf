/-
  Lk, Cp in one text.
-/
import Derived.Test.YtkmnkbmmgopldaaOd
import Derived.Lib.Slices
namespace Go.Proofs.Ytkmnkbmmgopldaa
open Go.RowKit
set_option linter.unusedVariables false
set_option linter.unusedSimpArgs false
set_option maxRecDepth 100000

/-- A store into a row of one's own. -/
theorem own_put {w : World} {base n c size : Nat} {e : TypeId} {A : Option Addr} {xs : List Value} (h : w.ownsRow base e size (.slice A n c) n xs) (hp : 0 < n) :
    ∃ g, A = some ⟨g, 0, none⟩ ∧ base ≤ g ∧ g < w.heap.size ∧ ∀ i, i < n * size → (∃ u, w.cell? ⟨g, i, none⟩ = some u ∧ xs[i]? = some u) ∧ w.frozen? ⟨g, i, none⟩ = false ∧ ∀ v, (w.setCell ⟨g, i, none⟩ v).ownsRow base e size (.slice A n c) n (xs.set i v) := by
  obtain ⟨h1, h2⟩ := h
  rcases h2 with ⟨he, h0⟩ | ⟨g, cap, cur, he, hg, hh, hnn, hm, hcs, ht⟩
  · omega
  · simp only [Value.slice.injEq, true_and] at he
    obtain ⟨rfl, rfl⟩ := he
    have hgl := (Array.getElem?_eq_some_iff.1 hh).1
    refine ⟨g, rfl, hg, hgl, fun i hi => ?_⟩
    have hic : i < cur.size := by rw [hcs]; exact Nat.lt_of_lt_of_le hi (Nat.mul_le_mul_right _ hnn)
    refine ⟨⟨cur[i], by simp [World.cell?, hh, hic], ?_⟩, by simp [World.frozen?, hh], fun v => ?_⟩
    · rw [← ht, List.getElem?_take_of_lt hi]
      simp [hic]
    · refine ⟨by rw [List.length_set]; exact h1, .inr ⟨g, c, cur.setIfInBounds i v, rfl, hg, ?_, hnn, hm, by simpa using hcs, ?_⟩⟩
      · unfold World.setCell
        simp [Array.getElem?_modify, hh]
      · rw [Array.toList_setIfInBounds, List.take_set, ht]

def LinksIs (w : World) (o : Value) (L : List Nat) : Prop := ∀ W, Chg No w W → Calls Try.prog 37 #[o] W fun e w' => ∃ A c, e = .returned (.slice A L.length c) ∧ w'.ownsRow W.heap.size 24 1 (.slice A L.length c) L.length (L.map u64v) ∧ Chg No W w'
theorem links_refused (w : World) (o : Value) (k : Int) (hk : k ≠ 0) (h : ∀ W, Chg No w W → Calls Try.prog 14 #[o] W fun e w' => e = .returned (.int .i64 k) ∧ Chg No W w') : LinksIs w o [] := by
  intro W hW
  have hkb : (k == 0) = false := by simpa using hk
  go_enter Try.func37, Try.ntmps37
  go_wp2_with fail
  refine (h W hW).mono ?_
  rintro e w1 ⟨rfl, hc1⟩
  go_wp2
  go_ret
  exact ⟨_, _, rfl, World.ownsRow_nil _ _ _ _, hc1⟩
theorem links_blob (w : World) (A : Option Addr) (n c : Nat) (h4 : ¬ 4096 < n) : LinksIs w (blobV (.slice A n c)) [] := by
  intro W hW
  have ft := fun w => ta_blob_tree w (.agg #[.slice A n c])
  have fc := fun w => ta_blob_commit w (.agg #[.slice A n c])
  go_enter Try.func37, Try.ntmps37
  go_wp2_with fail
  refine (check_blob W A n c).mono ?_
  rw [if_neg h4]
  rintro e w1 ⟨rfl, hc1⟩
  go_wp2
  go_ret
  exact ⟨_, _, rfl, World.ownsRow_nil _ _ _ _, hc1⟩

set_option maxHeartbeats 1600000 in
theorem links_tree (w : World) (A : Option Addr) (n c : Nat) (xs : List Ent) (h : Es w (.slice A n c) xs) (hb : ∀ x ∈ xs, x.1.size ≤ maxLen ∧ x.2.2 < 18446744073709551616) (hF : treeF xs = 0) : LinksIs w (treeV (.slice A n c)) (xs.map (·.2.2)) := by
  intro W hW
  have mx : maxLen ≤ 9223372036854775807 := by unfold maxLen; omega
  have hb1 : ∀ x ∈ xs, x.1.size ≤ 9223372036854775807 := fun x hx => Nat.le_trans (hb x hx).1 mx
  have HC : Hid (Calls Try.prog 14 #[treeV (.slice A n c)] W fun e w' => e = .returned (.int .i64 0) ∧ Chg No W w') := by
    have := check_tree W A n c xs (h.no hW) hb1
    rwa [hF] at this
  have hn256 : n ≤ 256 := by have := (treeF_zero hF).1; have := h.len; omega
  have HL := Lib.hid h.len
  have H := Lib.hid (h.no hW)
  have HM : Hid ((xs.map (·.2.2)).length = n) := by rw [Hid, List.length_map]; exact HL.out
  clear h hb hb1 mx hW
  rw [HM.out]
  have fb := fun w => ta_tree_blob w (.agg #[.slice A n c])
  have ft := fun w => ta_tree_tree w (.agg #[.slice A n c])
  go_enter Try.func37, Try.ntmps37
  go_wp2_with fail
  refine HC.out.mono ?_
  rintro e w1 ⟨rfl, hc1⟩
  have HC1 := Lib.hid hc1
  clear hc1 HC
  go_wp2
  go_loopw [3, 18] (fun l i wr => ∃ (k : Nat) (A2 : Option Addr) (c2 : Nat), k ≤ n ∧ i = .int .i64 (k : Int) ∧ l = .slice A2 k c2 ∧ Hid (wr.ownsRow W.heap.size 24 1 (.slice A2 k c2) k (((xs.take k).map (·.2.2)).map u64v)) ∧ Hid (Chg No W wr)) (fun _ i _ => n - (intOf i).toNat)
  case atStart => exact ⟨0, none, 0, Nat.zero_le _, rfl, rfl, World.ownsRow_nil _ _ _ _, HC1.out.alloc _⟩
  case round =>
    obtain ⟨k, A2, c2, hk, rfl, rfl, HO, HC⟩ := hrel
    by_cases hlt : k < n
    · obtain ⟨b, o, rfl, hcell⟩ := (H.out.no HC.out).addr (by rw [HL.out]; omega)
      obtain ⟨e0, e1, e2⟩ := hcell k (by rw [HL.out]; exact hlt)
      have hT : xs.take (k + 1) = xs.take k ++ [xs[k]'(by rw [HL.out]; exact hlt)] := by rw [List.take_succ_eq_append_getElem]
      generalize xs[k]'(by rw [HL.out]; exact hlt) = y at *
      have HT := Lib.hid hT
      obtain ⟨s, f, id⟩ := y
      simp only at e0 e1 e2
      clear hcell hT
      have own8 := Lib.hid (World.ownsRow.alloc (World.ownsRow.alloc HO.out (.cells #[.string s, .bool f, .int .u64 (id : Int)] 35)) (.cells #[.int .u64 (id : Int)] 24))
      have hsz : W.heap.size ≤ wr.heap.size := HC.out.size
      have src8 : Hid (Src Try.prog 1 25 (.slice (some ⟨(wr.alloc (.cells #[.string s, .bool f, .int .u64 (id : Int)] 35)).heap.size, 0, none⟩) 1 1) 1 [u64v id] ((wr.alloc (.cells #[.string s, .bool f, .int .u64 (id : Int)] 35)).alloc (.cells #[.int .u64 (id : Int)] 24))) := Src.one Try.underlying25 _ rfl
      simp only [World.size_alloc] at src8
      go_wp2_with (at_builtin; (refine wpList_app2 rfl (.tmp 22) (.tmp 25) 25 25 rfl W.heap.size 24 (.int .u64 0) 1 8 infoId Try.underlying25 rfl (by decide) (.slice A2 k c2) (.slice (some ⟨wr.heap.size + 1, 0, none⟩) 1 1) k 1 (((xs.take k).map (·.2.2)).map u64v) ([u64v id]) rfl rfl ?own ?src ?b1 ?b2 ?b3 ?_; (case own => exact own8.out); (case src => exact src8.out); (case b1 => omega); (case b2 => unfold maxLen; omega); (case b3 => (simp only [World.size_alloc]; omega)); intro v8 w8 hown8 hg8 hfrom8; refine Hid.out ?_))
      refine Lib.hid ?_
      obtain ⟨A8, c8, rfl⟩ := ownsRow_form hown8
      have HC8 : Hid (Chg No W w8) := ((HC.out.alloc _).alloc _).grown hg8 (fun q hq => .inl (World.ownsRow.lt HO.out q hq).1)
      have HO8 : Hid (w8.ownsRow W.heap.size 24 1 (.slice A8 (k + 1) c8) (k + 1) (((xs.take (k + 1)).map (·.2.2)).map u64v)) := by
        rw [Hid, HT.out]
        simpa using hown8
      clear hown8 hg8 hfrom8 own8 src8
      go_wp2
      go_roundw
      case rel => exact ⟨k + 1, A8, c8, by omega, by simp, rfl, HO8.out, HC8.out⟩
      case measure => simp [intOf]; omega
    · have hkn : k = n := by omega
      subst hkn
      go_wp2
      go_ret
      refine ⟨_, _, rfl, ?_, HC.out⟩
      have := HO.out
      rwa [List.take_of_length_le (by rw [HL.out]; exact Nat.le_refl _)] at this
theorem srcIds {W : World} {A : Option Addr} {n c : Nat} {ps : List Nat} (h : Sl u64v W (.slice A n c) ps) : Src Try.prog 1 25 (.slice A n c) n (ps.map u64v) W := by
  have hl := h.len
  refine Src.ofHolds W (size := 1) (m := n) (cs := ps.map u64v) Try.underlying25 ?_ (by rw [List.length_map]; omega) (by decide) ?_
  · subst hl; exact h
  · intro v hv
    obtain ⟨q, _, rfl⟩ := List.mem_map.1 hv
    rfl
theorem srcEnts {W : World} {A : Option Addr} {n c : Nat} {xs : List Ent} (h : Es W (.slice A n c) xs) : Src Try.prog 3 22 (.slice A n c) n (xs.flatMap encE) W := by
  have hl := h.len
  refine Src.ofHolds W (size := 3) (m := n) (cs := xs.flatMap encE) Try.underlying22 ?_ (by rw [encE_len]; omega) (by decide) ?_
  · subst hl; exact h
  · intro v hv
    obtain ⟨q, _, hv⟩ := List.mem_flatMap.1 hv
    simp only [encE, List.mem_cons, List.not_mem_nil, or_false] at hv
    rcases hv with rfl | rfl | rfl <;> rfl
set_option maxHeartbeats 3200000 in
theorem links_commit (w : World) (t : Nat) (A : Option Addr) (n c : Nat) (ps : List Nat) (a : ByteArray) (d : Int) (x : ByteArray) (hs : Sl u64v w (.slice A n c) ps) (hn : n ≤ 9223372036854775807) (ha : a.size ≤ 9223372036854775807) (hx : x.size ≤ 9223372036854775807) (hF : commitF t ps a.data.toList x.data.toList = 0) : LinksIs w (commitV (t : Int) (.slice A n c) a d x) (t :: ps) := by
  intro W hW
  have HC : Hid (Calls Try.prog 14 #[commitV (t : Int) (.slice A n c) a d x] W fun e w' => e = .returned (.int .i64 0) ∧ Chg No W w') := by
    have := check_commit W t A n c ps a d x (hs.no hW) hn ha hx
    rwa [hF] at this
  have hn8 : n ≤ 8 := by have := (commitF_zero hF).2.1; have := hs.len; omega
  have HL := Lib.hid hs.len
  have HS0 := Lib.hid (hs.no hW)
  have HM : Hid ((t :: ps).length = 1 + n) := by rw [Hid, List.length_cons, HL.out]; omega
  clear hs hW hF
  rw [HM.out]
  have fb := fun w => ta_commit_blob w (.agg #[.int .u64 (t : Int), .slice A n c, .string a, .int .i64 d, .string x])
  have ft := fun w => ta_commit_tree w (.agg #[.int .u64 (t : Int), .slice A n c, .string a, .int .i64 d, .string x])
  have fc := fun w => ta_commit_commit w (.agg #[.int .u64 (t : Int), .slice A n c, .string a, .int .i64 d, .string x])
  go_enter Try.func37, Try.ntmps37
  go_wp2_with fail
  refine HC.out.mono ?_
  rintro e w1 ⟨rfl, hc1⟩
  have HQ := Lib.hid (heap_alloc_new w1 (.cells #[.int .u64 (t : Int), .slice A n c, .string a, .int .i64 d, .string x] 27))
  have HG2 : Hid (Chg No W (w1.alloc (.cells #[.int .u64 (t : Int), .slice A n c, .string a, .int .i64 d, .string x] 27))) := hc1.alloc _
  have HS := Lib.hid HS0.out
  clear hc1 HC HS0
  go_wp2
  generalize hw2 : w1.alloc (.cells #[.int .u64 (t : Int), .slice A n c, .string a, .int .i64 d, .string x] 27) = w2 at *
  generalize w1.heap.size = g at *
  clear hw2
  refine wp_region_held_drew (S := (fun W => W.cell? ⟨g, 0, none⟩ = some (.int .u64 (t : Int)) ∧ W.cell? ⟨g, 1, none⟩ = some (.slice A n c))) (by kernel_rfl) ⟨cellAt HQ.out 0 _ rfl, cellAt HQ.out 1 _ rfl⟩ (fun hSw => ?_)
  refine wpAnyH_take (i := 0) (oi := { dst := some 31, op := Go.Op.move (Go.Operand.tmp 3), type := 25, pos := "object.go:209", after := #[], guard := none }) (v := ?_) rfl (by kernel_rfl) (by kernel_rfl) (by kernel_rfl) (fun _ _ _ h => h) (Or.inl ⟨by rfl, ?_⟩) hSw ?_
  rotate_left
  · (intro W hW; obtain ⟨hz0, hz1⟩ := hW; go_simp; try with_reducible rfl)
  try simp only [Act.put, List.setIfInBounds_toArray, List.set_cons_zero, List.set_cons_succ]
  refine wpAnyH_take (i := 1) (oi := { dst := some 32, op := Go.Op.fieldAddr 27 (Go.Operand.tmp 7) 0, type := 0, pos := "object.go:209", after := #[], guard := none }) (v := ?_) rfl (by kernel_rfl) (by kernel_rfl) (by kernel_rfl) (fun _ _ _ h => h) (Or.inl ⟨by rfl, ?_⟩) hSw ?_
  rotate_left
  · (intro W hW; obtain ⟨hz0, hz1⟩ := hW; go_simp; try with_reducible rfl)
  try simp only [Act.put, List.setIfInBounds_toArray, List.set_cons_zero, List.set_cons_succ]
  refine wpAnyH_take (i := 2) (oi := { dst := some 33, op := Go.Op.load 24 (Go.Operand.tmp 32), type := 24, pos := "object.go:209", after := #[{ on := 1, ground := Go.Ground.data }], guard := none }) (v := ?_) rfl (by kernel_rfl) (by kernel_rfl) (by kernel_rfl) (fun _ _ _ h => h) (Or.inl ⟨by rfl, ?_⟩) hSw ?_
  rotate_left
  · (intro W hW; obtain ⟨hz0, hz1⟩ := hW; go_simp; try with_reducible rfl)
  try simp only [Act.put, List.setIfInBounds_toArray, List.set_cons_zero, List.set_cons_succ]
  refine wpAnyH_take (i := 5) (oi := { dst := some 36, op := Go.Op.fieldAddr 27 (Go.Operand.tmp 7) 1, type := 0, pos := "object.go:209", after := #[], guard := none }) (v := ?_) rfl (by kernel_rfl) (by kernel_rfl) (by kernel_rfl) (fun _ _ _ h => h) (Or.inl ⟨by rfl, ?_⟩) hSw ?_
  rotate_left
  · (intro W hW; obtain ⟨hz0, hz1⟩ := hW; go_simp; try with_reducible rfl)
  try simp only [Act.put, List.setIfInBounds_toArray, List.set_cons_zero, List.set_cons_succ]
  refine wpAnyH_take (i := 6) (oi := { dst := some 37, op := Go.Op.load 25 (Go.Operand.tmp 36), type := 25, pos := "object.go:209", after := #[{ on := 5, ground := Go.Ground.data }], guard := none }) (v := ?_) rfl (by kernel_rfl) (by kernel_rfl) (by kernel_rfl) (fun _ _ _ h => h) (Or.inl ⟨by rfl, ?_⟩) hSw ?_
  rotate_left
  · (intro W hW; obtain ⟨hz0, hz1⟩ := hW; go_simp; try with_reducible rfl)
  try simp only [Act.put, List.setIfInBounds_toArray, List.set_cons_zero, List.set_cons_succ]
  refine wpAnyH_ready (rs := [3]) (by kernel_rfl) (by simp) ?_
  refine AllReadyH.cons (o := { dst := some 34, op := Go.Op.buildSlice 25 1 #[(0, Go.Operand.tmp 33)], type := 25, pos := "object.go:209", after := #[{ on := 2, ground := Go.Ground.data }], guard := none }) rfl (fun K hK => ?_) AllReadyH.nil
  rw [if_pos (by rfl)]
  go_simp
  have HQ2 := Lib.hid (((Chg.refl No w2.drew).alloc (.cells #[.int .u64 (t : Int)] 24)).heap (((Chg.refl No w2).drew).heap HQ.out (fun x => x)) (fun x => x))
  refine hK.out _ _ ⟨cellAt HQ2.out 0 _ rfl, cellAt HQ2.out 1 _ rfl⟩ (fun hSw => ?_)
  clear hK
  try simp only [Act.put, List.setIfInBounds_toArray, List.set_cons_zero, List.set_cons_succ]
  refine wpAnyH_ready (rs := [4]) (by kernel_rfl) (by simp) ?_
  refine AllReadyH.cons (o := { dst := some 35, op := Go.Op.call { callee := Go.Callee.builtin Go.Builtin.append, args := #[Go.Operand.tmp 31, Go.Operand.tmp 34], argTypes := #[25, 25] }, type := 25, pos := "object.go:209", after := #[{ on := 0, ground := Go.Ground.data }, { on := 3, ground := Go.Ground.data }], guard := none }) rfl (fun K hK => ?_) AllReadyH.nil
  rw [if_pos (by rfl)]
  refine wp_app2 (.tmp 31) (.tmp 34) 25 25 rfl w2.heap.size 24 (.int .u64 0) 1 8 infoId Try.underlying25 rfl (by decide) (.slice none 0 0) (.slice (some ⟨w2.heap.size, 0, none⟩) 1 1) 0 1 [] [u64v t] rfl rfl ?_ ?_ ?_ ?_ ?_ ?_
  · exact World.ownsRow_nil _ _ _ _
  · exact Src.one (w := w2.drew) Try.underlying25 (.int .u64 (t : Int)) rfl
  · omega
  · unfold maxLen; omega
  · exact (((Chg.refl No w2).drew).alloc _).size
  intro v4 w4 hown4 hg4 hfrom4
  obtain ⟨A4, c4, rfl⟩ := ownsRow_form hown4
  have HG4 : Hid (Chg No w2 w4) := (((Chg.refl No w2).drew).alloc _).grown hg4 (fun q hq => by simp [Value.ownBlock] at hq)
  have HQ4 := Lib.hid (HG4.out.heap HQ.out (fun x => x))
  have HO4 := Lib.hid hown4
  clear hown4 hg4 hfrom4
  refine hK.out _ _ ⟨cellAt HQ4.out 0 _ rfl, cellAt HQ4.out 1 _ rfl⟩ (fun hSw => ?_)
  clear hK
  try simp only [Act.put, List.setIfInBounds_toArray, List.set_cons_zero, List.set_cons_succ]
  refine wpAnyH_ready (rs := [7]) (by kernel_rfl) (by simp) ?_
  refine AllReadyH.cons (o := { dst := some 38, op := Go.Op.call { callee := Go.Callee.builtin Go.Builtin.append, args := #[Go.Operand.tmp 35, Go.Operand.tmp 37], argTypes := #[25, 25] }, type := 25, pos := "object.go:209", after := #[{ on := 4, ground := Go.Ground.data }, { on := 6, ground := Go.Ground.data }, { on := 4, ground := Go.Ground.chain }], guard := none }) rfl (fun K hK => ?_) AllReadyH.nil
  rw [if_pos (by rfl)]
  refine wp_app2 (.tmp 35) (.tmp 37) 25 25 rfl w2.heap.size 24 (.int .u64 0) 1 8 infoId Try.underlying25 rfl (by decide) (.slice A4 (0 + 1) c4) (.slice A n c) 1 n ([] ++ [u64v t]) (ps.map u64v) rfl rfl ?_ ?_ ?_ ?_ ?_ ?_
  · exact HO4.out
  · exact (srcIds (HS.out.no (HG2.out.no HG4.out)))
  · omega
  · unfold maxLen; omega
  · exact HG4.out.size
  intro v7 w7 hown7 hg7 hfrom7
  obtain ⟨A7, c7, rfl⟩ := ownsRow_form hown7
  have HG7 : Hid (Chg No w2 w7) := HG4.out.grown hg7 (fun q hq => .inl (World.ownsRow.lt HO4.out q hq).1)
  have HQ7 := Lib.hid (HG7.out.heap HQ.out (fun x => x))
  have HO7 := Lib.hid hown7
  clear hown7 hg7 hfrom7
  refine hK.out _ _ ⟨cellAt HQ7.out 0 _ rfl, cellAt HQ7.out 1 _ rfl⟩ (fun hSw => ?_)
  clear hK
  try simp only [Act.put, List.setIfInBounds_toArray, List.set_cons_zero, List.set_cons_succ]
  refine wpAnyH_take (i := 8) (oi := { dst := some 3, op := Go.Op.assign (Go.Operand.tmp 38), type := 25, pos := "object.go:209", after := #[{ on := 7, ground := Go.Ground.data }, { on := 7, ground := Go.Ground.chain }, { on := 0, ground := Go.Ground.phase }, { on := 1, ground := Go.Ground.phase }, { on := 2, ground := Go.Ground.phase }, { on := 3, ground := Go.Ground.phase }, { on := 4, ground := Go.Ground.phase }, { on := 5, ground := Go.Ground.phase }, { on := 6, ground := Go.Ground.phase }, { on := 7, ground := Go.Ground.phase }], guard := none }) (v := ?_) rfl (by kernel_rfl) (by kernel_rfl) (by kernel_rfl) (fun _ _ _ h => h) (Or.inl ⟨by rfl, ?_⟩) hSw ?_
  rotate_left
  · (intro W hW; obtain ⟨hz0, hz1⟩ := hW; go_simp; try with_reducible rfl)
  try simp only [Act.put, List.setIfInBounds_toArray, List.set_cons_zero, List.set_cons_succ]
  refine wpAnyH_done (by kernel_rfl) ?_ _
  go_wp2
  go_ret
  refine ⟨_, _, rfl, ?_, HG2.out.no HG7.out⟩
  have := ownsRow_mono HO7.out HG2.out.size
  simpa using this


set_option maxHeartbeats 400000 in
theorem clone_ids_some (w : World) (A : Addr) (n c : Nat) (xs : List Nat) (h : Sl u64v w (.slice (some A) n c) xs) (hl : xs.length = n) (hx : n ≤ 140737488351232 / 32) :
    Calls Try.prog 68 #[.slice (some A) n c] w fun e w' => ∃ v, e = .returned v ∧ w'.ownsRow w.heap.size 24 1 v n (xs.map u64v) ∧ Chg No w w' := by
  have hnil := Lib.run_eql_slice_nil (P := Try.prog)
  have H := Lib.hid h
  have HL := Lib.hid hl
  clear h hl
  go_enter Try.func68, Try.ntmps68
  go_wp2_with (at_builtin; (refine wpList_app2 rfl (.tmp 5) (.tmp 6) 25 25 rfl w.heap.size 24 (.int .u64 0) 1 8 infoId Try.underlying25 rfl (by decide) (.slice (some ⟨w.heap.size, 0, none⟩) 0 0) (.slice (some A) n c) 0 n ([]) (xs.map u64v) rfl rfl ?own ?src ?b1 ?b2 ?b3 ?_; (case own => exact World.ownsRow_made w #[] 0 (Nat.le_refl _) (Nat.zero_le _) rfl); (case src => exact srcIds (H.out.no ((Chg.refl _ _).alloc _))); (case b1 => omega); (case b2 => unfold maxLen; omega); (case b3 => simp); intro v8 w8 hown8 hg8 hfrom8; refine Hid.out ?_))
  refine Lib.hid ?_
  go_wp2
  go_ret
  refine ⟨_, rfl, ?_, ((Chg.refl _ _).alloc _).grown hg8 (by intro k hk; simp [Value.ownBlock] at hk; omega)⟩
  rw [Nat.zero_add, List.nil_append] at hown8
  exact hown8
set_option maxHeartbeats 400000 in
theorem clone_ids_none (w : World) (n c : Nat) :
    Calls Try.prog 68 #[.slice none n c] w fun e w' => e = .returned (.slice none 0 0) ∧ w = w' := by
  have hnil := Lib.run_eql_slice_nil (P := Try.prog)
  go_enter Try.func68, Try.ntmps68
  go_wp2
  go_ret
  exact ⟨rfl, rfl⟩
theorem clone_ids_any (w : World) (A : Option Addr) (n c : Nat) (xs : List Nat) (h : Sl u64v w (.slice A n c) xs) (hx : n ≤ 140737488351232 / 32) :
    Calls Try.prog 68 #[.slice A n c] w fun e w' => ∃ v, e = .returned v ∧ w'.ownsRow w.heap.size 24 1 v n (xs.map u64v) ∧ Chg No w w' := by
  have hl : xs.length = n := h.len
  cases A with
  | some A => exact clone_ids_some w A n c xs h hl hx
  | none =>
    have hn : xs = [] := by
      rcases Nat.eq_zero_or_pos xs.length with h0 | h0
      · exact List.eq_nil_of_length_eq_zero h0
      · have := h.addr h0
        obtain ⟨b, o, he, _⟩ := this
        cases he
    subst hn
    have : n = 0 := by simpa using hl.symm
    subst this
    refine (clone_ids_none w 0 c).mono ?_
    rintro e w' ⟨rfl, rfl⟩
    exact ⟨_, rfl, World.ownsRow_nil _ _ _ _, Chg.refl _ _⟩


set_option maxHeartbeats 400000 in
theorem clone_ents_some (w : World) (A : Addr) (n c : Nat) (xs : List Ent) (h : Es w (.slice (some A) n c) xs) (hl : xs.length = n) (hx : n ≤ 140737488351232 / 32) :
    Calls Try.prog 67 #[.slice (some A) n c] w fun e w' => ∃ v, e = .returned v ∧ w'.ownsRow w.heap.size 35 3 v n (xs.flatMap encE) ∧ Chg No w w' := by
  have hnil := Lib.run_eql_slice_nil (P := Try.prog)
  have H := Lib.hid h
  have HL := Lib.hid hl
  clear h hl
  go_enter Try.func67, Try.ntmps67
  go_wp2_with (at_builtin; (refine wpList_app2 rfl (.tmp 5) (.tmp 6) 22 22 rfl w.heap.size 35 (.agg #[.string ⟨#[]⟩, .bool false, .int .u64 0]) 3 32 infoEnt Try.underlying22 rfl (by decide) (.slice (some ⟨w.heap.size, 0, none⟩) 0 0) (.slice (some A) n c) 0 n ([]) (xs.flatMap encE) rfl rfl ?own ?src ?b1 ?b2 ?b3 ?_; (case own => exact World.ownsRow_made w #[] 0 (Nat.le_refl _) (Nat.zero_le _) rfl); (case src => exact srcEnts (H.out.no ((Chg.refl _ _).alloc _))); (case b1 => omega); (case b2 => unfold maxLen; omega); (case b3 => simp); intro v8 w8 hown8 hg8 hfrom8; refine Hid.out ?_))
  refine Lib.hid ?_
  go_wp2
  go_ret
  refine ⟨_, rfl, ?_, ((Chg.refl _ _).alloc _).grown hg8 (by intro k hk; simp [Value.ownBlock] at hk; omega)⟩
  rw [Nat.zero_add, List.nil_append] at hown8
  exact hown8
set_option maxHeartbeats 400000 in
theorem clone_ents_none (w : World) (n c : Nat) :
    Calls Try.prog 67 #[.slice none n c] w fun e w' => e = .returned (.slice none 0 0) ∧ w = w' := by
  have hnil := Lib.run_eql_slice_nil (P := Try.prog)
  go_enter Try.func67, Try.ntmps67
  go_wp2
  go_ret
  exact ⟨rfl, rfl⟩
theorem clone_ents_any (w : World) (A : Option Addr) (n c : Nat) (xs : List Ent) (h : Es w (.slice A n c) xs) (hx : n ≤ 140737488351232 / 32) :
    Calls Try.prog 67 #[.slice A n c] w fun e w' => ∃ v, e = .returned v ∧ w'.ownsRow w.heap.size 35 3 v n (xs.flatMap encE) ∧ Chg No w w' := by
  have hl : xs.length = n := h.len
  cases A with
  | some A => exact clone_ents_some w A n c xs h hl hx
  | none =>
    have hn : xs = [] := by
      rcases Nat.eq_zero_or_pos xs.length with h0 | h0
      · exact List.eq_nil_of_length_eq_zero h0
      · have := h.addr h0
        obtain ⟨b, o, he, _⟩ := this
        cases he
    subst hn
    have : n = 0 := by simpa using hl.symm
    subst this
    refine (clone_ents_none w 0 c).mono ?_
    rintro e w' ⟨rfl, rfl⟩
    exact ⟨_, rfl, World.ownsRow_nil _ _ _ _, Chg.refl _ _⟩

end Go.Proofs.Ytkmnkbmmgopldaa

namespace Go.Proofs.Ytkmnkbmmgopldaa
open Go.RowKit
set_option linter.unusedVariables false
set_option linter.unusedSimpArgs false
set_option maxRecDepth 100000

theorem asblob_blob (w : World) (A : Option Addr) (n c : Nat) : Calls Try.prog 33 #[blobV (.slice A n c)] w fun e w' => e = .returned (.tuple #[.agg #[.slice A n c], .bool true]) ∧ Chg No w w' := by
  have ft := fun w => ta_blob_blob w (.agg #[.slice A n c])
  go_enter Try.func33, Try.ntmps33
  go_wp2
  exact bodyPost_ret (v := .tuple #[.agg #[.slice A n c], .bool true]) (by simp [results, Try.results33, go_sem]) rfl ⟨rfl, ((Chg.refl No w).alloc _).alloc _⟩

theorem asblob_tree (w : World) (A : Option Addr) (n c : Nat) : Calls Try.prog 33 #[treeV (.slice A n c)] w fun e w' => e = .returned (.tuple #[.agg #[.slice none 0 0], .bool false]) ∧ Chg No w w' := by
  have ft := fun w => ta_tree_blob w (.agg #[.slice A n c])
  go_enter Try.func33, Try.ntmps33
  go_wp2
  exact bodyPost_ret (v := .tuple #[.agg #[.slice none 0 0], .bool false]) (by simp [results, Try.results33, go_sem]) rfl ⟨rfl, ((Chg.refl No w).alloc _).alloc _⟩

theorem asblob_commit (w : World) (t : Nat) (A : Option Addr) (n c : Nat) (a : ByteArray) (d : Int) (x : ByteArray) : Calls Try.prog 33 #[commitV (t : Int) (.slice A n c) a d x] w fun e w' => e = .returned (.tuple #[.agg #[.slice none 0 0], .bool false]) ∧ Chg No w w' := by
  have ft := fun w => ta_commit_blob w (.agg #[.int .u64 (t : Int), .slice A n c, .string a, .int .i64 d, .string x])
  go_enter Try.func33, Try.ntmps33
  go_wp2
  exact bodyPost_ret (v := .tuple #[.agg #[.slice none 0 0], .bool false]) (by simp [results, Try.results33, go_sem]) rfl ⟨rfl, ((Chg.refl No w).alloc _).alloc _⟩

theorem astree_blob (w : World) (A : Option Addr) (n c : Nat) : Calls Try.prog 34 #[blobV (.slice A n c)] w fun e w' => e = .returned (.tuple #[.agg #[.slice none 0 0], .bool false]) ∧ Chg No w w' := by
  have ft := fun w => ta_blob_tree w (.agg #[.slice A n c])
  go_enter Try.func34, Try.ntmps34
  go_wp2
  exact bodyPost_ret (v := .tuple #[.agg #[.slice none 0 0], .bool false]) (by simp [results, Try.results34, go_sem]) rfl ⟨rfl, ((Chg.refl No w).alloc _).alloc _⟩

theorem astree_commit (w : World) (t : Nat) (A : Option Addr) (n c : Nat) (a : ByteArray) (d : Int) (x : ByteArray) : Calls Try.prog 34 #[commitV (t : Int) (.slice A n c) a d x] w fun e w' => e = .returned (.tuple #[.agg #[.slice none 0 0], .bool false]) ∧ Chg No w w' := by
  have ft := fun w => ta_commit_tree w (.agg #[.int .u64 (t : Int), .slice A n c, .string a, .int .i64 d, .string x])
  go_enter Try.func34, Try.ntmps34
  go_wp2
  exact bodyPost_ret (v := .tuple #[.agg #[.slice none 0 0], .bool false]) (by simp [results, Try.results34, go_sem]) rfl ⟨rfl, ((Chg.refl No w).alloc _).alloc _⟩

theorem ascommit_blob (w : World) (A : Option Addr) (n c : Nat) : Calls Try.prog 35 #[blobV (.slice A n c)] w fun e w' => e = .returned (.tuple #[.agg #[.int .u64 0, .slice none 0 0, .string ⟨#[]⟩, .int .i64 0, .string ⟨#[]⟩], .bool false]) ∧ Chg No w w' := by
  have ft := fun w => ta_blob_commit w (.agg #[.slice A n c])
  go_enter Try.func35, Try.ntmps35
  go_wp2
  exact bodyPost_ret (v := .tuple #[.agg #[.int .u64 0, .slice none 0 0, .string ⟨#[]⟩, .int .i64 0, .string ⟨#[]⟩], .bool false]) (by simp [results, Try.results35, go_sem]) rfl ⟨rfl, ((Chg.refl No w).alloc _).alloc _⟩

theorem ascommit_tree (w : World) (A : Option Addr) (n c : Nat) : Calls Try.prog 35 #[treeV (.slice A n c)] w fun e w' => e = .returned (.tuple #[.agg #[.int .u64 0, .slice none 0 0, .string ⟨#[]⟩, .int .i64 0, .string ⟨#[]⟩], .bool false]) ∧ Chg No w w' := by
  have ft := fun w => ta_tree_commit w (.agg #[.slice A n c])
  go_enter Try.func35, Try.ntmps35
  go_wp2
  exact bodyPost_ret (v := .tuple #[.agg #[.int .u64 0, .slice none 0 0, .string ⟨#[]⟩, .int .i64 0, .string ⟨#[]⟩], .bool false]) (by simp [results, Try.results35, go_sem]) rfl ⟨rfl, ((Chg.refl No w).alloc _).alloc _⟩

theorem ascommit_commit (w : World) (t : Nat) (A : Option Addr) (n c : Nat) (a : ByteArray) (d : Int) (x : ByteArray) : Calls Try.prog 35 #[commitV (t : Int) (.slice A n c) a d x] w fun e w' => e = .returned (.tuple #[.agg #[.int .u64 (t : Int), .slice A n c, .string a, .int .i64 d, .string x], .bool true]) ∧ Chg No w w' := by
  have ft := fun w => ta_commit_commit w (.agg #[.int .u64 (t : Int), .slice A n c, .string a, .int .i64 d, .string x])
  go_enter Try.func35, Try.ntmps35
  go_wp2
  exact bodyPost_ret (v := .tuple #[.agg #[.int .u64 (t : Int), .slice A n c, .string a, .int .i64 d, .string x], .bool true]) (by simp [results, Try.results35, go_sem]) rfl ⟨rfl, ((Chg.refl No w).alloc _).alloc _⟩


theorem copy_blob (w : World) (A : Option Addr) (n c : Nat) (xs : List UInt8) (hb : Bytes w (.slice A n c) xs) (hn : n ≤ 140737488355328) :
    Calls Try.prog 36 #[blobV (.slice A n c)] w fun e w' => ∃ A' c', e = .returned (blobV (.slice A' n c')) ∧ OwnB w' w.heap.size (.slice A' n c') xs ∧ Chg No w w' := by
  have fb := fun w => ta_blob_blob w (.agg #[.slice A n c])
  have HL : Hid (xs.length = n) := by
    obtain ⟨A', c', he, _⟩ := hb
    simp only [Value.slice.injEq] at he
    exact he.2.1.symm
  have HB := Lib.hid hb
  clear hb
  have HQ := Lib.hid (heap_alloc_new w (.cells #[.slice A n c] 40))
  go_enter Try.func36, Try.ntmps36
  go_wp2_with fail
  refine (clone_any _ A n c xs (HB.out.no ((Chg.refl No w).alloc _)) hn).mono ?_
  rintro e w2 ⟨v, rfl, ho, hc2⟩
  obtain ⟨A2, n2, c2, rfl, HL2, HO2⟩ := ho.form
  obtain rfl : n2 = n := HL2.out.symm.trans HL.out
  have HQ2 := Lib.hid (hc2.heap HQ.out (fun x => x))
  have k0 := cellAt HQ2.out 0 _ rfl
  have f0 := frzAt HQ2.out 0
  have HC2 : Hid (Chg No w w2) := ((Chg.refl No w).alloc _).no hc2
  have hne : ∀ b, (Value.slice A2 n2 c2).ownBlock = some b → ¬ One w.heap.size b := fun b hb h => by
    have := (HO2.out.block b hb).1
    have h : b = w.heap.size := h
    simp only [World.size_alloc] at this
    omega
  have HO3 : Hid (OwnB (w2.setCell ⟨w.heap.size, 0, none⟩ (.slice A2 n2 c2)) w.heap.size (.slice A2 n2 c2) xs) := (HO2.out.mono (by simp only [World.size_alloc]; omega)).chg (Chg.put w2 w.heap.size 0 _) hne
  clear ho hc2 HQ HO2
  go_wp2
  go_ret
  exact ⟨_, _, rfl, HO3.out, HC2.out.setCell (.inl (Nat.le_refl _)) _⟩


theorem copy_tree (w : World) (A : Option Addr) (n c : Nat) (xs : List Ent) (hb : Es w (.slice A n c) xs) (hn : n ≤ 140737488351232 / 32) :
    Calls Try.prog 36 #[treeV (.slice A n c)] w fun e w' => ∃ A' c', e = .returned (treeV (.slice A' n c')) ∧ w'.ownsRow w.heap.size 35 3 (.slice A' n c') n (xs.flatMap encE) ∧ Chg No w w' := by
  have fb := fun w => ta_tree_blob w (.agg #[.slice A n c])
  have ft := fun w => ta_tree_tree w (.agg #[.slice A n c])
  have HB := Lib.hid hb
  clear hb
  have HQ := Lib.hid (heap_alloc_new w (.cells #[.slice A n c] 33))
  go_enter Try.func36, Try.ntmps36
  go_wp2_with fail
  refine (clone_ents_any _ A n c xs (HB.out.no ((Chg.refl No w).alloc _)) hn).mono ?_
  rintro e w2 ⟨v, rfl, ho, hc2⟩
  obtain ⟨A2, c2, rfl⟩ := ownsRow_form ho
  have HQ2 := Lib.hid (hc2.heap HQ.out (fun x => x))
  have k0 := cellAt HQ2.out 0 _ rfl
  have f0 := frzAt HQ2.out 0
  have HC2 : Hid (Chg No w w2) := ((Chg.refl No w).alloc _).no hc2
  have hne : ∀ b, (Value.slice A2 n c2).ownBlock = some b → ¬ One w.heap.size b := fun b hb h => by
    have := (World.ownsRow.lt ho b hb).1
    have h : b = w.heap.size := h
    simp only [World.size_alloc] at this
    omega
  have HO3 : Hid ((w2.setCell ⟨w.heap.size, 0, none⟩ (.slice A2 n c2)).ownsRow w.heap.size 35 3 (.slice A2 n c2) n (xs.flatMap encE)) := ownsRow_chg (ownsRow_mono ho (by simp only [World.size_alloc]; omega)) (Chg.put w2 w.heap.size 0 _) hne
  clear ho hc2 HQ
  go_wp2
  go_ret
  exact ⟨_, _, rfl, HO3.out, HC2.out.setCell (.inl (Nat.le_refl _)) _⟩


theorem copy_commit (w : World) (t : Nat) (A : Option Addr) (n c : Nat) (a : ByteArray) (d : Int) (x : ByteArray) (xs : List Nat) (hb : Sl u64v w (.slice A n c) xs) (hn : n ≤ 140737488351232 / 32) :
    Calls Try.prog 36 #[commitV (t : Int) (.slice A n c) a d x] w fun e w' => ∃ A' c', e = .returned (commitV (t : Int) (.slice A' n c') a d x) ∧ w'.ownsRow w.heap.size 24 1 (.slice A' n c') n (xs.map u64v) ∧ Chg No w w' := by
  have fb := fun w => ta_commit_blob w (.agg #[.int .u64 (t : Int), .slice A n c, .string a, .int .i64 d, .string x])
  have ft := fun w => ta_commit_tree w (.agg #[.int .u64 (t : Int), .slice A n c, .string a, .int .i64 d, .string x])
  have fc := fun w => ta_commit_commit w (.agg #[.int .u64 (t : Int), .slice A n c, .string a, .int .i64 d, .string x])
  have HB := Lib.hid hb
  clear hb
  have HQ := Lib.hid (heap_alloc_new w (.cells #[.int .u64 (t : Int), .slice A n c, .string a, .int .i64 d, .string x] 27))
  go_enter Try.func36, Try.ntmps36
  go_wp2_with fail
  refine (clone_ids_any _ A n c xs (HB.out.no ((Chg.refl No w).alloc _)) hn).mono ?_
  rintro e w2 ⟨v, rfl, ho, hc2⟩
  obtain ⟨A2, c2, rfl⟩ := ownsRow_form ho
  have HQ2 := Lib.hid (hc2.heap HQ.out (fun x => x))
  have k0 := cellAt HQ2.out 0 _ rfl
  have k1 := cellAt HQ2.out 1 _ rfl
  have k2 := cellAt HQ2.out 2 _ rfl
  have k3 := cellAt HQ2.out 3 _ rfl
  have k4 := cellAt HQ2.out 4 _ rfl
  have f0 := frzAt HQ2.out 1
  have HC2 : Hid (Chg No w w2) := ((Chg.refl No w).alloc _).no hc2
  have hne : ∀ b, (Value.slice A2 n c2).ownBlock = some b → ¬ One w.heap.size b := fun b hb h => by
    have := (World.ownsRow.lt ho b hb).1
    have h : b = w.heap.size := h
    simp only [World.size_alloc] at this
    omega
  have HO3 : Hid ((w2.setCell ⟨w.heap.size, 1, none⟩ (.slice A2 n c2)).ownsRow w.heap.size 24 1 (.slice A2 n c2) n (xs.map u64v)) := ownsRow_chg (ownsRow_mono ho (by simp only [World.size_alloc]; omega)) (Chg.put w2 w.heap.size 1 _) hne
  clear ho hc2 HQ
  go_wp2
  go_ret
  exact ⟨_, _, rfl, HO3.out, HC2.out.setCell (.inl (Nat.le_refl _)) _⟩

end Go.Proofs.Ytkmnkbmmgopldaa

