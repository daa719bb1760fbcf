/-
  The walk of ObjectCommits.
-/
import Derived.Test.YtkmnkbmmgopldaaRc
import Derived.BigRegion
import Derived.Deep.DeepCutAuto
import Derived.Deep.RegionHeld3
import Derived.Laws.MakeOwn
namespace Go.Proofs.Ytkmnkbmmgopldaa
open Go.RowKit
set_option linter.unusedVariables false
set_option linter.unusedSimpArgs false
set_option maxRecDepth 100000

theorem slTake {w : World} {A : Option Addr} {n c : Nat} {xs : List Nat} (h : Sl u64v w (.slice A n c) xs) {k : Nat} (hk : k ≤ n) : Sl u64v w (.slice A k c) (xs.take k) := by
  have hl := h.len
  obtain ⟨A', c', he, hn, hm, hx⟩ := h
  simp only [Value.slice.injEq] at he
  obtain ⟨rfl, rfl, rfl⟩ := he
  have hk' : (xs.take k).length = k := by rw [List.length_take]; omega
  refine ⟨_, _, by rw [hk'], by rw [hk']; omega, hm, fun hp => ?_⟩
  rw [List.length_map, hk'] at hp
  obtain ⟨b, o, rfl, hc⟩ := hx (by rw [List.length_map]; omega)
  refine ⟨b, o, rfl, fun j u hj => hc j u ?_⟩
  have hjl : j < k := by
    have := (List.getElem?_eq_some_iff.1 hj).1
    rwa [List.length_map, hk'] at this
  rw [List.getElem?_map] at hj ⊢
  rwa [List.getElem?_take_of_lt hjl] at hj
theorem commits_same (w : World) (t : Nat) (A : Option Addr) (n c : Nat) (ps : List Nat) (a : ByteArray) (d : Int) (x : ByteArray) (A' : Option Addr) (n' c' : Nat) (h : Sl u64v w (.slice A n c) ps) (h' : Sl u64v w (.slice A' n' c') ps) (hn : n ≤ 9223372036854775807) :
    Calls Try.prog 18 #[.agg #[.int .u64 (t : Int), .slice A n c, .string a, .int .i64 d, .string x], .agg #[.int .u64 (t : Int), .slice A' n' c', .string a, .int .i64 d, .string x]] w fun e w' => e = .returned (.bool true) ∧ Chg No w w' := by
  have := commits_calls w t A n c ps a d x t A' n' c' ps a d x h h' hn
  rwa [decide_eq_true ⟨rfl, rfl, rfl, rfl, rfl⟩] at this
theorem Src.cell1 {P : Program} {W : World} {tx e' t : TypeId} {g : Nat} {fz : Nat × Nat} (hk : P.underlying tx = some (.slice e')) (u : Value) (hg : W.heap[g]? = some (.cells #[u] t fz)) (h1 : u.oneCell' = true) :
    Src P 1 tx (.slice (some ⟨g, 0, none⟩) 1 1) 1 [u] W :=
  Src.ofSlice _ hk _ _ _ [u] (by simp) (fun i v hj => by
    rw [Addr.add_lit, Nat.zero_add]
    match i, hj with
    | 0, hj => simpa [World.cell?, hg] using hj
    | i + 1, hj => simp at hj) (fun v hv => by
      simp only [List.mem_cons, List.not_mem_nil, or_false] at hv
      subst hv; exact h1)
def commitW (t : Nat) (ps : List Nat) (a : List UInt8) (d : Int) (x : List UInt8) : List UInt8 := if commitF t ps a x = 0 then commitB t ps a d x else []
theorem refcommit_calls (w : World) (t : Nat) (A : Option Addr) (n c : Nat) (ps : List Nat) (a : ByteArray) (d : Int) (x : ByteArray) (hs : Sl u64v w (.slice A n c) ps) (hp : ∀ q ∈ ps, q < 18446744073709551616) (ht : t < 18446744073709551616) (hd : -9223372036854775808 ≤ d ∧ d ≤ 9223372036854775807) (hn : n ≤ 1000) (ha : a.size ≤ 9223372036854775807) (hx : x.size ≤ 9223372036854775807) :
    Calls Try.prog 39 #[.agg #[.int .u64 (t : Int), .slice A n c, .string a, .int .i64 d, .string x]] w fun e w' => ∃ A' n' c', e = .returned (.tuple #[.slice A' n' c', .int .i64 (commitF t ps a.data.toList x.data.toList : Nat)]) ∧ Bytes w' (.slice A' n' c') (commitW t ps a.data.toList d x.data.toList) ∧ (commitW t ps a.data.toList d x.data.toList).length = n' ∧ Chg No w w' := by
  unfold commitW
  by_cases hF : commitF t ps a.data.toList x.data.toList = 0
  · have := refcommit_ok w t A n c ps a d x hs (by omega) ha hx ht hp hF
    rw [if_pos hF, hF]
    exact this
  · have := refcommit_no w t A n c ps a d x hs (by omega) ha hx hF
    rw [if_neg hF]
    exact this
theorem says_commit (w : World) (t : Nat) (A : Option Addr) (n c : Nat) (ps : List Nat) (a : ByteArray) (d : Int) (x : ByteArray) (hs : Sl u64v w (.slice A n c) ps) (hp : ∀ q ∈ ps, q < 18446744073709551616) (ht : t < 18446744073709551616) (hd : -9223372036854775808 ≤ d ∧ d ≤ 9223372036854775807) (hn : n ≤ 1000) (ha : a.size ≤ 9223372036854775807) (hx : x.size ≤ 9223372036854775807) (W : World) (hW : Chg No w W) (A' : Option Addr) (n' c' : Nat) (hw : Bytes W (.slice A' n' c') (commitW t ps a.data.toList d x.data.toList)) (hwl : (commitW t ps a.data.toList d x.data.toList).length = n')
    (Al : Option Addr) (nl cl : Nat) (hL : Sl u64v W (.slice Al nl cl) (t :: ps)) :
    Calls Try.prog 32 #[commitV (t : Int) (.slice A n c) a d x, .int .i64 3, .slice A' n' c', .int .i64 (commitF t ps a.data.toList x.data.toList : Nat), .slice Al nl cl] W fun e w' => e = .returned (.bool true) ∧ Chg No W w' := by
  have he := (encodes_commit w t A n c ps a d x hs (by omega) ha hx ht hp).no hW
  have hck : ∀ V, Chg No W V → Calls Try.prog 14 #[commitV (t : Int) (.slice A n c) a d x] V fun e w' => e = .returned (.int .i64 (commitF t ps a.data.toList x.data.toList : Nat)) ∧ Chg No V w' := fun V hV => check_commit V t A n c ps a d x (hs.no (hW.no hV)) (by omega) ha hx
  have hkd : ∀ V, Calls Try.prog 23 #[commitV (t : Int) (.slice A n c) a d x] V fun e w' => e = .returned (.int .i64 ((3 : Nat) : Int)) ∧ V = w' := fun V => (kind_commit V _ _ _ _ _).mono fun _ _ h => ⟨h.1, h.2.symm⟩
  have hlen := hs.len
  by_cases hF : commitF t ps a.data.toList x.data.toList = 0
  · have hlk := links_commit w t A n c ps a d x hs (by omega) ha hx hF
    have hB := commitB_len (d := d) hF
    rw [commitW, if_pos hF] at hw hwl
    rw [if_pos hF, hF] at he
    rw [hF] at hck ⊢
    exact says_ok W _ 3 _ (Nat.le_trans hB (by decide)) he hck hkd (t :: ps) (by have := (commitF_zero hF).2.1; rw [List.length_cons]; omega) (fun V hV => hlk V (hW.no hV)) A' n' c' hw hwl Al nl cl hL
  · rw [commitW, if_neg hF] at hw hwl
    rw [if_neg hF] at he
    have hk : ((commitF t ps a.data.toList x.data.toList : Nat) : Int) ≠ 0 := by omega
    exact says_no W _ 3 _ hk he hck hkd (links_refused W _ _ hk hck) A' n' c' hw hwl Al nl cl


set_option maxHeartbeats 12800000 in
theorem objectCommits_core (w : World) (t : Nat) (A : Option Addr) (n c : Nat) (ps : List Nat) (a : ByteArray) (d : Int) (x : ByteArray) (hs : Sl u64v w (.slice A n c) ps) (hp : ∀ q ∈ ps, q < 18446744073709551616) (ht : t < 18446744073709551616) (hd : -9223372036854775808 ≤ d ∧ d ≤ 9223372036854775807) (hn : n ≤ maxLen) (ha : a.size ≤ maxLen) (hx : x.size ≤ maxLen) :
    Calls Try.prog 12 #[.agg #[.int .u64 (t : Int), .slice A n c, .string a, .int .i64 d, .string x]] w fun e w' => e = .returned (.bool true) ∧ Chg No w w' := by
  have mx : maxLen ≤ 9223372036854775807 := by unfold maxLen; omega
  have hl := hs.len
  have hnc : n ≤ c := by
    obtain ⟨A', c', he, h2, h3, -⟩ := hs
    simp only [Value.slice.injEq] at he
    omega
  have HS0 := Lib.hid hs
  have HL0 := Lib.hid hl
  have HP0 := Lib.hid hp
  have HQ := Lib.hid (heap_alloc_new w (.cells #[.int .u64 (t : Int), .slice A n c, .string a, .int .i64 d, .string x] 27))
  have HD := Lib.hid hd
  clear hs hl hp hd
  go_enter Try.func12, Try.ntmps12
  go_wp2_with fail
  refine (wakes_calls _).mono ?_
  rintro e w1 ⟨rfl, hc1⟩
  have HQ1 := Lib.hid (hc1.heap HQ.out (fun x => x))
  have HC1 := Lib.hid (((Chg.refl No w).alloc _).no hc1)
  clear hc1 HQ
  generalize hg : w.heap.size = g at *
  have hcap : (min (n : Int) 11) ≤ (c : Int) := by omega
  have hcap0 : 0 ≤ (min (n : Int) 11) := by omega
  have k1 := cellAt HQ1.out 1 _ rfl
  have f1 := frzAt HQ1.out 1
  go_upto_region 4 with fail
  have hN1 : (min (n : Int) 11).toNat ≤ n := by omega
  have hN : (min (n : Int) 11).toNat ≤ 11 := by omega
  have hNc : (min (n : Int) 11).toNat ≤ c := by omega
  clear hcap hcap0 k1 f1
  generalize (min (n : Int) 11).toNat = N at *
  have HSN : Hid (Sl u64v w (.slice A N c) (ps.take N)) := slTake HS0.out hN1
  have HLN : Hid ((ps.take N).length = N) := by rw [Hid, List.length_take, HL0.out]; omega
  have HPN : Hid (∀ q ∈ ps.take N, q < 18446744073709551616) := fun q hq => HP0.out q (List.mem_of_mem_take hq)
  clear HS0 HL0 HP0 hN1
  generalize ps.take N = qs at *
  have HC2 : Hid (Chg No w (w1.setCell ⟨g, 1, none⟩ (.slice A N c))) := HC1.out.setCell (.inl (Nat.le_of_eq hg)) _
  have HQ2 : Hid ((w1.setCell ⟨g, 1, none⟩ (.slice A N c)).heap[g]? = some (.cells #[.int .u64 (t : Int), .slice A N c, .string a, .int .i64 d, .string x] 27)) := heap_set HQ1.out 1 _
  clear HC1 HQ1
  generalize w1.setCell ⟨g, 1, none⟩ (.slice A N c) = w2 at *
  obtain ⟨k0, k1, k2, k3, k4⟩ := cells5b HQ2.out
  have f2 := frzAt HQ2.out 2
  have f4 := frzAt HQ2.out 4
  have ha1 : 0 ≤ (min (a.size : Int) 73) := by omega
  have ha2 : (min (a.size : Int) 73) ≤ (a.size : Int) := by omega
  have hx1 : 0 ≤ (min (x.size : Int) 1033) := by omega
  have hx2 : (min (x.size : Int) 1033) ≤ (x.size : Int) := by omega
  have k4' : (w2.setCell ⟨g, 2, none⟩ (.string (a.extract 0 (min (a.size : Int) 73).toNat))).cell? ⟨g, 4, none⟩ = some (.string x) := cellAt (heap_set HQ2.out 2 _) 4 _ rfl
  have f4' : (w2.setCell ⟨g, 2, none⟩ (.string (a.extract 0 (min (a.size : Int) 73).toNat))).frozen? ⟨g, 4, none⟩ = false := frzAt (heap_set HQ2.out 2 _) 4
  go_cut [] (fun wx => ∃ a' x' : ByteArray, a'.size ≤ 73 ∧ x'.size ≤ 1033 ∧ Hid (wx.heap[g]? = some (.cells #[.int .u64 (t : Int), .slice A N c, .string a', .int .i64 d, .string x'] 27)) ∧ Hid (Chg No w wx))
  case first =>
    go_region
    all_goals (go_wp2_with fail; go_meet; exact ⟨a.extract 0 (min (a.size : Int) 73).toNat, x.extract 0 (min (x.size : Int) 1033).toNat, by rw [ByteArray.size_extract]; omega, by rw [ByteArray.size_extract]; omega, heap_set (heap_set HQ2.out 2 _) 4 _, ((HC2.out.setCell (.inl (Nat.le_of_eq hg)) _).setCell (.inl (Nat.le_of_eq hg)) _).drew⟩)
  case rest =>
  obtain ⟨a', x', ha', hx', HQ3, HC3⟩ := hcut
  clear k0 k1 k2 k3 k4 f2 f4 ha1 ha2 hx1 hx2 k4' f4' HQ2 HC2 ha hx
  generalize wc = w3 at *
  obtain ⟨k0, k1, k2, k3, k4⟩ := cells5b HQ3.out
  go_upto_region 6 with fail
  have HX4 := Lib.hid (heap_alloc_new w3 (.cells #[.int .u64 (t : Int), .slice A N c, .string a', .int .i64 d, .string x'] 27))
  have HQW4 := Lib.hid (((Chg.refl No w3).alloc (.cells #[.int .u64 (t : Int), .slice A N c, .string a', .int .i64 d, .string x'] 27)).heap HQ3.out (fun x => x))
  have HCW4 : Hid (Chg No w (w3.alloc (.cells #[.int .u64 (t : Int), .slice A N c, .string a', .int .i64 d, .string x'] 27))) := HC3.out.alloc _
  have hgx : g < w3.heap.size := (Array.getElem?_eq_some_iff.1 HQ3.out).1
  clear k0 k1 k2 k3 k4 HQ3 HC3
  generalize w3.alloc (.cells #[.int .u64 (t : Int), .slice A N c, .string a', .int .i64 d, .string x'] 27) = w4 at *
  generalize w3.heap.size = gx at *
  have hmk : ∀ W : World, (Instr.makeSlice 25 (.int .i64 0) (.int .i64 20)).run Try.prog W = .ok (.slice (some ⟨W.heap.size, 0, none⟩) 0 20) (W.alloc (.cells (madeCells #[.int .u64 0] 20) 24)) := by
    intro W
    obtain ⟨i0, hi, hz0, hz1, hz2⟩ := info_parts infoId
    have := run_make (P := Try.prog) W 25 24 i0 (.int .u64 0) Try.underlying25 hi hz0 .i64 .i64 0 20 (by omega) (by omega) (by rw [hz2]; omega) (by omega)
    rw [hz1] at this
    exact this
  have hg4 : g ≤ w4.heap.size := by have := HCW4.out.size; omega
  go_cut [4] (fun s4 wx => ∃ A' c', s4 = .slice A' (N + 1) c' ∧ Hid (wx.ownsRow w4.heap.size 24 1 (.slice A' (N + 1) c') (N + 1) ((qs ++ [77]).map u64v)) ∧ Hid (Chg No w4 wx))
  case first =>
    refine wp_region_held_drew (S := (fun W => W.cell? ⟨g, 1, none⟩ = some (.slice A N c))) (by kernel_rfl) (cellAt HQW4.out 1 _ rfl) (fun hSw => ?_)
    have HC : Hid (Chg No w4 w4.drew) := (Chg.refl No w4).drew
    have HQ : Hid (w4.drew.heap[g]? = some (.cells #[.int .u64 (t : Int), .slice A N c, .string a', .int .i64 d, .string x'] 27)) := HQW4.out
    generalize w4.drew = u at *
    refine wpAnyH_take (i := 1) (oi := { dst := some 44, op := Go.Op.fieldAddr 27 (Go.Operand.tmp 1) 1, type := 0, pos := "law.go:153", after := #[], guard := none }) (v := ?_) rfl (by kernel_rfl) (by kernel_rfl) (by kernel_rfl) (fun _ _ _ h => h) (Or.inl ⟨by rfl, ?_⟩) hSw ?_
    rotate_left
    · (intro W hW; (try dsimp only at hW); have hz1 := hW; go_simp; try with_reducible rfl)
    try simp only [Act.put, List.setIfInBounds_toArray, List.set_cons_zero, List.set_cons_succ]
    refine wpAnyH_take (i := 2) (oi := { dst := some 45, op := Go.Op.load 25 (Go.Operand.tmp 44), type := 25, pos := "law.go:153", after := #[{ on := 1, ground := Go.Ground.data }], guard := none }) (v := ?_) rfl (by kernel_rfl) (by kernel_rfl) (by kernel_rfl) (fun _ _ _ h => h) (Or.inl ⟨by rfl, ?_⟩) hSw ?_
    rotate_left
    · (intro W hW; (try dsimp only at hW); have hz1 := hW; go_simp; try with_reducible rfl)
    try simp only [Act.put, List.setIfInBounds_toArray, List.set_cons_zero, List.set_cons_succ]
    refine wpAnyH_ready (rs := [0, 4]) (by kernel_rfl) (by simp) ?_
    refine (AllReadyH.cons (o := { dst := some 43, op := Go.Op.makeSlice 25 (Go.Operand.const (Go.Value.int Go.IntKind.i64 0)) (Go.Operand.const (Go.Value.int Go.IntKind.i64 20)), type := 25, pos := "law.go:153", after := #[], guard := none }) rfl (fun K hK => ?_) (AllReadyH.cons (o := { dst := some 47, op := Go.Op.buildSlice 25 1 #[(0, Go.Operand.const (Go.Value.int Go.IntKind.u64 77))], type := 25, pos := "law.go:153", after := #[], guard := none }) rfl (fun K hK => ?_) AllReadyH.nil))
    · skip
      rw [if_pos (by rfl)]
      go_simp
      have HC0 := Lib.hid (HC.out.alloc (.cells (madeCells #[.int .u64 0] 20) 24))
      have HQ0 := Lib.hid (((Chg.refl No u).alloc (.cells (madeCells #[.int .u64 0] 20) 24)).heap HQ.out (fun x => x))
      have HM0 : Hid ((u.alloc (.cells (madeCells #[.int .u64 0] 20) 24)).ownsRow w4.heap.size 24 1 (.slice (some ⟨u.heap.size, 0, none⟩) 0 20) 0 []) := World.ownsRow_made u _ 20 HC.out.size (by unfold maxLen; omega) (by rw [size_madeCells])
      have hgm : w4.heap.size ≤ u.heap.size := HC.out.size
      generalize u.alloc (.cells (madeCells #[.int .u64 0] 20) 24) = u0 at *
      generalize u.heap.size = gm at *
      refine hK.out _ _ (cellAt HQ0.out 1 _ rfl) (fun hSw => ?_)
      clear hK
      try simp only [Act.put, List.setIfInBounds_toArray, List.set_cons_zero, List.set_cons_succ]
      refine wpAnyH_ready (rs := [3, 4]) (by kernel_rfl) (by simp) ?_
      refine (AllReadyH.cons (o := { dst := some 46, op := Go.Op.call { callee := Go.Callee.builtin Go.Builtin.append, args := #[Go.Operand.tmp 43, Go.Operand.tmp 45], argTypes := #[25, 25] }, type := 25, pos := "law.go:153", after := #[{ on := 0, ground := Go.Ground.data }, { on := 2, ground := Go.Ground.data }], guard := none }) rfl (fun K hK => ?_) (AllReadyH.cons (o := { dst := some 47, op := Go.Op.buildSlice 25 1 #[(0, Go.Operand.const (Go.Value.int Go.IntKind.u64 77))], type := 25, pos := "law.go:153", after := #[], guard := none }) rfl (fun K hK => ?_) AllReadyH.nil))
      · skip
        rw [if_pos (by rfl)]
        refine wp_app2 (.tmp 43) (.tmp 45) 25 25 rfl w4.heap.size 24 (.int .u64 0) 1 8 infoId Try.underlying25 rfl (by decide) (.slice (some ⟨gm, 0, none⟩) 0 20) (.slice A N c) 0 N [] (qs.map u64v) rfl rfl ?_ ?_ ?_ ?_ ?_ ?_
        · exact HM0.out
        · exact srcIds (HSN.out.no (HCW4.out.no HC0.out))
        · omega
        · unfold maxLen; omega
        · exact HC0.out.size
        intro v3 u03 hown3 hg3 hfrom3
        rw [Nat.zero_add, List.nil_append] at hown3
        obtain ⟨A3, c3, rfl⟩ := ownsRow_form hown3
        have HC03 : Hid (Chg No w4 u03) := HC0.out.grown hg3 (fun q hq => .inl (World.ownsRow.lt HM0.out q hq).1)
        have HQ03 := Lib.hid (row_keep HM0.out hg3 HQ0.out (by decide))
        have HM03 := Lib.hid hown3
        clear hown3 hg3 hfrom3
        refine hK.out _ _ (cellAt HQ03.out 1 _ rfl) (fun hSw => ?_)
        clear hK
        try simp only [Act.put, List.setIfInBounds_toArray, List.set_cons_zero, List.set_cons_succ]
        refine wpAnyH_ready (rs := [4]) (by kernel_rfl) (by simp) ?_
        refine (AllReadyH.cons (o := { dst := some 47, op := Go.Op.buildSlice 25 1 #[(0, Go.Operand.const (Go.Value.int Go.IntKind.u64 77))], type := 25, pos := "law.go:153", after := #[], guard := none }) rfl (fun K hK => ?_) AllReadyH.nil)
        rw [if_pos (by rfl)]
        go_simp
        have HC034 := Lib.hid (HC03.out.alloc (.cells #[.int .u64 77] 24))
        have HQ034 := Lib.hid (((Chg.refl No u03).alloc (.cells #[.int .u64 77] 24)).heap HQ03.out (fun x => x))
        have HB034 : Hid ((u03.alloc (.cells #[.int .u64 77] 24)).heap[u03.heap.size]? = some (.cells #[.int .u64 77] 24)) := heap_alloc_new u03 _
        have HM034 := Lib.hid (World.ownsRow.alloc HM03.out (.cells #[.int .u64 77] 24))
        generalize u03.alloc (.cells #[.int .u64 77] 24) = u034 at *
        generalize u03.heap.size = gb at *
        refine hK.out _ _ (cellAt HQ034.out 1 _ rfl) (fun hSw => ?_)
        clear hK
        try simp only [Act.put, List.setIfInBounds_toArray, List.set_cons_zero, List.set_cons_succ]
        refine wpAnyH_ready (rs := [5]) (by kernel_rfl) (by simp) ?_
        refine (AllReadyH.cons (o := { dst := some 48, op := Go.Op.call { callee := Go.Callee.builtin Go.Builtin.append, args := #[Go.Operand.tmp 46, Go.Operand.tmp 47], argTypes := #[25, 25] }, type := 25, pos := "law.go:153", after := #[{ on := 3, ground := Go.Ground.data }, { on := 4, ground := Go.Ground.data }, { on := 3, ground := Go.Ground.chain }], guard := none }) rfl (fun K hK => ?_) AllReadyH.nil)
        rw [if_pos (by rfl)]
        refine wp_app2 (.tmp 46) (.tmp 47) 25 25 rfl w4.heap.size 24 (.int .u64 0) 1 8 infoId Try.underlying25 rfl (by decide) (.slice A3 N c3) (.slice (some ⟨gb, 0, none⟩) 1 1) N 1 (qs.map u64v) [u64v 77] rfl rfl ?_ ?_ ?_ ?_ ?_ ?_
        · exact HM034.out
        · exact Src.cell1 Try.underlying25 _ HB034.out rfl
        · omega
        · unfold maxLen; omega
        · exact HC034.out.size
        intro v5 u0345 hown5 hg5 hfrom5
        obtain ⟨A5, c5, rfl⟩ := ownsRow_form hown5
        have HC0345 : Hid (Chg No w4 u0345) := HC034.out.grown hg5 (fun q hq => .inl (World.ownsRow.lt HM034.out q hq).1)
        have HQ0345 := Lib.hid (row_keep HM034.out hg5 HQ034.out (by decide))
        have HM0345 : Hid (u0345.ownsRow w4.heap.size 24 1 (.slice A5 (N + 1) c5) (N + 1) ((qs ++ [77]).map u64v)) := by rw [Hid, List.map_append]; exact hown5
        clear hown5 hg5 hfrom5
        refine hK.out _ _ (cellAt HQ0345.out 1 _ rfl) (fun hSw => ?_)
        clear hK
        try simp only [Act.put, List.setIfInBounds_toArray, List.set_cons_zero, List.set_cons_succ]
        refine wpAnyH_take (i := 6) (oi := { dst := some 4, op := Go.Op.assign (Go.Operand.tmp 48), type := 25, pos := "law.go:153", after := #[{ on := 5, ground := Go.Ground.data }, { on := 5, ground := Go.Ground.chain }, { on := 0, ground := Go.Ground.phase }, { on := 1, ground := Go.Ground.phase }, { on := 2, ground := Go.Ground.phase }, { on := 3, ground := Go.Ground.phase }, { on := 4, ground := Go.Ground.phase }, { on := 5, ground := Go.Ground.phase }], guard := none }) (v := ?_) rfl (by kernel_rfl) (by kernel_rfl) (by kernel_rfl) (fun _ _ _ h => h) (Or.inl ⟨by rfl, ?_⟩) hSw ?_
        rotate_left
        · (intro W hW; (try dsimp only at hW); have hz1 := hW; go_simp; try with_reducible rfl)
        try simp only [Act.put, List.setIfInBounds_toArray, List.set_cons_zero, List.set_cons_succ]
        refine wpAnyH_done (by kernel_rfl) ?_ _
        go_wp2_with fail
        go_meet
        exact ⟨_, _, rfl, HM0345.out, HC0345.out⟩
      · skip
        rw [if_pos (by rfl)]
        go_simp
        have HC04 := Lib.hid (HC0.out.alloc (.cells #[.int .u64 77] 24))
        have HQ04 := Lib.hid (((Chg.refl No u0).alloc (.cells #[.int .u64 77] 24)).heap HQ0.out (fun x => x))
        have HB04 : Hid ((u0.alloc (.cells #[.int .u64 77] 24)).heap[u0.heap.size]? = some (.cells #[.int .u64 77] 24)) := heap_alloc_new u0 _
        have HM04 := Lib.hid (World.ownsRow.alloc HM0.out (.cells #[.int .u64 77] 24))
        have HNE04 : Hid (u0.heap.size ≠ gm) := by rw [Hid]; have := (World.ownsRow.lt HM0.out gm rfl).2; omega
        generalize u0.alloc (.cells #[.int .u64 77] 24) = u04 at *
        generalize u0.heap.size = gb at *
        refine hK.out _ _ (cellAt HQ04.out 1 _ rfl) (fun hSw => ?_)
        clear hK
        try simp only [Act.put, List.setIfInBounds_toArray, List.set_cons_zero, List.set_cons_succ]
        refine wpAnyH_ready (rs := [3]) (by kernel_rfl) (by simp) ?_
        refine (AllReadyH.cons (o := { dst := some 46, op := Go.Op.call { callee := Go.Callee.builtin Go.Builtin.append, args := #[Go.Operand.tmp 43, Go.Operand.tmp 45], argTypes := #[25, 25] }, type := 25, pos := "law.go:153", after := #[{ on := 0, ground := Go.Ground.data }, { on := 2, ground := Go.Ground.data }], guard := none }) rfl (fun K hK => ?_) AllReadyH.nil)
        rw [if_pos (by rfl)]
        refine wp_app2 (.tmp 43) (.tmp 45) 25 25 rfl w4.heap.size 24 (.int .u64 0) 1 8 infoId Try.underlying25 rfl (by decide) (.slice (some ⟨gm, 0, none⟩) 0 20) (.slice A N c) 0 N [] (qs.map u64v) rfl rfl ?_ ?_ ?_ ?_ ?_ ?_
        · exact HM04.out
        · exact srcIds (HSN.out.no (HCW4.out.no HC04.out))
        · omega
        · unfold maxLen; omega
        · exact HC04.out.size
        intro v3 u043 hown3 hg3 hfrom3
        rw [Nat.zero_add, List.nil_append] at hown3
        obtain ⟨A3, c3, rfl⟩ := ownsRow_form hown3
        have HC043 : Hid (Chg No w4 u043) := HC04.out.grown hg3 (fun q hq => .inl (World.ownsRow.lt HM04.out q hq).1)
        have HQ043 := Lib.hid (row_keep HM04.out hg3 HQ04.out (by decide))
        have HM043 := Lib.hid hown3
        have HB043 := Lib.hid ((Chg.ofGrown (S := fun k => (Value.slice (some ⟨gm, 0, none⟩) 0 20).ownBlock = some k) hg3 (fun k hk => hk)).heap HB04.out (fun h => by have h : some gm = some gb := h; exact HNE04.out (Option.some.inj h).symm))
        clear hown3 hg3 hfrom3
        refine hK.out _ _ (cellAt HQ043.out 1 _ rfl) (fun hSw => ?_)
        clear hK
        try simp only [Act.put, List.setIfInBounds_toArray, List.set_cons_zero, List.set_cons_succ]
        refine wpAnyH_ready (rs := [5]) (by kernel_rfl) (by simp) ?_
        refine (AllReadyH.cons (o := { dst := some 48, op := Go.Op.call { callee := Go.Callee.builtin Go.Builtin.append, args := #[Go.Operand.tmp 46, Go.Operand.tmp 47], argTypes := #[25, 25] }, type := 25, pos := "law.go:153", after := #[{ on := 3, ground := Go.Ground.data }, { on := 4, ground := Go.Ground.data }, { on := 3, ground := Go.Ground.chain }], guard := none }) rfl (fun K hK => ?_) AllReadyH.nil)
        rw [if_pos (by rfl)]
        refine wp_app2 (.tmp 46) (.tmp 47) 25 25 rfl w4.heap.size 24 (.int .u64 0) 1 8 infoId Try.underlying25 rfl (by decide) (.slice A3 N c3) (.slice (some ⟨gb, 0, none⟩) 1 1) N 1 (qs.map u64v) [u64v 77] rfl rfl ?_ ?_ ?_ ?_ ?_ ?_
        · exact HM043.out
        · exact Src.cell1 Try.underlying25 _ HB043.out rfl
        · omega
        · unfold maxLen; omega
        · exact HC043.out.size
        intro v5 u0435 hown5 hg5 hfrom5
        obtain ⟨A5, c5, rfl⟩ := ownsRow_form hown5
        have HC0435 : Hid (Chg No w4 u0435) := HC043.out.grown hg5 (fun q hq => .inl (World.ownsRow.lt HM043.out q hq).1)
        have HQ0435 := Lib.hid (row_keep HM043.out hg5 HQ043.out (by decide))
        have HM0435 : Hid (u0435.ownsRow w4.heap.size 24 1 (.slice A5 (N + 1) c5) (N + 1) ((qs ++ [77]).map u64v)) := by rw [Hid, List.map_append]; exact hown5
        clear hown5 hg5 hfrom5
        refine hK.out _ _ (cellAt HQ0435.out 1 _ rfl) (fun hSw => ?_)
        clear hK
        try simp only [Act.put, List.setIfInBounds_toArray, List.set_cons_zero, List.set_cons_succ]
        refine wpAnyH_take (i := 6) (oi := { dst := some 4, op := Go.Op.assign (Go.Operand.tmp 48), type := 25, pos := "law.go:153", after := #[{ on := 5, ground := Go.Ground.data }, { on := 5, ground := Go.Ground.chain }, { on := 0, ground := Go.Ground.phase }, { on := 1, ground := Go.Ground.phase }, { on := 2, ground := Go.Ground.phase }, { on := 3, ground := Go.Ground.phase }, { on := 4, ground := Go.Ground.phase }, { on := 5, ground := Go.Ground.phase }], guard := none }) (v := ?_) rfl (by kernel_rfl) (by kernel_rfl) (by kernel_rfl) (fun _ _ _ h => h) (Or.inl ⟨by rfl, ?_⟩) hSw ?_
        rotate_left
        · (intro W hW; (try dsimp only at hW); have hz1 := hW; go_simp; try with_reducible rfl)
        try simp only [Act.put, List.setIfInBounds_toArray, List.set_cons_zero, List.set_cons_succ]
        refine wpAnyH_done (by kernel_rfl) ?_ _
        go_wp2_with fail
        go_meet
        exact ⟨_, _, rfl, HM0435.out, HC0435.out⟩
    · skip
      rw [if_pos (by rfl)]
      go_simp
      have HC4 := Lib.hid (HC.out.alloc (.cells #[.int .u64 77] 24))
      have HQ4 := Lib.hid (((Chg.refl No u).alloc (.cells #[.int .u64 77] 24)).heap HQ.out (fun x => x))
      have HB4 : Hid ((u.alloc (.cells #[.int .u64 77] 24)).heap[u.heap.size]? = some (.cells #[.int .u64 77] 24)) := heap_alloc_new u _
      generalize u.alloc (.cells #[.int .u64 77] 24) = u4 at *
      generalize u.heap.size = gb at *
      refine hK.out _ _ (cellAt HQ4.out 1 _ rfl) (fun hSw => ?_)
      clear hK
      try simp only [Act.put, List.setIfInBounds_toArray, List.set_cons_zero, List.set_cons_succ]
      refine wpAnyH_ready (rs := [0]) (by kernel_rfl) (by simp) ?_
      refine (AllReadyH.cons (o := { dst := some 43, op := Go.Op.makeSlice 25 (Go.Operand.const (Go.Value.int Go.IntKind.i64 0)) (Go.Operand.const (Go.Value.int Go.IntKind.i64 20)), type := 25, pos := "law.go:153", after := #[], guard := none }) rfl (fun K hK => ?_) AllReadyH.nil)
      rw [if_pos (by rfl)]
      go_simp
      have HC40 := Lib.hid (HC4.out.alloc (.cells (madeCells #[.int .u64 0] 20) 24))
      have HQ40 := Lib.hid (((Chg.refl No u4).alloc (.cells (madeCells #[.int .u64 0] 20) 24)).heap HQ4.out (fun x => x))
      have HM40 : Hid ((u4.alloc (.cells (madeCells #[.int .u64 0] 20) 24)).ownsRow w4.heap.size 24 1 (.slice (some ⟨u4.heap.size, 0, none⟩) 0 20) 0 []) := World.ownsRow_made u4 _ 20 HC4.out.size (by unfold maxLen; omega) (by rw [size_madeCells])
      have hgm : w4.heap.size ≤ u4.heap.size := HC4.out.size
      have HB40 := Lib.hid (((Chg.refl No u4).alloc (.cells (madeCells #[.int .u64 0] 20) 24)).heap HB4.out (fun x => x))
      have HNE40 : Hid (gb ≠ u4.heap.size) := by rw [Hid]; have := (Array.getElem?_eq_some_iff.1 HB4.out).1; omega
      generalize u4.alloc (.cells (madeCells #[.int .u64 0] 20) 24) = u40 at *
      generalize u4.heap.size = gm at *
      refine hK.out _ _ (cellAt HQ40.out 1 _ rfl) (fun hSw => ?_)
      clear hK
      try simp only [Act.put, List.setIfInBounds_toArray, List.set_cons_zero, List.set_cons_succ]
      refine wpAnyH_ready (rs := [3]) (by kernel_rfl) (by simp) ?_
      refine (AllReadyH.cons (o := { dst := some 46, op := Go.Op.call { callee := Go.Callee.builtin Go.Builtin.append, args := #[Go.Operand.tmp 43, Go.Operand.tmp 45], argTypes := #[25, 25] }, type := 25, pos := "law.go:153", after := #[{ on := 0, ground := Go.Ground.data }, { on := 2, ground := Go.Ground.data }], guard := none }) rfl (fun K hK => ?_) AllReadyH.nil)
      rw [if_pos (by rfl)]
      refine wp_app2 (.tmp 43) (.tmp 45) 25 25 rfl w4.heap.size 24 (.int .u64 0) 1 8 infoId Try.underlying25 rfl (by decide) (.slice (some ⟨gm, 0, none⟩) 0 20) (.slice A N c) 0 N [] (qs.map u64v) rfl rfl ?_ ?_ ?_ ?_ ?_ ?_
      · exact HM40.out
      · exact srcIds (HSN.out.no (HCW4.out.no HC40.out))
      · omega
      · unfold maxLen; omega
      · exact HC40.out.size
      intro v3 u403 hown3 hg3 hfrom3
      rw [Nat.zero_add, List.nil_append] at hown3
      obtain ⟨A3, c3, rfl⟩ := ownsRow_form hown3
      have HC403 : Hid (Chg No w4 u403) := HC40.out.grown hg3 (fun q hq => .inl (World.ownsRow.lt HM40.out q hq).1)
      have HQ403 := Lib.hid (row_keep HM40.out hg3 HQ40.out (by decide))
      have HM403 := Lib.hid hown3
      have HB403 := Lib.hid ((Chg.ofGrown (S := fun k => (Value.slice (some ⟨gm, 0, none⟩) 0 20).ownBlock = some k) hg3 (fun k hk => hk)).heap HB40.out (fun h => by have h : some gm = some gb := h; exact HNE40.out (Option.some.inj h).symm))
      clear hown3 hg3 hfrom3
      refine hK.out _ _ (cellAt HQ403.out 1 _ rfl) (fun hSw => ?_)
      clear hK
      try simp only [Act.put, List.setIfInBounds_toArray, List.set_cons_zero, List.set_cons_succ]
      refine wpAnyH_ready (rs := [5]) (by kernel_rfl) (by simp) ?_
      refine (AllReadyH.cons (o := { dst := some 48, op := Go.Op.call { callee := Go.Callee.builtin Go.Builtin.append, args := #[Go.Operand.tmp 46, Go.Operand.tmp 47], argTypes := #[25, 25] }, type := 25, pos := "law.go:153", after := #[{ on := 3, ground := Go.Ground.data }, { on := 4, ground := Go.Ground.data }, { on := 3, ground := Go.Ground.chain }], guard := none }) rfl (fun K hK => ?_) AllReadyH.nil)
      rw [if_pos (by rfl)]
      refine wp_app2 (.tmp 46) (.tmp 47) 25 25 rfl w4.heap.size 24 (.int .u64 0) 1 8 infoId Try.underlying25 rfl (by decide) (.slice A3 N c3) (.slice (some ⟨gb, 0, none⟩) 1 1) N 1 (qs.map u64v) [u64v 77] rfl rfl ?_ ?_ ?_ ?_ ?_ ?_
      · exact HM403.out
      · exact Src.cell1 Try.underlying25 _ HB403.out rfl
      · omega
      · unfold maxLen; omega
      · exact HC403.out.size
      intro v5 u4035 hown5 hg5 hfrom5
      obtain ⟨A5, c5, rfl⟩ := ownsRow_form hown5
      have HC4035 : Hid (Chg No w4 u4035) := HC403.out.grown hg5 (fun q hq => .inl (World.ownsRow.lt HM403.out q hq).1)
      have HQ4035 := Lib.hid (row_keep HM403.out hg5 HQ403.out (by decide))
      have HM4035 : Hid (u4035.ownsRow w4.heap.size 24 1 (.slice A5 (N + 1) c5) (N + 1) ((qs ++ [77]).map u64v)) := by rw [Hid, List.map_append]; exact hown5
      clear hown5 hg5 hfrom5
      refine hK.out _ _ (cellAt HQ4035.out 1 _ rfl) (fun hSw => ?_)
      clear hK
      try simp only [Act.put, List.setIfInBounds_toArray, List.set_cons_zero, List.set_cons_succ]
      refine wpAnyH_take (i := 6) (oi := { dst := some 4, op := Go.Op.assign (Go.Operand.tmp 48), type := 25, pos := "law.go:153", after := #[{ on := 5, ground := Go.Ground.data }, { on := 5, ground := Go.Ground.chain }, { on := 0, ground := Go.Ground.phase }, { on := 1, ground := Go.Ground.phase }, { on := 2, ground := Go.Ground.phase }, { on := 3, ground := Go.Ground.phase }, { on := 4, ground := Go.Ground.phase }, { on := 5, ground := Go.Ground.phase }], guard := none }) (v := ?_) rfl (by kernel_rfl) (by kernel_rfl) (by kernel_rfl) (fun _ _ _ h => h) (Or.inl ⟨by rfl, ?_⟩) hSw ?_
      rotate_left
      · (intro W hW; (try dsimp only at hW); have hz1 := hW; go_simp; try with_reducible rfl)
      try simp only [Act.put, List.setIfInBounds_toArray, List.set_cons_zero, List.set_cons_succ]
      refine wpAnyH_done (by kernel_rfl) ?_ _
      go_wp2_with fail
      go_meet
      exact ⟨_, _, rfl, HM4035.out, HC4035.out⟩
  case rest =>
  obtain ⟨A5, c5, rfl, HOF, HG5⟩ := hcut
  generalize wc = w5 at *
  have HQ5 := Lib.hid (HG5.out.heap HQW4.out (fun x => x))
  have HX5 := Lib.hid (HG5.out.heap HX4.out (fun x => x))
  have HC5 := Lib.hid (HCW4.out.no HG5.out)
  have hNc5 : N ≤ c5 := by
    rcases HOF.out.2 with ⟨he, h0⟩ | ⟨gg, cap, cur, he, -, -, hnn, -⟩
    · omega
    · simp only [Value.slice.injEq, true_and] at he
      obtain ⟨-, rfl⟩ := he
      omega
  clear HQW4 HX4 HCW4 hmk HG5
  have hgx5 : g ≤ gx := by omega
  have k1 := cellAt HQ5.out 1 _ rfl
  have j1 := cellAt HX5.out 1 _ rfl
  have f1 := frzAt HX5.out 1
  go_upto_region 8 with fail
  have HC6 : Hid (Chg No w (w5.setCell ⟨gx, 1, none⟩ (.slice A5 N c5))) := HC5.out.setCell (.inl (Nat.le_trans (Nat.le_of_eq hg) hgx5)) _
  have HX6 : Hid ((w5.setCell ⟨gx, 1, none⟩ (.slice A5 N c5)).heap[gx]? = some (.cells #[.int .u64 (t : Int), .slice A5 N c5, .string a', .int .i64 d, .string x'] 27)) := heap_set HX5.out 1 _
  have HQ6 : Hid ((w5.setCell ⟨gx, 1, none⟩ (.slice A5 N c5)).heap[g]? = some (.cells #[.int .u64 (t : Int), .slice A N c, .string a', .int .i64 d, .string x'] 27)) := (Chg.put w5 gx 1 _).heap HQ5.out (fun h => by have h : g = gx := h; omega)
  have HOF6 : Hid ((w5.setCell ⟨gx, 1, none⟩ (.slice A5 N c5)).ownsRow w4.heap.size 24 1 (.slice A5 (N + 1) c5) (N + 1) ((qs ++ [77]).map u64v)) := ownsRow_chg HOF.out (Chg.put w5 gx 1 _) (fun q hq h => by
    have h : q = gx := h
    subst h
    obtain ⟨cc, fz, hcc⟩ := ownsRow_cells HOF.out q hq
    have := hcc.symm.trans HX5.out
    simp only [Option.some.injEq, Obj.cells.injEq] at this
    exact absurd this.2.1 (by decide))
  clear k1 j1 f1 HC5 HX5 HQ5 HOF
  generalize w5.setCell ⟨gx, 1, none⟩ (.slice A5 N c5) = w6 at *
  have HFF : Hid (Sl u64v w6 (.slice A5 (N + 1) c5) (qs ++ [77])) := slOwn HOF6.out (by rw [List.length_append, HLN.out]; rfl)
  obtain ⟨gf, rfl, -, -, -⟩ := own_put HOF6.out (by omega)
  have HF : Hid (Sl u64v w6 (.slice (some ⟨gf, 0, none⟩) N c5) qs) := by
    have := slTake HFF.out (k := N) (by omega)
    rwa [List.take_append_of_le_length (by rw [HLN.out]; exact Nat.le_refl _), List.take_of_length_le (by rw [HLN.out]; exact Nat.le_refl _)] at this
  have h7 : w6.cell? ⟨gf, N, none⟩ = some (.int .u64 77) := by
    obtain ⟨b, o, he, hc⟩ := HFF.out.addr (by rw [List.length_append, HLN.out]; simp)
    cases he
    have := hc N (by rw [List.length_append, HLN.out]; simp)
    rw [Nat.zero_add] at this
    rw [this, List.getElem_append_right (by rw [HLN.out]; exact Nat.le_refl _)]
    simp [HLN.out, u64v]
  have H7 := Lib.hid h7
  have hNi : ((N : Int)) < ((N + 1 : Nat) : Int) := by omega
  have HB6 : Hid (Sl u64v w6 (.slice A N c) qs) := HSN.out.no HC6.out
  clear h7 HFF HOF6 HSN
  obtain ⟨k0, k1, k2, k3, k4⟩ := cells5b HQ6.out
  go_wp2_with fail
  refine (refcommit_calls w6 t A N c qs a' d x' HB6.out HPN.out ht HD.out (by omega) (by omega) (by omega)).mono ?_
  rintro e w7 ⟨Aw, nw, cw, rfl, hB7, hl7, hc7⟩
  have HG7 := Lib.hid hc7
  have HW7 := Lib.hid hB7
  have HWL7 := Lib.hid hl7
  have HQ7 := Lib.hid (hc7.heap HQ6.out (fun x => x))
  have HX7 := Lib.hid (hc7.heap HX6.out (fun x => x))
  clear hc7 hB7 hl7 k0 k1 k2 k3 k4 HQ6 HX6
  have k0 := cellAt HQ7.out 0 _ rfl
  have k1 : (w7.alloc (.cells #[.int .u64 (t : Int)] 24)).cell? ⟨g, 1, none⟩ = some (.slice A N c) := cellAt (((Chg.refl No w7).alloc _).heap HQ7.out (fun x => x)) 1 _ rfl
  have own8 : Hid ((w7.alloc (.cells #[.int .u64 (t : Int)] 24)).ownsRow w7.heap.size 24 1 (.slice (some ⟨w7.heap.size, 0, none⟩) 1 1) 1 [u64v t]) := ⟨rfl, .inr ⟨w7.heap.size, 1, #[.int .u64 (t : Int)], rfl, Nat.le_refl _, heap_alloc_new w7 _, Nat.le_refl _, by unfold maxLen; omega, rfl, rfl⟩⟩
  have src8 : Hid (Src Try.prog 1 25 (.slice A N c) N (qs.map u64v) (w7.alloc (.cells #[.int .u64 (t : Int)] 24))) := srcIds (HB6.out.no (HG7.out.alloc _))
  go_wp2_with (at_builtin; (refine wpList_app2 rfl (.tmp 62) (.tmp 64) 25 25 rfl w7.heap.size 24 (.int .u64 0) 1 8 infoId Try.underlying25 rfl (by decide) (.slice (some ⟨w7.heap.size, 0, none⟩) 1 1) (.slice A N c) 1 N ([u64v t]) (qs.map u64v) rfl rfl ?own ?src ?b1 ?b2 ?b3 ?_; (case own => exact own8.out); (case src => exact src8.out); (case b1 => omega); (case b2 => unfold maxLen; omega); (case b3 => (simp only [World.size_alloc]; omega)); intro v8 w8 hown8 hg8 hfrom8; refine Hid.out ?_))
  refine Lib.hid ?_
  obtain ⟨A8, c8, rfl⟩ := ownsRow_form hown8
  have HG8' : Hid (Chg No w7 w8) := ((Chg.refl No w7).alloc _).grown hg8 (fun q hq => .inl (World.ownsRow.lt own8.out q hq).1)
  have HL8 : Hid (Sl u64v w8 (.slice A8 (1 + N) c8) (t :: qs)) := slOwn (by have := hown8; exact this) (by rw [List.length_cons, HLN.out]; omega)
  have HG8 := Lib.hid (HG7.out.no HG8'.out)
  have HQ8 := Lib.hid (HG8'.out.heap HQ7.out (fun x => x))
  have HX8 := Lib.hid (HG8'.out.heap HX7.out (fun x => x))
  have HSAY : Hid (Calls Try.prog 32 #[commitV (t : Int) (.slice (some ⟨gf, 0, none⟩) N c5) a' d x', .int .i64 3, .slice Aw nw cw, .int .i64 (commitF t qs a'.data.toList x'.data.toList : Nat), .slice A8 (1 + N) c8] w8 fun e w' => e = .returned (.bool true) ∧ Chg No w8 w') := says_commit w6 t _ N c5 qs a' d x' HF.out HPN.out ht HD.out (by omega) (by omega) (by omega) w8 HG8.out Aw nw cw (HW7.out.no HG8'.out) HWL7.out A8 (1 + N) c8 HL8.out
  clear hown8 hg8 hfrom8 own8 src8 k0 k1 HG7 HQ7 HX7 HG8' HL8 HW7 HWL7
  generalize commitF t qs a'.data.toList x'.data.toList = no at *
  obtain ⟨j0, j1, j2, j3, j4⟩ := cells5b HX8.out
  go_wp2_with fail
  refine HSAY.out.mono ?_
  rintro e w9 ⟨rfl, hc9⟩
  have HG9 := Lib.hid (HG8.out.no hc9)
  have HQ9 := Lib.hid (hc9.heap HQ8.out (fun x => x))
  have HX9 := Lib.hid (hc9.heap HX8.out (fun x => x))
  clear hc9 j0 j1 j2 j3 j4 HG8 HQ8 HX8 HSAY
  obtain ⟨j0, j1, j2, j3, j4⟩ := cells5b HX9.out
  obtain ⟨k0, k1, k2, k3, k4⟩ := cells5b HQ9.out
  go_wp2_with fail
  refine (commits_same _ t _ N c5 qs a' d x' A N c (HF.out.no HG9.out) (HB6.out.no HG9.out) (by omega)).mono ?_
  rintro e w10 ⟨rfl, hc10⟩
  have HG10 := Lib.hid (HG9.out.no hc10)
  have HQ10 := Lib.hid (hc10.heap HQ9.out (fun x => x))
  have HX10 := Lib.hid (hc10.heap HX9.out (fun x => x))
  clear hc10 j0 j1 j2 j3 j4 k0 k1 k2 k3 k4 HG9 HQ9 HX9
  have k7 := HG10.out.cell H7.out (fun x => x)
  have k1 := cellAt HQ10.out 1 _ rfl
  obtain ⟨j0, j1, j2, j3, j4⟩ := cells5b HX10.out
  go_wp2_with fail
  refine (ascommit_commit _ t _ N c5 a' d x').mono ?_
  rintro e w11 ⟨rfl, hc11⟩
  have HG11 := Lib.hid (HG10.out.no hc11)
  have HQ11 := Lib.hid (hc11.heap HQ10.out (fun x => x))
  have HX11 := Lib.hid (hc11.heap HX10.out (fun x => x))
  clear hc11 j0 j1 j2 j3 j4 k1 k7 HG10 HQ10 HX10
  have HY12 := Lib.hid (heap_alloc_new w11 (.cells #[.int .u64 (t : Int), .slice (some ⟨gf, 0, none⟩) N c5, .string a', .int .i64 d, .string x'] 27))
  have HQ12 := Lib.hid (((Chg.refl No w11).alloc (.cells #[.int .u64 (t : Int), .slice (some ⟨gf, 0, none⟩) N c5, .string a', .int .i64 d, .string x'] 27)).heap HQ11.out (fun x => x))
  have HX12 := Lib.hid (((Chg.refl No w11).alloc (.cells #[.int .u64 (t : Int), .slice (some ⟨gf, 0, none⟩) N c5, .string a', .int .i64 d, .string x'] 27)).heap HX11.out (fun x => x))
  have HG12 : Hid (Chg No w6 (w11.alloc (.cells #[.int .u64 (t : Int), .slice (some ⟨gf, 0, none⟩) N c5, .string a', .int .i64 d, .string x'] 27))) := HG11.out.alloc _
  obtain ⟨j0, j1, j2, j3, j4⟩ := cells5b HX12.out
  go_wp2_with fail
  refine (asblob_commit _ t _ N c5 a' d x').mono ?_
  rintro e w13 ⟨rfl, hc13⟩
  generalize w11.heap.size = gy at *
  have HG13 := Lib.hid (HG12.out.no hc13)
  have HQ13 := Lib.hid (hc13.heap HQ12.out (fun x => x))
  have HX13 := Lib.hid (hc13.heap HX12.out (fun x => x))
  have HY13 := Lib.hid (hc13.heap HY12.out (fun x => x))
  clear hc13 j0 j1 j2 j3 j4 HG11 HQ11 HX11 HG12 HQ12 HX12 HY12
  have HG14 : Hid (Chg No w6 (w13.alloc (.cells #[.slice none 0 0] 40))) := HG13.out.alloc _
  have HQ14 := Lib.hid (((Chg.refl No w13).alloc (.cells #[.slice none 0 0] 40)).heap HQ13.out (fun x => x))
  have HX14 := Lib.hid (((Chg.refl No w13).alloc (.cells #[.slice none 0 0] 40)).heap HX13.out (fun x => x))
  have HY14 := Lib.hid (((Chg.refl No w13).alloc (.cells #[.slice none 0 0] 40)).heap HY13.out (fun x => x))
  obtain ⟨j0, j1, j2, j3, j4⟩ := cells5b HX14.out
  go_wp2_with fail
  refine (astree_commit _ t _ N c5 a' d x').mono ?_
  rintro e w15 ⟨rfl, hc15⟩
  have HG15 : Hid (Chg No w6 (w15.alloc (.cells #[.slice none 0 0] 33))) := (HG14.out.no hc15).alloc _
  have HQ15 := Lib.hid (((Chg.refl No w15).alloc (.cells #[.slice none 0 0] 33)).heap (hc15.heap HQ14.out (fun x => x)) (fun x => x))
  have HX15 := Lib.hid (((Chg.refl No w15).alloc (.cells #[.slice none 0 0] 33)).heap (hc15.heap HX14.out (fun x => x)) (fun x => x))
  have HY15 := Lib.hid (((Chg.refl No w15).alloc (.cells #[.slice none 0 0] 33)).heap (hc15.heap HY14.out (fun x => x)) (fun x => x))
  clear hc15 j0 j1 j2 j3 j4 HG13 HQ13 HX13 HY13 HG14 HQ14 HX14 HY14
  have HCM : Hid (∀ W, Chg No w6 W → Calls Try.prog 18 #[.agg #[.int .u64 (t : Int), .slice (some ⟨gf, 0, none⟩) N c5, .string a', .int .i64 d, .string x'], .agg #[.int .u64 (t : Int), .slice A N c, .string a', .int .i64 d, .string x']] W fun e w' => e = .returned (.bool true) ∧ Chg No W w') := fun W hW => commits_same W t _ N c5 qs a' d x' A N c (HF.out.no hW) (HB6.out.no hW) (by omega)
  go_upto_region 15 with fail
  generalize w15.alloc (.cells #[.slice none 0 0] 33) = w16 at *
  refine wp_region_held_drew (S := (fun W => W.cell? ⟨g, 0, none⟩ = some (.int .u64 (t : Int)) ∧ W.cell? ⟨g, 1, none⟩ = some (.slice A N c) ∧ W.cell? ⟨g, 2, none⟩ = some (.string a') ∧ W.cell? ⟨g, 3, none⟩ = some (.int .i64 d) ∧ W.cell? ⟨g, 4, none⟩ = some (.string x') ∧ W.cell? ⟨gx, 0, none⟩ = some (.int .u64 (t : Int)) ∧ W.cell? ⟨gx, 1, none⟩ = some (.slice (some ⟨gf, 0, none⟩) N c5) ∧ W.cell? ⟨gx, 2, none⟩ = some (.string a') ∧ W.cell? ⟨gx, 3, none⟩ = some (.int .i64 d) ∧ W.cell? ⟨gx, 4, none⟩ = some (.string x') ∧ W.cell? ⟨gy, 0, none⟩ = some (.int .u64 (t : Int)) ∧ W.cell? ⟨gy, 1, none⟩ = some (.slice (some ⟨gf, 0, none⟩) N c5) ∧ W.cell? ⟨gy, 2, none⟩ = some (.string a') ∧ W.cell? ⟨gy, 3, none⟩ = some (.int .i64 d) ∧ W.cell? ⟨gy, 4, none⟩ = some (.string x'))) (by kernel_rfl) ⟨(cells5b HQ15.out).1, (cells5b HQ15.out).2.1, (cells5b HQ15.out).2.2.1, (cells5b HQ15.out).2.2.2.1, (cells5b HQ15.out).2.2.2.2, (cells5b HX15.out).1, (cells5b HX15.out).2.1, (cells5b HX15.out).2.2.1, (cells5b HX15.out).2.2.2.1, (cells5b HX15.out).2.2.2.2, (cells5b HY15.out).1, (cells5b HY15.out).2.1, (cells5b HY15.out).2.2.1, (cells5b HY15.out).2.2.2.1, (cells5b HY15.out).2.2.2.2⟩ (fun hSw => ?_)
  refine wpAnyH_take (i := 0) (oi := { dst := some 106, op := Go.Op.move (Go.Operand.tmp 9), type := 4, pos := "law.go:163", after := #[], guard := none }) (v := ?_) rfl (by kernel_rfl) (by kernel_rfl) (by kernel_rfl) (fun _ _ _ h => h) (Or.inl ⟨by rfl, ?_⟩) hSw ?_
  rotate_left
  · (intro W hW; obtain ⟨hz0, hz1, hz2, hz3, hz4, hz5, hz6, hz7, hz8, hz9, hz10, hz11, hz12, hz13, hz14⟩ := hW; go_simp; try with_reducible rfl)
  try simp only [Act.put, List.setIfInBounds_toArray, List.set_cons_zero, List.set_cons_succ]
  refine wpAnyH_take (i := 1) (oi := { dst := some 107, op := Go.Op.unOp Go.UnOp.not 4 (Go.Operand.tmp 106), type := 4, pos := "law.go:163", after := #[{ on := 0, ground := Go.Ground.data }], guard := none }) (v := ?_) rfl (by kernel_rfl) (by kernel_rfl) (by kernel_rfl) (fun _ _ _ h => h) (Or.inl ⟨by rfl, ?_⟩) hSw ?_
  rotate_left
  · (intro W hW; obtain ⟨hz0, hz1, hz2, hz3, hz4, hz5, hz6, hz7, hz8, hz9, hz10, hz11, hz12, hz13, hz14⟩ := hW; go_simp; try with_reducible rfl)
  try simp only [Act.put, List.setIfInBounds_toArray, List.set_cons_zero, List.set_cons_succ]
  refine wpAnyH_take (i := 2) (oi := { dst := some 108, op := Go.Op.move (Go.Operand.tmp 107), type := 4, pos := "law.go:163", after := #[{ on := 1, ground := Go.Ground.data }], guard := none }) (v := ?_) rfl (by kernel_rfl) (by kernel_rfl) (by kernel_rfl) (fun _ _ _ h => h) (Or.inl ⟨by rfl, ?_⟩) hSw ?_
  rotate_left
  · (intro W hW; obtain ⟨hz0, hz1, hz2, hz3, hz4, hz5, hz6, hz7, hz8, hz9, hz10, hz11, hz12, hz13, hz14⟩ := hW; go_simp; try with_reducible rfl)
  try simp only [Act.put, List.setIfInBounds_toArray, List.set_cons_zero, List.set_cons_succ]
  refine wpAnyH_take (i := 3) (oi := { dst := some 109, op := Go.Op.move (Go.Operand.tmp 11), type := 4, pos := "law.go:163", after := #[{ on := 2, ground := Go.Ground.guard }], guard := some (2, false) }) (v := ?_) rfl (by kernel_rfl) (by kernel_rfl) (by kernel_rfl) (fun _ _ _ h => h) (Or.inl ⟨by rfl, ?_⟩) hSw ?_
  rotate_left
  · (intro W hW; obtain ⟨hz0, hz1, hz2, hz3, hz4, hz5, hz6, hz7, hz8, hz9, hz10, hz11, hz12, hz13, hz14⟩ := hW; go_simp; try with_reducible rfl)
  try simp only [Act.put, List.setIfInBounds_toArray, List.set_cons_zero, List.set_cons_succ]
  refine wpAnyH_take (i := 4) (oi := { dst := some 110, op := Go.Op.pick (Go.Operand.tmp 108) (Go.Operand.const (Go.Value.bool true)) (Go.Operand.tmp 109), type := 4, pos := "law.go:163", after := #[{ on := 2, ground := Go.Ground.data }, { on := 3, ground := Go.Ground.data }], guard := none }) (v := ?_) rfl (by kernel_rfl) (by kernel_rfl) (by kernel_rfl) (fun _ _ _ h => h) (Or.inl ⟨by rfl, ?_⟩) hSw ?_
  rotate_left
  · (intro W hW; obtain ⟨hz0, hz1, hz2, hz3, hz4, hz5, hz6, hz7, hz8, hz9, hz10, hz11, hz12, hz13, hz14⟩ := hW; go_simp; try with_reducible rfl)
  try simp only [Act.put, List.setIfInBounds_toArray, List.set_cons_zero, List.set_cons_succ]
  refine wpAnyH_take (i := 5) (oi := { dst := some 111, op := Go.Op.move (Go.Operand.tmp 110), type := 4, pos := "law.go:163", after := #[{ on := 4, ground := Go.Ground.data }, { on := 2, ground := Go.Ground.chain }], guard := none }) (v := ?_) rfl (by kernel_rfl) (by kernel_rfl) (by kernel_rfl) (fun _ _ _ h => h) (Or.inl ⟨by rfl, ?_⟩) hSw ?_
  rotate_left
  · (intro W hW; obtain ⟨hz0, hz1, hz2, hz3, hz4, hz5, hz6, hz7, hz8, hz9, hz10, hz11, hz12, hz13, hz14⟩ := hW; go_simp; try with_reducible rfl)
  try simp only [Act.put, List.setIfInBounds_toArray, List.set_cons_zero, List.set_cons_succ]
  refine wpAnyH_take (i := 6) (oi := { dst := some 112, op := Go.Op.move (Go.Operand.tmp 13), type := 4, pos := "law.go:163", after := #[{ on := 5, ground := Go.Ground.guard }], guard := some (5, false) }) (v := ?_) rfl (by kernel_rfl) (by kernel_rfl) (by kernel_rfl) (fun _ _ _ h => h) (Or.inl ⟨by rfl, ?_⟩) hSw ?_
  rotate_left
  · (intro W hW; obtain ⟨hz0, hz1, hz2, hz3, hz4, hz5, hz6, hz7, hz8, hz9, hz10, hz11, hz12, hz13, hz14⟩ := hW; go_simp; try with_reducible rfl)
  try simp only [Act.put, List.setIfInBounds_toArray, List.set_cons_zero, List.set_cons_succ]
  refine wpAnyH_take (i := 7) (oi := { dst := some 113, op := Go.Op.pick (Go.Operand.tmp 111) (Go.Operand.const (Go.Value.bool true)) (Go.Operand.tmp 112), type := 4, pos := "law.go:163", after := #[{ on := 5, ground := Go.Ground.data }, { on := 6, ground := Go.Ground.data }], guard := none }) (v := ?_) rfl (by kernel_rfl) (by kernel_rfl) (by kernel_rfl) (fun _ _ _ h => h) (Or.inl ⟨by rfl, ?_⟩) hSw ?_
  rotate_left
  · (intro W hW; obtain ⟨hz0, hz1, hz2, hz3, hz4, hz5, hz6, hz7, hz8, hz9, hz10, hz11, hz12, hz13, hz14⟩ := hW; go_simp; try with_reducible rfl)
  try simp only [Act.put, List.setIfInBounds_toArray, List.set_cons_zero, List.set_cons_succ]
  refine wpAnyH_take (i := 8) (oi := { dst := some 114, op := Go.Op.move (Go.Operand.tmp 113), type := 4, pos := "law.go:163", after := #[{ on := 7, ground := Go.Ground.data }, { on := 5, ground := Go.Ground.chain }], guard := none }) (v := ?_) rfl (by kernel_rfl) (by kernel_rfl) (by kernel_rfl) (fun _ _ _ h => h) (Or.inl ⟨by rfl, ?_⟩) hSw ?_
  rotate_left
  · (intro W hW; obtain ⟨hz0, hz1, hz2, hz3, hz4, hz5, hz6, hz7, hz8, hz9, hz10, hz11, hz12, hz13, hz14⟩ := hW; go_simp; try with_reducible rfl)
  try simp only [Act.put, List.setIfInBounds_toArray, List.set_cons_zero, List.set_cons_succ]
  refine wpAnyH_take (i := 9) (oi := { dst := some 115, op := Go.Op.load 27 (Go.Operand.tmp 8), type := 27, pos := "law.go:163", after := #[{ on := 8, ground := Go.Ground.guard }], guard := some (8, false) }) (v := ?_) rfl (by kernel_rfl) (by kernel_rfl) (by kernel_rfl) (fun _ _ _ h => h) (Or.inl ⟨by rfl, ?_⟩) hSw ?_
  rotate_left
  · (intro W hW; obtain ⟨hz0, hz1, hz2, hz3, hz4, hz5, hz6, hz7, hz8, hz9, hz10, hz11, hz12, hz13, hz14⟩ := hW; go_simp; try with_reducible rfl)
  try simp only [Act.put, List.setIfInBounds_toArray, List.set_cons_zero, List.set_cons_succ]
  refine wpAnyH_take (i := 10) (oi := { dst := some 116, op := Go.Op.load 27 (Go.Operand.tmp 1), type := 27, pos := "law.go:163", after := #[{ on := 8, ground := Go.Ground.guard }], guard := some (8, false) }) (v := ?_) rfl (by kernel_rfl) (by kernel_rfl) (by kernel_rfl) (fun _ _ _ h => h) (Or.inl ⟨by rfl, ?_⟩) hSw ?_
  rotate_left
  · (intro W hW; obtain ⟨hz0, hz1, hz2, hz3, hz4, hz5, hz6, hz7, hz8, hz9, hz10, hz11, hz12, hz13, hz14⟩ := hW; go_simp; try with_reducible rfl)
  try simp only [Act.put, List.setIfInBounds_toArray, List.set_cons_zero, List.set_cons_succ]
  refine wpAnyH_ready (rs := [11]) (by kernel_rfl) (by simp) ?_
  refine AllReadyH.cons (o := { dst := some 117, op := Go.Op.call { callee := Go.Callee.value (Go.Operand.func 18), args := #[Go.Operand.tmp 115, Go.Operand.tmp 116], argTypes := #[27, 27] }, type := 4, pos := "law.go:163", after := #[{ on := 9, ground := Go.Ground.data }, { on := 10, ground := Go.Ground.data }, { on := 8, ground := Go.Ground.chain }, { on := 8, ground := Go.Ground.guard }], guard := some (8, false) }) rfl (fun K hK => ?_) AllReadyH.nil
  rw [if_pos (by rfl)]
  go_simp
  refine (HCM.out _ (HG15.out.drew)).mono ?_
  rintro e w17 ⟨rfl, hc17⟩
  have HG17 := Lib.hid ((HG15.out.drew).no hc17)
  have HQ17 := Lib.hid (hc17.heap (((Chg.refl No _).drew).heap HQ15.out (fun x => x)) (fun x => x))
  have HX17 := Lib.hid (hc17.heap (((Chg.refl No _).drew).heap HX15.out (fun x => x)) (fun x => x))
  have HY17 := Lib.hid (hc17.heap (((Chg.refl No _).drew).heap HY15.out (fun x => x)) (fun x => x))
  clear hc17
  refine hK.out _ _ ⟨(cells5b HQ17.out).1, (cells5b HQ17.out).2.1, (cells5b HQ17.out).2.2.1, (cells5b HQ17.out).2.2.2.1, (cells5b HQ17.out).2.2.2.2, (cells5b HX17.out).1, (cells5b HX17.out).2.1, (cells5b HX17.out).2.2.1, (cells5b HX17.out).2.2.2.1, (cells5b HX17.out).2.2.2.2, (cells5b HY17.out).1, (cells5b HY17.out).2.1, (cells5b HY17.out).2.2.1, (cells5b HY17.out).2.2.2.1, (cells5b HY17.out).2.2.2.2⟩ (fun hSw => ?_)
  clear hK
  try simp only [Act.put, List.setIfInBounds_toArray, List.set_cons_zero, List.set_cons_succ]
  refine wpAnyH_take (i := 12) (oi := { dst := some 118, op := Go.Op.unOp Go.UnOp.not 4 (Go.Operand.tmp 117), type := 4, pos := "law.go:163", after := #[{ on := 11, ground := Go.Ground.data }, { on := 8, ground := Go.Ground.guard }], guard := some (8, false) }) (v := ?_) rfl (by kernel_rfl) (by kernel_rfl) (by kernel_rfl) (fun _ _ _ h => h) (Or.inl ⟨by rfl, ?_⟩) hSw ?_
  rotate_left
  · (intro W hW; obtain ⟨hz0, hz1, hz2, hz3, hz4, hz5, hz6, hz7, hz8, hz9, hz10, hz11, hz12, hz13, hz14⟩ := hW; go_simp; try with_reducible rfl)
  try simp only [Act.put, List.setIfInBounds_toArray, List.set_cons_zero, List.set_cons_succ]
  refine wpAnyH_take (i := 13) (oi := { dst := some 119, op := Go.Op.pick (Go.Operand.tmp 114) (Go.Operand.const (Go.Value.bool true)) (Go.Operand.tmp 118), type := 4, pos := "law.go:163", after := #[{ on := 8, ground := Go.Ground.data }, { on := 12, ground := Go.Ground.data }], guard := none }) (v := ?_) rfl (by kernel_rfl) (by kernel_rfl) (by kernel_rfl) (fun _ _ _ h => h) (Or.inl ⟨by rfl, ?_⟩) hSw ?_
  rotate_left
  · (intro W hW; obtain ⟨hz0, hz1, hz2, hz3, hz4, hz5, hz6, hz7, hz8, hz9, hz10, hz11, hz12, hz13, hz14⟩ := hW; go_simp; try with_reducible rfl)
  try simp only [Act.put, List.setIfInBounds_toArray, List.set_cons_zero, List.set_cons_succ]
  refine wpAnyH_take (i := 14) (oi := { dst := some 120, op := Go.Op.move (Go.Operand.tmp 119), type := 4, pos := "law.go:163", after := #[{ on := 13, ground := Go.Ground.data }, { on := 11, ground := Go.Ground.chain }], guard := none }) (v := ?_) rfl (by kernel_rfl) (by kernel_rfl) (by kernel_rfl) (fun _ _ _ h => h) (Or.inl ⟨by rfl, ?_⟩) hSw ?_
  rotate_left
  · (intro W hW; obtain ⟨hz0, hz1, hz2, hz3, hz4, hz5, hz6, hz7, hz8, hz9, hz10, hz11, hz12, hz13, hz14⟩ := hW; go_simp; try with_reducible rfl)
  try simp only [Act.put, List.setIfInBounds_toArray, List.set_cons_zero, List.set_cons_succ]
  refine wpAnyH_take (i := 15) (oi := { dst := some 121, op := Go.Op.load 27 (Go.Operand.tmp 3), type := 27, pos := "law.go:163", after := #[{ on := 14, ground := Go.Ground.guard }], guard := some (14, false) }) (v := ?_) rfl (by kernel_rfl) (by kernel_rfl) (by kernel_rfl) (fun _ _ _ h => h) (Or.inl ⟨by rfl, ?_⟩) hSw ?_
  rotate_left
  · (intro W hW; obtain ⟨hz0, hz1, hz2, hz3, hz4, hz5, hz6, hz7, hz8, hz9, hz10, hz11, hz12, hz13, hz14⟩ := hW; go_simp; try with_reducible rfl)
  try simp only [Act.put, List.setIfInBounds_toArray, List.set_cons_zero, List.set_cons_succ]
  refine wpAnyH_take (i := 16) (oi := { dst := some 122, op := Go.Op.makeInterface 27 (Go.Operand.tmp 121), type := 48, pos := "law.go:163", after := #[{ on := 15, ground := Go.Ground.data }, { on := 14, ground := Go.Ground.guard }], guard := some (14, false) }) (v := ?_) rfl (by kernel_rfl) (by kernel_rfl) (by kernel_rfl) (fun _ _ _ h => h) (Or.inl ⟨by rfl, ?_⟩) hSw ?_
  rotate_left
  · (intro W hW; obtain ⟨hz0, hz1, hz2, hz3, hz4, hz5, hz6, hz7, hz8, hz9, hz10, hz11, hz12, hz13, hz14⟩ := hW; go_simp; try with_reducible rfl)
  try simp only [Act.put, List.setIfInBounds_toArray, List.set_cons_zero, List.set_cons_succ]
  refine wpAnyH_take (i := 18) (oi := { dst := some 124, op := Go.Op.load 27 (Go.Operand.tmp 1), type := 27, pos := "law.go:163", after := #[{ on := 14, ground := Go.Ground.guard }], guard := some (14, false) }) (v := ?_) rfl (by kernel_rfl) (by kernel_rfl) (by kernel_rfl) (fun _ _ _ h => h) (Or.inl ⟨by rfl, ?_⟩) hSw ?_
  rotate_left
  · (intro W hW; obtain ⟨hz0, hz1, hz2, hz3, hz4, hz5, hz6, hz7, hz8, hz9, hz10, hz11, hz12, hz13, hz14⟩ := hW; go_simp; try with_reducible rfl)
  try simp only [Act.put, List.setIfInBounds_toArray, List.set_cons_zero, List.set_cons_succ]
  refine wpAnyH_ready (rs := [17]) (by kernel_rfl) (by simp) ?_
  refine AllReadyH.cons (o := { dst := some 123, op := Go.Op.call { callee := Go.Callee.value (Go.Operand.func 19), args := #[Go.Operand.tmp 122], argTypes := #[48] }, type := 27, pos := "law.go:163", after := #[{ on := 16, ground := Go.Ground.data }, { on := 14, ground := Go.Ground.chain }, { on := 14, ground := Go.Ground.guard }], guard := some (14, false) }) rfl (fun K hK => ?_) AllReadyH.nil
  rw [if_pos (by rfl)]
  go_simp
  refine (must_commit _ t _ N c5 a' d x').mono ?_
  rintro e w18 ⟨rfl, hc18⟩
  have HG18 := Lib.hid ((HG17.out).no hc18)
  have HQ18 := Lib.hid (hc18.heap HQ17.out (fun x => x))
  have HX18 := Lib.hid (hc18.heap HX17.out (fun x => x))
  have HY18 := Lib.hid (hc18.heap HY17.out (fun x => x))
  clear hc18
  refine hK.out _ _ ⟨(cells5b HQ18.out).1, (cells5b HQ18.out).2.1, (cells5b HQ18.out).2.2.1, (cells5b HQ18.out).2.2.2.1, (cells5b HQ18.out).2.2.2.2, (cells5b HX18.out).1, (cells5b HX18.out).2.1, (cells5b HX18.out).2.2.1, (cells5b HX18.out).2.2.2.1, (cells5b HX18.out).2.2.2.2, (cells5b HY18.out).1, (cells5b HY18.out).2.1, (cells5b HY18.out).2.2.1, (cells5b HY18.out).2.2.2.1, (cells5b HY18.out).2.2.2.2⟩ (fun hSw => ?_)
  clear hK
  try simp only [Act.put, List.setIfInBounds_toArray, List.set_cons_zero, List.set_cons_succ]
  refine wpAnyH_ready (rs := [19]) (by kernel_rfl) (by simp) ?_
  refine AllReadyH.cons (o := { dst := some 125, op := Go.Op.call { callee := Go.Callee.value (Go.Operand.func 18), args := #[Go.Operand.tmp 123, Go.Operand.tmp 124], argTypes := #[27, 27] }, type := 4, pos := "law.go:163", after := #[{ on := 17, ground := Go.Ground.data }, { on := 18, ground := Go.Ground.data }, { on := 17, ground := Go.Ground.chain }, { on := 14, ground := Go.Ground.guard }], guard := some (14, false) }) rfl (fun K hK => ?_) AllReadyH.nil
  rw [if_pos (by rfl)]
  go_simp
  refine (HCM.out _ HG18.out).mono ?_
  rintro e w19 ⟨rfl, hc19⟩
  have HG19 := Lib.hid ((HG18.out).no hc19)
  have HQ19 := Lib.hid (hc19.heap HQ18.out (fun x => x))
  have HX19 := Lib.hid (hc19.heap HX18.out (fun x => x))
  have HY19 := Lib.hid (hc19.heap HY18.out (fun x => x))
  clear hc19
  refine hK.out _ _ ⟨(cells5b HQ19.out).1, (cells5b HQ19.out).2.1, (cells5b HQ19.out).2.2.1, (cells5b HQ19.out).2.2.2.1, (cells5b HQ19.out).2.2.2.2, (cells5b HX19.out).1, (cells5b HX19.out).2.1, (cells5b HX19.out).2.2.1, (cells5b HX19.out).2.2.2.1, (cells5b HX19.out).2.2.2.2, (cells5b HY19.out).1, (cells5b HY19.out).2.1, (cells5b HY19.out).2.2.1, (cells5b HY19.out).2.2.2.1, (cells5b HY19.out).2.2.2.2⟩ (fun hSw => ?_)
  clear hK
  try simp only [Act.put, List.setIfInBounds_toArray, List.set_cons_zero, List.set_cons_succ]
  refine wpAnyH_take (i := 20) (oi := { dst := some 126, op := Go.Op.unOp Go.UnOp.not 4 (Go.Operand.tmp 125), type := 4, pos := "law.go:163", after := #[{ on := 19, ground := Go.Ground.data }, { on := 14, ground := Go.Ground.guard }], guard := some (14, false) }) (v := ?_) rfl (by kernel_rfl) (by kernel_rfl) (by kernel_rfl) (fun _ _ _ h => h) (Or.inl ⟨by rfl, ?_⟩) hSw ?_
  rotate_left
  · (intro W hW; obtain ⟨hz0, hz1, hz2, hz3, hz4, hz5, hz6, hz7, hz8, hz9, hz10, hz11, hz12, hz13, hz14⟩ := hW; go_simp; try with_reducible rfl)
  try simp only [Act.put, List.setIfInBounds_toArray, List.set_cons_zero, List.set_cons_succ]
  refine wpAnyH_take (i := 21) (oi := { dst := some 127, op := Go.Op.pick (Go.Operand.tmp 120) (Go.Operand.const (Go.Value.bool true)) (Go.Operand.tmp 126), type := 4, pos := "law.go:163", after := #[{ on := 14, ground := Go.Ground.data }, { on := 20, ground := Go.Ground.data }], guard := none }) (v := ?_) rfl (by kernel_rfl) (by kernel_rfl) (by kernel_rfl) (fun _ _ _ h => h) (Or.inl ⟨by rfl, ?_⟩) hSw ?_
  rotate_left
  · (intro W hW; obtain ⟨hz0, hz1, hz2, hz3, hz4, hz5, hz6, hz7, hz8, hz9, hz10, hz11, hz12, hz13, hz14⟩ := hW; go_simp; try with_reducible rfl)
  try simp only [Act.put, List.setIfInBounds_toArray, List.set_cons_zero, List.set_cons_succ]
  refine wpAnyH_done (by kernel_rfl) ?_ _
  obtain ⟨j0, j1, j2, j3, j4⟩ := cells5b HX19.out
  clear HG15 HQ15 HX15 HY15 HG17 HQ17 HX17 HY17 HG18 HQ18 HX18 HY18 HY19 hSw
  go_wp2_with fail
  refine (copy_commit _ t _ N c5 a' d x' qs (HF.out.no HG19.out) (by omega)).mono ?_
  rintro e w20 ⟨A13, c13, rfl, ho20, hc20⟩
  have HG20 := Lib.hid (HG19.out.no hc20)
  have HQ20 := Lib.hid (hc20.heap HQ19.out (fun x => x))
  have HX20 := Lib.hid (hc20.heap HX19.out (fun x => x))
  have HO20 := Lib.hid (ownsRow_mono ho20 HG19.out.size)
  clear ho20 hc20 j0 j1 j2 j3 j4 HG19 HQ19 HX19
  go_wp2_with fail
  refine (ascommit_commit _ t _ N c13 a' d x').mono ?_
  rintro e w21 ⟨rfl, hc21⟩
  have HG21 := Lib.hid (HG20.out.no hc21)
  have HQ22 := Lib.hid (((Chg.refl No w21).alloc (.cells #[.int .u64 (t : Int), .slice A13 N c13, .string a', .int .i64 d, .string x'] 27)).heap (hc21.heap HQ20.out (fun x => x)) (fun x => x))
  have HX22 := Lib.hid (((Chg.refl No w21).alloc (.cells #[.int .u64 (t : Int), .slice A13 N c13, .string a', .int .i64 d, .string x'] 27)).heap (hc21.heap HX20.out (fun x => x)) (fun x => x))
  have HO22 := Lib.hid (World.ownsRow.alloc (ownsRow_chg HO20.out hc21 (fun _ _ x => x)) (.cells #[.int .u64 (t : Int), .slice A13 N c13, .string a', .int .i64 d, .string x'] 27))
  have HZ22 := Lib.hid (heap_alloc_new w21 (.cells #[.int .u64 (t : Int), .slice A13 N c13, .string a', .int .i64 d, .string x'] 27))
  have HG22 : Hid (Chg No w6 (w21.alloc (.cells #[.int .u64 (t : Int), .slice A13 N c13, .string a', .int .i64 d, .string x'] 27))) := HG21.out.alloc _
  clear hc21 HG20 HQ20 HX20 HO20 HG21
  obtain ⟨j0, j1, j2, j3, j4⟩ := cells5b HZ22.out
  obtain ⟨k0, k1, k2, k3, k4⟩ := cells5b HQ22.out
  go_wp2_with fail
  refine (commits_same _ t A13 N c13 qs a' d x' A N c (slOwn HO22.out HLN.out) (HB6.out.no HG22.out) (by omega)).mono ?_
  rintro e w23 ⟨rfl, hc23⟩
  generalize w21.heap.size = gz at *
  have HG23 := Lib.hid (HG22.out.no hc23)
  have HQ23 := Lib.hid (hc23.heap HQ22.out (fun x => x))
  have HX23 := Lib.hid (hc23.heap HX22.out (fun x => x))
  have HZ23 := Lib.hid (hc23.heap HZ22.out (fun x => x))
  have HO23 := Lib.hid (ownsRow_chg HO22.out hc23 (fun _ _ x => x))
  clear hc23 j0 j1 j2 j3 j4 k0 k1 k2 k3 k4 HG22 HQ22 HX22 HZ22 HO22
  have j1 := cellAt HZ23.out 1 _ rfl
  go_wp2
  clear j1
  have HO23' : Hid (w23.ownsRow w6.heap.size 24 1 (.slice A13 N c13) N (qs.map u64v)) := HO23.out
  go_loopw [146] (fun j wr => ∃ (i : Nat) (cs : List Value), i ≤ N ∧ j = .int .i64 (i : Int) ∧ Hid (wr.ownsRow w6.heap.size 24 1 (.slice A13 N c13) N cs) ∧ Hid (wr.heap[gz]? = some (.cells #[.int .u64 (t : Int), .slice A13 N c13, .string a', .int .i64 d, .string x'] 27)) ∧ Hid (wr.heap[g]? = some (.cells #[.int .u64 (t : Int), .slice A N c, .string a', .int .i64 d, .string x'] 27)) ∧ Hid (wr.heap[gx]? = some (.cells #[.int .u64 (t : Int), .slice (some ⟨gf, 0, none⟩) N c5, .string a', .int .i64 d, .string x'] 27)) ∧ Hid (Chg No w6 wr)) (fun j _ => N - (intOf j).toNat)
  case atStart => exact ⟨0, _, Nat.zero_le _, rfl, HO23'.out, HZ23.out, HQ23.out, HX23.out, HG23.out⟩
  case round =>
    obtain ⟨i, cs, hi, rfl, HOj, HZj, HQj, HXj, HGj⟩ := hrel
    have j1 := cellAt HZj.out 1 _ rfl
    by_cases hin : i < N
    · obtain ⟨gr, rfl, hgr, -, hput⟩ := own_put HOj.out (by omega)
      obtain ⟨⟨u, hu, -⟩, hf, hset⟩ := hput i (by omega)
      have hicap : (i : Int) < (N : Int) := by omega
      have hne : ∀ (q : Nat) (cs : Array Value), wr.heap[q]? = some (Obj.cells cs 27 (0, 0)) → q ≠ gr := by
        rintro q cs hq rfl
        obtain ⟨cc, fz, hcc⟩ := ownsRow_cells HOj.out q rfl
        have := hcc.symm.trans hq
        simp only [Option.some.injEq, Obj.cells.injEq] at this
        exact absurd this.2.1 (by decide)
      have n1 := hne _ _ HZj.out
      have n2 := hne _ _ HQj.out
      have n3 := hne _ _ HXj.out
      have HSET : Hid (∀ y, (wr.setCell ⟨gr, i, none⟩ y).ownsRow w6.heap.size 24 1 (.slice (some ⟨gr, 0, none⟩) N c13) N (cs.set i y) ∧ (wr.setCell ⟨gr, i, none⟩ y).heap[gz]? = some (.cells #[.int .u64 (t : Int), .slice (some ⟨gr, 0, none⟩) N c13, .string a', .int .i64 d, .string x'] 27) ∧ (wr.setCell ⟨gr, i, none⟩ y).heap[g]? = some (.cells #[.int .u64 (t : Int), .slice A N c, .string a', .int .i64 d, .string x'] 27) ∧ (wr.setCell ⟨gr, i, none⟩ y).heap[gx]? = some (.cells #[.int .u64 (t : Int), .slice (some ⟨gf, 0, none⟩) N c5, .string a', .int .i64 d, .string x'] 27) ∧ Chg No w6 (wr.setCell ⟨gr, i, none⟩ y)) := fun y => ⟨hset _, (Chg.put wr gr i _).heap HZj.out (fun h => n1 h), (Chg.put wr gr i _).heap HQj.out (fun h => n2 h), (Chg.put wr gr i _).heap HXj.out (fun h => n3 h), HGj.out.setCell (.inl hgr) _⟩
      clear hset hput hne n1 n2 n3
      go_wp2
      go_roundw
      case rel => exact ⟨i + 1, _, by omega, by simp, (HSET.out _).1, (HSET.out _).2.1, (HSET.out _).2.2.1, (HSET.out _).2.2.2.1, (HSET.out _).2.2.2.2⟩
      case measure => simp [intOf]; omega
    · have hin2 : ¬ (i : Int) < (N : Int) := by omega
      clear j1 HOj HZj HO23 HO23' HZ23 HQ23 HX23 HG23
      obtain ⟨j0, j1, j2, j3, j4⟩ := cells5b HXj.out
      obtain ⟨k0, k1, k2, k3, k4⟩ := cells5b HQj.out
      go_wp2_with fail
      refine (HCM.out _ HGj.out).mono ?_
      rintro e w24 ⟨rfl, hc24⟩
      have HG24 := Lib.hid (HGj.out.no hc24)
      go_wp2_with fail
      refine (wakes_calls _).mono ?_
      rintro e w25 ⟨rfl, hc25⟩
      go_wp2
      go_ret
      exact ⟨rfl, (HC6.out.no HG24.out).no hc25⟩

theorem objectCommits_walk (w : World) (t : Nat) (A : Option Addr) (n c : Nat) (ps : List Nat) (a : ByteArray) (d : Int) (x : ByteArray) (hs : Sl u64v w (.slice A n c) ps) (hp : ∀ q ∈ ps, q < 18446744073709551616) (ht : t < 18446744073709551616) (hn : n ≤ maxLen) (ha : a.size ≤ maxLen) (hx : x.size ≤ maxLen) (hd1 : -9223372036854775808 ≤ d) (hd2 : d ≤ 9223372036854775807) :
    Calls Try.prog 12 #[.agg #[.int .u64 (t : Int), .slice A n c, .string a, .int .i64 d, .string x]] w fun e w' => e = .returned (.bool true) ∧ Below w.heap.size w w' :=
  (objectCommits_core w t A n c ps a d x hs hp ht ⟨hd1, hd2⟩ hn ha hx).mono fun _ _ h => ⟨h.1, h.2.below⟩
end Go.Proofs.Ytkmnkbmmgopldaa
