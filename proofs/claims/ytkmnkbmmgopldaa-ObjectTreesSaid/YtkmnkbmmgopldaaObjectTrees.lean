/-
  The walk of ObjectTrees.
-/
import Derived.Test.YtkmnkbmmgopldaaRt
import Derived.Deep.DeepCutAuto
import Derived.Laws.MakeOwn
namespace Go.Proofs.Ytkmnkbmmgopldaa
open Go.RowKit
set_option linter.unusedVariables false
set_option linter.unusedSimpArgs false
set_option maxRecDepth 100000

theorem Es.take {w : World} {A : Option Addr} {n c : Nat} {xs : List Ent} (h : Es w (.slice A n c) xs) {k : Nat} (hk : k ≤ n) : Es w (.slice A k c) (xs.take k) := by
  have hl := h.len
  obtain ⟨A', c', he, hn, hm, hx⟩ := h
  simp only [Value.slice.injEq] at he
  obtain ⟨rfl, rfl, rfl⟩ := he
  have hk' : (xs.take k).length = k := by rw [List.length_take]; omega
  refine ⟨_, _, by rw [hk'], by rw [hk']; omega, hm, fun hp => ?_⟩
  rw [encE_len, hk'] at hp
  obtain ⟨b, o, rfl, hc⟩ := hx (by rw [encE_len]; omega)
  refine ⟨b, o, rfl, fun j u hj => hc j u ?_⟩
  have hjl : j < k * 3 := by
    have := (List.getElem?_eq_some_iff.1 hj).1
    rwa [encE_len, hk'] at this
  have hj3 : j = j / 3 * 3 + j % 3 := by omega
  rw [hj3, encE_get _ (j / 3) (j % 3) (by rw [hk']; omega) (by omega)] at hj
  rw [hj3, encE_get _ (j / 3) (j % 3) (by omega) (by omega)]
  simpa using hj
theorem esOwn {w : World} {base n c : Nat} {A : Option Addr} {xs : List Ent} (h : w.ownsRow base 35 3 (.slice A n c) n (xs.flatMap encE)) (hl : xs.length = n) : Es w (.slice A n c) xs := by
  subst hl; exact Holds.ofOwn h
theorem ents_same (w : World) (A : Option Addr) (n c : Nat) (A' : Option Addr) (n' c' : Nat) (xs : List Ent) (h : Es w (.slice A n c) xs) (h' : Es w (.slice A' n' c') xs) (hn : n ≤ 9223372036854775807) :
    Calls Try.prog 16 #[.slice A n c, .slice A' n' c'] w fun e w' => e = .returned (.bool true) ∧ Chg No w w' := by
  have := ents_calls w A n c xs A' n' c' xs h h' hn
  rwa [decide_eq_true rfl] at this
theorem obB_len' (o : Ob) (hc : obCheck o = 0) : (obB o).length ≤ 1000000 := by
  cases o with
  | blob l =>
    have h4 : ¬ 4096 < l.length := by
      intro h4
      have : obCheck (.blob l) = 3 := if_pos h4
      rw [this] at hc
      cases hc
    simp [obB]
    omega
  | tree l =>
    have hc : treeF l = 0 := hc
    obtain ⟨h1, h2⟩ := treeF_zero hc
    have h3 := entsB_len l (fun x hx => (h2 x hx).1)
    have h4 := leb_len10 l.length (by omega)
    simp only [obB, treeB, List.length_append, List.length_cons, List.length_nil]
    omega
  | commit t ps a d x =>
    have hc : ((commitF t ps a x : Nat) : Int) = 0 := hc
    have := commitB_len (d := d) (show commitF t ps a x = 0 by omega)
    simp [obB]
    omega
def treeW (xs : List Ent) : List UInt8 := if treeF xs = 0 then treeB xs else []
theorem reftree_calls (w : World) (A : Option Addr) (n c : Nat) (xs : List Ent) (h : Es w (.slice A n c) xs) (hb : ∀ x ∈ xs, x.1.size ≤ maxLen ∧ x.2.2 < 18446744073709551616) (hn : n ≤ 1000) :
    Calls Try.prog 38 #[.slice A n c] w fun e w' => ∃ A' n' c', e = .returned (.tuple #[.slice A' n' c', .int .i64 (treeF xs)]) ∧ Bytes w' (.slice A' n' c') (treeW xs) ∧ (treeW xs).length = n' ∧ Chg No w w' := by
  unfold treeW
  by_cases hF : treeF xs = 0
  · have := reftree_ok w A n c xs h hb hF
    rw [if_pos hF, hF]
    exact this
  · have := reftree_no w A n c xs h hb (by omega) hF
    rw [if_neg hF]
    exact this
theorem says_tree (w : World) (A : Option Addr) (n c : Nat) (xs : List Ent) (h : Es w (.slice A n c) xs) (hb : ∀ x ∈ xs, x.1.size ≤ maxLen ∧ x.2.2 < 18446744073709551616) (hn : n ≤ 1000) (W : World) (hW : Chg No w W) (A' : Option Addr) (n' c' : Nat) (hw : Bytes W (.slice A' n' c') (treeW xs)) (hwl : (treeW xs).length = n')
    (Al : Option Addr) (cl : Nat) (hL : W.ownsRow w.heap.size 24 1 (.slice Al n cl) n ((xs.map (·.2.2)).map u64v)) :
    Calls Try.prog 32 #[treeV (.slice A n c), .int .i64 2, .slice A' n' c', .int .i64 (treeF xs), .slice Al n cl] W fun e w' => e = .returned (.bool true) ∧ Chg No W w' := by
  have mx : maxLen ≤ 9223372036854775807 := by unfold maxLen; omega
  have hb1 : ∀ x ∈ xs, x.1.size ≤ 9223372036854775807 := fun x hx => Nat.le_trans (hb x hx).1 mx
  have he := (encodes_tree w A n c xs h hb1 (fun x hx => (hb x hx).2)).no hW
  have hck : ∀ V, Chg No W V → Calls Try.prog 14 #[treeV (.slice A n c)] V fun e w' => e = .returned (.int .i64 (treeF xs)) ∧ Chg No V w' := fun V hV => check_tree V A n c xs (h.no (hW.no hV)) hb1
  have hkd : ∀ V, Calls Try.prog 23 #[treeV (.slice A n c)] V fun e w' => e = .returned (.int .i64 ((2 : Nat) : Int)) ∧ V = w' := fun V => (kind_tree V _).mono fun _ _ h => ⟨h.1, h.2.symm⟩
  have hlen := h.len
  by_cases hF : treeF xs = 0
  · rw [treeW, if_pos hF] at hw hwl
    rw [if_pos hF, hF] at he
    rw [hF] at hck ⊢
    have hB := obB_len' (.tree xs) hF
    have hlk := links_tree w A n c xs h hb hF
    exact says_ok W _ 2 (treeB xs) hB he hck hkd (xs.map (·.2.2)) (by rw [List.length_map]; omega) (fun V hV => hlk V (hW.no hV)) A' n' c' hw hwl Al n cl (slOwn hL (by rw [List.length_map]; exact hlen))
  · rw [treeW, if_neg hF] at hw hwl
    rw [if_neg hF] at he
    exact says_no W _ 2 (treeF xs) hF he hck hkd (links_refused W _ (treeF xs) hF hck) A' n' c' hw hwl Al n cl

set_option maxHeartbeats 12800000 in
theorem objectTrees_core (w : World) (Ab : Option Addr) (nb cb : Nat) (xs : List Ent) (hb : Es w (.slice Ab nb cb) xs) (hxb : ∀ x ∈ xs, x.1.size ≤ maxLen ∧ x.2.2 < 18446744073709551616) :
    Calls Try.prog 11 #[.slice Ab nb cb] w fun e w' => e = .returned (.bool true) ∧ Chg No w w' := by
  have hl := hb.len
  have hnc : nb ≤ cb := by
    obtain ⟨A', c', he, h2, h3, -⟩ := hb
    simp only [Value.slice.injEq] at he
    omega
  have HB0 := Lib.hid hb
  have HL0 := Lib.hid hl
  have HX0 := Lib.hid hxb
  have hfd : ∀ (A : Option Addr) (n c : Nat) W, Sem.run Try.prog (Instr.field 33 (.agg #[.slice A n c]) 0) W = .ok (.slice A n c) W := fun _ _ _ _ => rfl
  clear hb hl hxb
  go_enter Try.func11, Try.ntmps11
  go_wp2_with fail
  refine (wakes_calls w).mono ?_
  rintro e w1 ⟨rfl, hc1⟩
  have HC1 := Lib.hid hc1
  clear hc1
  have hcap : (min (nb : Int) 259) ≤ (cb : Int) := by omega
  have hcap0 : 0 ≤ (min (nb : Int) 259) := by omega
  go_upto_region 4 with fail
  have hN1 : (min (nb : Int) 259).toNat ≤ nb := by omega
  have hN : (min (nb : Int) 259).toNat ≤ 259 := by omega
  have hNc : (min (nb : Int) 259).toNat ≤ cb := by omega
  clear hcap hcap0
  generalize (min (nb : Int) 259).toNat = N at *
  have HB : Hid (Es w (.slice Ab N cb) (xs.take N)) := HB0.out.take hN1
  have HLN : Hid ((xs.take N).length = N) := by rw [Hid, List.length_take, HL0.out]; omega
  have HX : Hid (∀ x ∈ xs.take N, x.1.size ≤ maxLen ∧ x.2.2 < 18446744073709551616) := fun x hx => HX0.out x (List.mem_of_mem_take hx)
  clear HB0 HL0 HX0 hN1
  generalize xs.take N = bs at *
  have hmk : ∀ W : World, (Instr.makeSlice 22 (.int .i64 0) (.int .i64 ((N : Int) + 9))).run Try.prog W = .ok (.slice (some ⟨W.heap.size, 0, none⟩) 0 (N + 9)) (W.alloc (.cells (madeCells #[.string ⟨#[]⟩, .bool false, .int .u64 0] ((N + 9) * 3)) 35)) := by
    intro W
    obtain ⟨i0, hi, hz0, hz1, hz2⟩ := info_parts infoEnt
    have := run_make (P := Try.prog) W 22 35 i0 (.agg #[.string ⟨#[]⟩, .bool false, .int .u64 0]) Try.underlying22 hi hz0 .i64 .i64 0 ((N : Int) + 9) (by omega) (by omega) (by rw [hz2]; omega) (by omega)
    rw [hz1] at this
    have e9 : ((N : Int) + 9).toNat = N + 9 := by omega
    rw [e9] at this
    exact this
  have own2 : Hid ((w1.alloc (.cells (madeCells #[.string ⟨#[]⟩, .bool false, .int .u64 0] ((N + 9) * 3)) 35)).ownsRow w1.heap.size 35 3 (.slice (some ⟨w1.heap.size, 0, none⟩) 0 (N + 9)) 0 []) := World.ownsRow_made w1 _ (N + 9) (Nat.le_refl _) (by unfold maxLen; omega) (by rw [size_madeCells])
  have src2 : Hid (Src Try.prog 3 22 (.slice Ab N cb) N (bs.flatMap encE) (w1.alloc (.cells (madeCells #[.string ⟨#[]⟩, .bool false, .int .u64 0] ((N + 9) * 3)) 35))) := srcEnts (HB.out.no (HC1.out.alloc _))
  go_wp2_with (at_builtin; (refine wpList_app2 rfl (.tmp 28) (.tmp 29) 22 22 rfl w1.heap.size 35 (.agg #[.string ⟨#[]⟩, .bool false, .int .u64 0]) 3 32 infoEnt Try.underlying22 rfl (by decide) (.slice (some ⟨w1.heap.size, 0, none⟩) 0 (N + 9)) (.slice Ab N cb) 0 N ([]) (bs.flatMap encE) rfl rfl ?own ?src ?b1 ?b2 ?b3 ?_; (case own => exact own2.out); (case src => exact src2.out); (case b1 => omega); (case b2 => unfold maxLen; omega); (case b3 => simp); intro v2 w2 hown2 hg2 hfrom2; refine Hid.out ?_))
  refine Lib.hid ?_
  obtain ⟨A2, c2, rfl⟩ := ownsRow_form hown2
  have HO2 : Hid (w2.ownsRow w1.heap.size 35 3 (.slice A2 N c2) N (bs.flatMap encE)) := by rw [Nat.zero_add, List.nil_append] at hown2; exact hown2
  have HC2 : Hid (Chg No w w2) := (HC1.out.alloc _).grown hg2 (fun q hq => .inl (by simp [Value.ownBlock] at hq; subst hq; exact HC1.out.size))
  have hs2 : w1.heap.size ≤ w2.heap.size := by
    have h2 := (Chg.ofGrown (S := fun k => (Value.slice (some ⟨w1.heap.size, 0, none⟩) 0 (N + 9)).ownBlock = some k) hg2 (fun k hk => hk)).size
    simp only [World.size_alloc] at h2
    omega
  clear hown2 hg2 hfrom2 own2 src2 hmk
  rw [Nat.zero_add]
  have own3 := Lib.hid (World.ownsRow.alloc HO2.out (.cells #[.string ⟨#[126]⟩, .bool false, .int .u64 0] 35))
  have src3 : Hid (Src Try.prog 3 22 (.slice (some ⟨w2.heap.size, 0, none⟩) 1 1) 1 (encE (⟨#[126]⟩, false, 0)) (w2.alloc (.cells #[.string ⟨#[126]⟩, .bool false, .int .u64 0] 35))) := Src.entry Try.underlying22 (⟨#[126]⟩, false, 0) (heap_alloc_new w2 _)
  go_wp2_with (at_builtin; (refine wpList_app2 rfl (.tmp 30) (.tmp 32) 22 22 rfl w1.heap.size 35 (.agg #[.string ⟨#[]⟩, .bool false, .int .u64 0]) 3 32 infoEnt Try.underlying22 rfl (by decide) (.slice A2 N c2) (.slice (some ⟨w2.heap.size, 0, none⟩) 1 1) N 1 (bs.flatMap encE) (encE (⟨#[126]⟩, false, 0)) rfl rfl ?own ?src ?b1 ?b2 ?b3 ?_; (case own => exact own3.out); (case src => exact src3.out); (case b1 => omega); (case b2 => unfold maxLen; omega); (case b3 => (simp only [World.size_alloc]; omega)); intro v3 w3 hown3 hg3 hfrom3; refine Hid.out ?_))
  refine Lib.hid ?_
  obtain ⟨A3, c3, rfl⟩ := ownsRow_form hown3
  have HC3 : Hid (Chg No w w3) := (HC2.out.alloc _).grown hg3 (fun q hq => .inl (by have := (World.ownsRow.lt HO2.out q hq).1; have := HC1.out.size; omega))
  have HO3 := Lib.hid hown3
  clear hown3 hg3 hfrom3 own3 src3 HO2
  obtain ⟨g3, rfl, -, -, hput3⟩ := own_put HO3.out (by omega)
  have hl3 : bs.flatMap encE ++ encE (⟨#[126]⟩, false, 0) = (bs ++ [((⟨#[126]⟩, false, 0) : Ent)]).flatMap encE := by simp
  have HE3 : Hid (Es w3 (.slice (some ⟨g3, 0, none⟩) (N + 1) c3) (bs ++ [((⟨#[126]⟩, false, 0) : Ent)])) := esOwn (by rw [← hl3]; exact HO3.out) (by rw [List.length_append, HLN.out]; rfl)
  have hNc3 : N ≤ c3 := by
    obtain ⟨A', c', he, h2, h3, -⟩ := HE3.out
    simp only [Value.slice.injEq] at he
    rw [List.length_append, HLN.out] at h2 he
    omega
  have HF : Hid (Es w3 (.slice (some ⟨g3, 0, none⟩) N c3) bs) := by
    have := HE3.out.take (k := N) (by omega)
    rwa [List.take_append_of_le_length (by rw [HLN.out]; exact Nat.le_refl _), List.take_of_length_le (by rw [HLN.out]; exact Nat.le_refl _)] at this
  have hNi : ((N : Int)) < ((N + 1 : Nat) : Int) := by omega
  have h7 : w3.cell? ⟨g3, N * 3, none⟩ = some (.string ⟨#[126]⟩) := by
    obtain ⟨b, o, he, hc⟩ := HE3.out.addr (by rw [List.length_append, HLN.out]; simp)
    cases he
    have := (hc N (by rw [List.length_append, HLN.out]; simp)).1
    rw [Nat.zero_add] at this
    rw [this, List.getElem_append_right (by rw [HLN.out]; exact Nat.le_refl _)]
    simp [HLN.out]
  have H7 := Lib.hid h7
  have HB3 := Lib.hid (HB.out.no HC3.out)
  clear hput3 hl3 h7 HB HC2 HC1 HO3 HE3 hs2
  have HQ := Lib.hid (heap_alloc_new w3 (.cells #[.slice (some ⟨g3, 0, none⟩) N c3] 33))
  go_wp2_with fail
  refine (reftree_calls _ Ab N cb bs (HB3.out.no ((Chg.refl No w3).alloc _)) HX.out (by omega)).mono ?_
  rintro e w5 ⟨A5, n5, c5, rfl, hB5, hl5, hc5⟩
  have HQ5 := Lib.hid (hc5.heap HQ.out (fun x => x))
  have HG5 : Hid (Chg No w3 w5) := ((Chg.refl No w3).alloc _).no hc5
  have HW5 := Lib.hid hB5
  have HWL5 := Lib.hid hl5
  clear hB5 hl5 hc5 HQ
  have HM : Hid ((bs.map (·.2.2)).length = N) := by rw [Hid, List.length_map]; exact HLN.out
  have hgb : w3.heap.size ≤ w5.heap.size := HG5.out.size
  go_wp2
  go_loopw [7, 46] (fun l i wr => ∃ (k : Nat) (Ak : Option Addr) (ck : Nat), k ≤ N ∧ i = .int .i64 (k : Int) ∧ l = .slice Ak k ck ∧ Hid (wr.ownsRow w5.heap.size 24 1 (.slice Ak k ck) k (((bs.take k).map (·.2.2)).map u64v)) ∧ Hid (Chg No w5 wr)) (fun _ i _ => N - (intOf i).toNat)
  case atStart => exact ⟨0, none, 0, Nat.zero_le _, rfl, rfl, World.ownsRow_nil _ _ _ _, Chg.refl _ _⟩
  case round =>
    obtain ⟨k, Ak, ck, hk, rfl, rfl, HO, HC⟩ := hrel
    by_cases hlt : k < N
    · obtain ⟨b, o, rfl, hcell⟩ := (HB3.out.no (HG5.out.no HC.out)).addr (by rw [HLN.out]; omega)
      obtain ⟨e0, e1, e2⟩ := hcell k (by rw [HLN.out]; exact hlt)
      have hT : bs.take (k + 1) = bs.take k ++ [bs[k]'(by rw [HLN.out]; exact hlt)] := by rw [List.take_succ_eq_append_getElem]
      generalize bs[k]'(by rw [HLN.out]; exact hlt) = y at *
      have HT := Lib.hid hT
      obtain ⟨s, f, id⟩ := y
      simp only at e0 e1 e2
      clear hcell hT
      have own8 := Lib.hid (World.ownsRow.alloc (World.ownsRow.alloc HO.out (.cells #[.string s, .bool f, .int .u64 (id : Int)] 35)) (.cells #[.int .u64 (id : Int)] 24))
      have hsz : w5.heap.size ≤ wr.heap.size := HC.out.size
      have src8 : Hid (Src Try.prog 1 25 (.slice (some ⟨(wr.alloc (.cells #[.string s, .bool f, .int .u64 (id : Int)] 35)).heap.size, 0, none⟩) 1 1) 1 [u64v id] ((wr.alloc (.cells #[.string s, .bool f, .int .u64 (id : Int)] 35)).alloc (.cells #[.int .u64 (id : Int)] 24))) := Src.one Try.underlying25 _ rfl
      simp only [World.size_alloc] at src8
      go_wp2_with (at_builtin; (refine wpList_app2 rfl (.tmp 50) (.tmp 53) 25 25 rfl w5.heap.size 24 (.int .u64 0) 1 8 infoId Try.underlying25 rfl (by decide) (.slice Ak k ck) (.slice (some ⟨wr.heap.size + 1, 0, none⟩) 1 1) k 1 (((bs.take k).map (·.2.2)).map u64v) ([u64v id]) rfl rfl ?own ?src ?b1 ?b2 ?b3 ?_; (case own => exact own8.out); (case src => exact src8.out); (case b1 => omega); (case b2 => unfold maxLen; omega); (case b3 => (simp only [World.size_alloc]; omega)); intro v8 w8 hown8 hg8 hfrom8; refine Hid.out ?_))
      refine Lib.hid ?_
      obtain ⟨A8, c8, rfl⟩ := ownsRow_form hown8
      have HC8 : Hid (Chg No w5 w8) := ((HC.out.alloc _).alloc _).grown hg8 (fun q hq => .inl (World.ownsRow.lt HO.out q hq).1)
      have HO8 : Hid (w8.ownsRow w5.heap.size 24 1 (.slice A8 (k + 1) c8) (k + 1) (((bs.take (k + 1)).map (·.2.2)).map u64v)) := by
        rw [Hid, HT.out]
        simpa using hown8
      clear hown8 hg8 hfrom8 own8 src8
      go_wp2
      go_roundw
      case rel => exact ⟨k + 1, A8, c8, by omega, by simp, rfl, HO8.out, HC8.out⟩
      case measure => simp [intOf]; omega
    · have hkn : k = N := by omega
      subst hkn
      generalize wr = wq at *
      have HOL : Hid (wq.ownsRow w3.heap.size 24 1 (.slice Ak k ck) k ((bs.map (·.2.2)).map u64v)) := by
        have := ownsRow_mono HO.out hgb
        rwa [List.take_of_length_le (by rw [HLN.out]; exact Nat.le_refl _)] at this
      have HSAY : Hid (Calls Try.prog 32 #[treeV (.slice (some ⟨g3, 0, none⟩) k c3), .int .i64 2, .slice A5 n5 c5, .int .i64 (treeF bs), .slice Ak k ck] wq fun e w' => e = .returned (.bool true) ∧ Chg No wq w') := says_tree w3 _ k c3 bs HF.out HX.out (by omega) wq (HG5.out.no HC.out) A5 n5 c5 (HW5.out.no HC.out) HWL5.out Ak ck HOL.out
      have HQ6' := Lib.hid (HC.out.heap HQ5.out (fun x => x))
      have HG6' := Lib.hid (HG5.out.no HC.out)
      clear HO HC HOL HW5 HWL5 HQ5 HG5 HM
      generalize treeF bs = no at *
      have k0 := cellAt HQ6'.out 0 _ rfl
      go_wp2_with fail
      refine HSAY.out.mono ?_
      rintro e w6 ⟨rfl, hc6⟩
      have HG6 := Lib.hid (HG6'.out.no hc6)
      have HQ6 := Lib.hid (hc6.heap HQ6'.out (fun x => x))
      clear hc6 HG6' HQ6' HSAY k0
      go_wp2_with fail
      refine (ents_same _ _ k c3 Ab k cb bs (HF.out.no HG6.out) (HB3.out.no HG6.out) (by omega)).mono ?_
      rintro e w7 ⟨rfl, hc7⟩
      have HG7 := Lib.hid (HG6.out.no hc7)
      have HQ7 := Lib.hid (hc7.heap HQ6.out (fun x => x))
      clear hc7 HG6 HQ6
      have k7 := HG7.out.cell H7.out (fun x => x)
      have k0 := cellAt HQ7.out 0 _ rfl
      go_wp2_with fail
      refine (astree_tree _ _ k c3).mono ?_
      rintro e w8 ⟨rfl, hc8⟩
      have HG8 := Lib.hid (HG7.out.no hc8)
      have HQ8 := Lib.hid (hc8.heap HQ7.out (fun x => x))
      have HX8 := Lib.hid (heap_alloc_new w8 (.cells #[.slice (some ⟨g3, 0, none⟩) k c3] 33))
      have HQ9' := Lib.hid (((Chg.refl No w8).alloc (.cells #[.slice (some ⟨g3, 0, none⟩) k c3] 33)).heap HQ8.out (fun x => x))
      clear hc8 k0 k7 HG7 HQ7
      have k0 := cellAt HQ9'.out 0 _ rfl
      go_wp2_with fail
      refine (asblob_tree _ _ k c3).mono ?_
      rintro e w9 ⟨rfl, hc9⟩
      have HG9 := Lib.hid ((HG8.out.alloc _).no hc9)
      have HQ9 := Lib.hid (hc9.heap HQ9'.out (fun x => x))
      have HX9 := Lib.hid (hc9.heap HX8.out (fun x => x))
      have HQ10' := Lib.hid (((Chg.refl No w9).alloc (.cells #[.slice none 0 0] 40)).heap HQ9.out (fun x => x))
      have HX10' := Lib.hid (((Chg.refl No w9).alloc (.cells #[.slice none 0 0] 40)).heap HX9.out (fun x => x))
      generalize w8.heap.size = gx at *
      clear hc9 k0 HG8 HQ8 HQ9' HX8 HQ9 HX9
      have k0 := cellAt HQ10'.out 0 _ rfl
      go_wp2_with fail
      refine (ascommit_tree _ _ k c3).mono ?_
      rintro e w10 ⟨rfl, hc10⟩
      have HG10 := Lib.hid ((HG9.out.alloc _).no hc10)
      have HQ10 := Lib.hid (hc10.heap HQ10'.out (fun x => x))
      have HX10 := Lib.hid (hc10.heap HX10'.out (fun x => x))
      have HQ11 := Lib.hid (((Chg.refl No w10).alloc (.cells #[.int .u64 0, .slice none 0 0, .string ⟨#[]⟩, .int .i64 0, .string ⟨#[]⟩] 27)).heap HQ10.out (fun x => x))
      have HX11 := Lib.hid (((Chg.refl No w10).alloc (.cells #[.int .u64 0, .slice none 0 0, .string ⟨#[]⟩, .int .i64 0, .string ⟨#[]⟩] 27)).heap HX10.out (fun x => x))
      have HG11 : Hid (Chg No w3 (w10.alloc (.cells #[.int .u64 0, .slice none 0 0, .string ⟨#[]⟩, .int .i64 0, .string ⟨#[]⟩] 27))) := HG10.out.alloc _
      clear hc10 k0 HG9 HG10 HQ10' HX10' HQ10 HX10
      have k1 := cellAt HX11.out 0 _ rfl
      go_wp2_with fail
      refine (ents_same _ _ k c3 Ab k cb bs (HF.out.no HG11.out) (HB3.out.no HG11.out) (by omega)).mono ?_
      rintro e w12 ⟨rfl, hc12⟩
      have HG12 := Lib.hid (HG11.out.no hc12)
      have HQ12 := Lib.hid (hc12.heap HQ11.out (fun x => x))
      clear hc12 k1 HG11 HQ11 HX11
      have k0 := cellAt HQ12.out 0 _ rfl
      go_wp2_with fail
      refine (must_tree _ _ k c3).mono ?_
      rintro e w13 ⟨rfl, hc13⟩
      have HG13 := Lib.hid (HG12.out.no hc13)
      have HQ13 := Lib.hid (hc13.heap HQ12.out (fun x => x))
      clear hc13 k0 HG12 HQ12
      go_wp2_with fail
      refine (ents_same _ _ k c3 Ab k cb bs (HF.out.no HG13.out) (HB3.out.no HG13.out) (by omega)).mono ?_
      rintro e w14 ⟨rfl, hc14⟩
      have HG14 := Lib.hid (HG13.out.no hc14)
      have HQ14 := Lib.hid (hc14.heap HQ13.out (fun x => x))
      clear hc14 HG13 HQ13
      have k0 := cellAt HQ14.out 0 _ rfl
      go_wp2_with fail
      refine (copy_tree _ _ k c3 bs (HF.out.no HG14.out) (by omega)).mono ?_
      rintro e w15 ⟨A13, c13, rfl, ho13, hc13⟩
      have HG15 := Lib.hid (HG14.out.no hc13)
      have HO13 := Lib.hid (ownsRow_mono ho13 HG14.out.size)
      clear ho13 hc13 k0 HQ14 HG14
      go_wp2_with fail
      refine (astree_tree _ _ k c13).mono ?_
      rintro e w16 ⟨rfl, hc16⟩
      have HG16 := Lib.hid (HG15.out.no hc16)
      have HO16 := Lib.hid (ownsRow_chg HO13.out hc16 (fun _ _ x => x))
      have HX16 := Lib.hid (heap_alloc_new w16 (.cells #[.slice A13 k c13] 33))
      have HG17 : Hid (Chg No w3 (w16.alloc (.cells #[.slice A13 k c13] 33))) := HG16.out.alloc _
      have HO17 := Lib.hid (World.ownsRow.alloc HO16.out (.cells #[.slice A13 k c13] 33))
      clear hc16 HG15 HG16 HO13 HO16
      have k1 := cellAt HX16.out 0 _ rfl
      go_wp2_with fail
      refine (ents_same _ A13 k c13 Ab k cb bs (esOwn HO17.out HLN.out) (HB3.out.no HG17.out) (by omega)).mono ?_
      rintro e w18 ⟨rfl, hc18⟩
      have HG18 := Lib.hid (HG17.out.no hc18)
      have HX18 := Lib.hid (hc18.heap HX16.out (fun x => x))
      have HO18 := Lib.hid (ownsRow_chg HO17.out hc18 (fun _ _ x => x))
      clear hc18 k1 HG17 HX16 HO17
      generalize w16.heap.size = gy at *
      have k1 := cellAt HX18.out 0 _ rfl
      go_wp2
      clear k1
      go_loopw [142] (fun j wr => ∃ (i : Nat) (cs : List Value), i ≤ k ∧ j = .int .i64 (i : Int) ∧ Hid (wr.ownsRow w3.heap.size 35 3 (.slice A13 k c13) k cs) ∧ Hid (wr.heap[gy]? = some (.cells #[.slice A13 k c13] 33)) ∧ Hid (Chg No w3 wr)) (fun j _ => k - (intOf j).toNat)
      case atStart => exact ⟨0, _, Nat.zero_le _, rfl, HO18.out, HX18.out, HG18.out⟩
      case round =>
        obtain ⟨i, cs, hi, rfl, HOj, HXj, HGj⟩ := hrel
        have k1 := cellAt HXj.out 0 _ rfl
        by_cases hin : i < k
        · obtain ⟨gr, rfl, hgr, -, hput⟩ := own_put HOj.out (by omega)
          obtain ⟨⟨u, hu, -⟩, hf, hset⟩ := hput (i * 3) (by omega)
          have hicap : (i : Int) < (k : Int) := by omega
          have hne : gy ≠ gr := by
            rintro rfl
            obtain ⟨cc, fz, hcc⟩ := ownsRow_cells HOj.out gy rfl
            have := hcc.symm.trans HXj.out
            simp only [Option.some.injEq, Obj.cells.injEq] at this
            exact absurd this.2.1 (by decide)
          have HSET : Hid (∀ y, (wr.setCell ⟨gr, i * 3, none⟩ y).ownsRow w3.heap.size 35 3 (.slice (some ⟨gr, 0, none⟩) k c13) k (cs.set (i * 3) y) ∧ (wr.setCell ⟨gr, i * 3, none⟩ y).heap[gy]? = some (.cells #[.slice (some ⟨gr, 0, none⟩) k c13] 33) ∧ Chg No w3 (wr.setCell ⟨gr, i * 3, none⟩ y)) := fun y => ⟨hset _, (Chg.put wr gr (i * 3) _).heap HXj.out (fun h => hne h), HGj.out.setCell (.inl hgr) _⟩
          clear hset hput hne
          go_wp2
          go_roundw
          case rel => exact ⟨i + 1, _, by omega, by simp, (HSET.out _).1, (HSET.out _).2.1, (HSET.out _).2.2⟩
          case measure => simp [intOf]; omega
        · have hin2 : ¬ (i : Int) < (k : Int) := by omega
          clear k1 HOj HXj HO18 HX18 HG18
          go_wp2_with fail
          refine (ents_same _ _ k c3 Ab k cb bs (HF.out.no HGj.out) (HB3.out.no HGj.out) (by omega)).mono ?_
          rintro e w19 ⟨rfl, hc19⟩
          have HG19 := Lib.hid (HGj.out.no hc19)
          go_wp2_with fail
          refine (wakes_calls _).mono ?_
          rintro e w20 ⟨rfl, hc20⟩
          go_wp2
          go_ret
          exact ⟨rfl, (HC3.out.no HG19.out).no hc20⟩

theorem objectTrees_walk (w : World) (Ab : Option Addr) (nb cb : Nat) (xs : List Ent) (hb : Es w (.slice Ab nb cb) xs) (hxb : ∀ x ∈ xs, x.1.size ≤ maxLen ∧ x.2.2 < 18446744073709551616) (hn : nb ≤ maxLen) :
    Calls Try.prog 11 #[.slice Ab nb cb] w fun e w' => e = .returned (.bool true) ∧ Below w.heap.size w w' :=
  (objectTrees_core w Ab nb cb xs hb hxb).mono fun _ _ h => ⟨h.1, h.2.below⟩
end Go.Proofs.Ytkmnkbmmgopldaa
