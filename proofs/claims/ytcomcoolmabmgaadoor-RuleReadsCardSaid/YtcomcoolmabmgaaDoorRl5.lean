/-
  Rules: the reference's Read: the walk.
-/
import Derived.Test.YtcomcoolmabmgaaDoorRl4
namespace Go.Proofs.YtcomcoolmabmgaaDoor
open Go.RowKit Go.Shelf
set_option linter.unusedVariables false
set_option linter.unusedSimpArgs false
set_option maxRecDepth 100000

/-- What the reference's Read answers. -/
def RefAllR (W' : World) (e : Ending) (R : List Rul × Int × Int) : Prop := ∃ A n c, e = .returned (.tuple #[.slice A n c, .agg #[.int .i64 R.2.1, .int .i64 R.2.2]]) ∧ Rs W' (.slice A n c) R.1
theorem ReadAllR.ref {base : Nat} {W' : World} {e : Ending} {R : List Rul × Int × Int} (h : ReadAllR base W' e R) : RefAllR W' e R := by
  obtain ⟨A, n, c, he, ho⟩ := h
  exact ⟨A, n, c, he, ho.rs⟩
theorem Rs_nil (w : World) : Rs w (.slice none 0 0) [] := OwnR.rs (base := 0) (n := 0) (World.ownsRow_nil _ _ _ _)
set_option maxHeartbeats 64000000 in
theorem rreadall_calls (w : World) (s : ByteArray) (hs : s.size ≤ 9223372036854775807) :
    Calls Tryd.prog 10 #[.string s] w fun e w' => RefAllR w' e (readF s.data.toList) ∧ Chg No w w' := by
  have HS := Lib.hid (size_list s)
  by_cases hbig : 131072 < s.size
  · have hb : (131072 : Int) < (s.size : Int) := by omega
    have HU : Hid (readF s.data.toList = ([], 3, 0)) := by rw [Hid, readF, if_pos (by rw [HS.out]; exact hbig)]
    clear hbig
    have CS : (w.alloc (.cells #[.int .i64 0, .int .i64 0] 26)).heap[w.heap.size]? = some (.cells #[.int .i64 0, .int .i64 0] 26 (0, 0)) := heap_alloc_new w _
    have HCW : Chg No w (w.alloc (.cells #[.int .i64 0, .int .i64 0] 26)) := (Chg.refl No w).alloc _
    go_enter Tryd.func10, Tryd.ntmps10
    go_wp2
    exact bodyPost_ret (v := .tuple #[.slice none 0 0, .agg #[.int .i64 3, .int .i64 0]]) (by simp [results, Tryd.results10, go_sem]) rfl ⟨by rw [HU.out]; exact ⟨none, 0, 0, rfl, Rs_nil _⟩, (Chg.refl No w).alloc _⟩
  · have hb : ¬ (131072 : Int) < (s.size : Int) := by omega
    have HR : Hid (readF s.data.toList = readG 0 [] (linesF s.data.toList)) := by rw [Hid, readF, if_neg (by rw [HS.out]; exact hbig)]
    have hcount : Hid ((linesF s.data.toList).length ≤ 131072) := by
      have := lines_count _ s.data.toList (Nat.le_refl _)
      rw [Hid]; rw [size_list] at this; omega
    have HLM : Hid (∀ x ∈ linesF s.data.toList, x.length ≤ 131072) := fun x hx => by
      have := (lines_mem _ s.data.toList (Nat.le_refl _) x hx).2
      rw [size_list] at this; omega
    have HLC := Lib.hid (rlines_calls (w.alloc (.cells #[.int .i64 0, .int .i64 0] 26)) s (by omega))
    have CS1 : (w.alloc (.cells #[.int .i64 0, .int .i64 0] 26)).heap[w.heap.size]? = some (.cells #[.int .i64 0, .int .i64 0] 26 (0, 0)) := heap_alloc_new w _
    generalize linesF s.data.toList = L at HR hcount HLM HLC
    clear hbig
    go_enter Tryd.func10, Tryd.ntmps10
    go_wp2_with (go_at_call 24; refine Hid.out ?_)
    refine Lib.hid ?_
    refine HLC.out.mono ?_
    rintro e w2 ⟨⟨AL, nl, cl, rfl, hnl, hol⟩, hc2⟩
    have HSL : Hid (Sl strv w2 (.slice AL nl cl) L) := by rw [Hid, Sl, hnl]; exact Holds.ofOwn hol
    have CS2 : Hid (w2.heap[w.heap.size]? = some (.cells #[.int .i64 0, .int .i64 0] 26 (0, 0))) := hc2.heap CS1 (fun x => x)
    have HC2 : Hid (Chg No w w2) := ((Chg.refl No w).alloc _).no hc2
    have hz2 : w.heap.size < w2.heap.size := by have := hc2.size; rw [World.size_alloc] at this; omega
    have hnl2 : nl ≤ 131072 := by rw [← hnl]; exact hcount.out
    have HNL := Lib.hid hnl
    clear hol hc2 CS1 hnl HLC
    go_wp2
    go_loopw [4, 5, 7] (fun v a i wr => ∃ (k am n : Nat) (A : Option Addr) (c : Nat) (acc : List Rul), k ≤ nl ∧ i = .int .i64 (k : Int) ∧ a = .int .i64 (am : Int) ∧ v = .slice A n c ∧ n ≤ 64 ∧ am ≤ 131073 * k ∧ Hid (OwnR wr w2.heap.size (.slice A n c) n acc) ∧ Hid (readF s.data.toList = readG am acc (L.drop k)) ∧ Hid (Chg No w2 wr)) (fun _ _ i _ => nl - (intOf i).toNat)
    case atStart => exact ⟨0, 0, 0, none, 0, [], Nat.zero_le _, rfl, rfl, rfl, Nat.zero_le _, Nat.zero_le _, World.ownsRow_nil _ _ _ _, HR, Chg.refl _ _⟩
    case round =>
      obtain ⟨k, am, n, A, c, acc, hk, rfl, rfl, rfl, hn64, ham, HO, HRD, HC⟩ := hrel
      have CSr : Hid (wr.heap[w.heap.size]? = some (.cells #[.int .i64 0, .int .i64 0] 26 (0, 0))) := HC.out.heap CS2.out (fun x => x)
      have HBKr : Hid (∀ b, (Value.slice A n c).ownBlock = some b → ¬ b = w.heap.size) := fun b hb e => by have := (World.ownsRow.lt HO.out b hb).1; omega
      have hlacc : acc.length = n := HO.out.len
      by_cases hlt : k < nl
      · have i1 : (k : Int) < (nl : Int) := by omega
        have hkl : k < L.length := by rw [HNL.out]; exact hlt
        obtain ⟨lx, hlx⟩ : ∃ lx, L[k] = lx := ⟨_, rfl⟩
        have HD : Hid (L.drop k = lx :: L.drop (k + 1)) := by rw [Hid, List.drop_eq_getElem_cons hkl, hlx]
        have hll : lx.length ≤ 131072 := by rw [← hlx]; exact HLM.out _ (List.getElem_mem hkl)
        obtain ⟨bL, oL, rfl, hcell⟩ := HSL.out.addr (by omega)
        have hcr : ∀ W, Chg No w2 W → W.cell? ⟨bL, oL + k, none⟩ = some (.string (mkS lx)) := fun W h => by
          have := h.cell (hcell k hkl) (fun x => x)
          rw [hlx] at this; exact this
        have hck := hcr wr HC.out
        have HRW := Lib.hid (rwords_calls wr (mkS lx) (by rw [mkS_size]; omega))
        rw [mkS_list] at HRW
        have hszl : (mkS lx).size = lx.length := mkS_size lx
        have HRG : Hid (readF s.data.toList = match wordsF 0 [] lx with | .inl p => ([], 150, (am : Int) + (p : Int)) | .inr [] => readG (am + lx.length + 1) acc (L.drop (k + 1)) | .inr (w :: ws) => match readR (w :: ws) with | none => ([], 230, (am : Int)) | some y => if acc.length = 64 then ([], 3, (am : Int)) else readG (am + lx.length + 1) (acc ++ [y]) (L.drop (k + 1))) := by rw [Hid, HRD.out, HD.out, readG]; rfl
        have HPBg := Lib.hid fun q (h : wordsF 0 [] lx = .inl q) => words_place _ lx (Nat.le_refl _) 0 [] q h
        have HWSg := Lib.hid fun ws (h : wordsF 0 [] lx = .inr ws) => words_size _ lx (Nat.le_refl _) 0 [] ws h
        clear HRD HD
        generalize wordsF 0 [] lx = V at HRW HRG HPBg HWSg
        have HCR := Lib.hid hcr
        clear hcr hlx hcell
        match V, HRW, HRG, HPBg, HWSg with
        | .inl p, HRW, HRG, HPBg, HWSg =>
          have HU : Hid (readF s.data.toList = ([], 150, (am : Int) + (p : Int))) := HRG
          have hp := HPBg.out p rfl
          clear HRG HPBg HWSg HO HSL
          go_wp2_with (go_at_call 25; refine Hid.out ?_)
          refine Lib.hid ?_
          refine HRW.out.mono ?_
          rintro e w3 ⟨he, hc3⟩
          have he : e = .returned (.tuple #[.slice none 0 0, .int .i64 (p : Int)]) := he
          subst he
          have CS := hc3.heap CSr.out (fun x => x)
          have HCW : Chg No w w3 := (HC2.out.no HC.out).no hc3
          clear hc3 HRW HC CSr HBKr hck HCR
          have E2 : (((w3).setCell ⟨w.heap.size, 0, none⟩ (.int .i64 150)).setCell ⟨w.heap.size, 1, none⟩ (.int .i64 ((am : Int) + (p : Int)))).heap[w.heap.size]? = some (.cells #[.int .i64 150, .int .i64 ((am : Int) + (p : Int))] 26 (0, 0)) := heap_set (heap_set CS 0 _) 1 _
          obtain ⟨d30, d31⟩ := heap2 E2
          obtain ⟨c30, c31⟩ := heap2 CS
          have f3 := fun i => frzAt CS i
          have E3 : Chg No w (((w3).setCell ⟨w.heap.size, 0, none⟩ (.int .i64 150)).setCell ⟨w.heap.size, 1, none⟩ (.int .i64 ((am : Int) + (p : Int)))) := Chg.ofBelow (((Chg.below HCW).setCell (p := ⟨w.heap.size, 0, none⟩) (Nat.le_refl _) _).setCell (p := ⟨w.heap.size, 1, none⟩) (Nat.le_refl _) _)
          have E4 : Rs (((w3).setCell ⟨w.heap.size, 0, none⟩ (.int .i64 150)).setCell ⟨w.heap.size, 1, none⟩ (.int .i64 ((am : Int) + (p : Int)))) (.slice none 0 0) ([] : List Rul) := Rs_nil _
          have HE3 := Lib.hid E3
          have HE4 := Lib.hid E4
          clear E2 E3 E4 CS HCW
          go_wp2
          exact bodyPost_ret (v := .tuple #[.slice none 0 0, .agg #[.int .i64 150, .int .i64 ((am : Int) + (p : Int))]]) (by simp [results, Tryd.results10, go_sem, d30, d31]) rfl ⟨by rw [HU.out]; exact ⟨none, 0, 0, rfl, HE4.out⟩, HE3.out⟩
        | .inr [], HRW, HRG, HPBg, HWSg =>
          have HRD : Hid (readF s.data.toList = readG (am + lx.length + 1) acc (L.drop (k + 1))) := HRG
          clear HRG HPBg HWSg CSr HBKr
          go_wp2_with (go_at_call 25; refine Hid.out ?_)
          refine Lib.hid ?_
          refine HRW.out.mono ?_
          rintro e w3 ⟨he, hc3⟩
          obtain ⟨A1, m1, c1, he, hm1, ho1⟩ : RWordsR _ _ _ (.inr []) := he
          subst he
          subst hm1
          have HO3 := Lib.hid (HO.out.chg hc3)
          have HC3 := Lib.hid (HC.out.no hc3)
          have hck3 := HCR.out w3 HC3.out
          clear hc3 HRW HO HC ho1 hck
          go_wp2
          go_roundw
          case rel => exact ⟨k + 1, am + lx.length + 1, n, A, c, acc, by omega, by go_num, by go_num, rfl, hn64, by omega, HO3.out, HRD.out, HC3.out⟩
          case measure => simp only [intOf]; omega
        | .inr (y :: ws), HRW, HRG, HPBg, HWSg =>
          have HSZ := Lib.hid (HWSg.out _ rfl)
          clear HPBg HWSg
          go_wp2_with (go_at_call 25; refine Hid.out ?_)
          refine Lib.hid ?_
          refine HRW.out.mono ?_
          rintro e w3 ⟨he, hc3⟩
          obtain ⟨A1, m1, c1, he, hm1, ho1⟩ : RWordsR _ _ _ (.inr (y :: ws)) := he
          subst he
          have hm0 : (0 : Int) < (m1 : Int) := by rw [← hm1, List.length_cons]; omega
          have hm2 : m1 ≤ 131072 := by have := HSZ.out.1; rw [hm1] at this; simp only [List.length_nil] at this; omega
          have HSL3 : Sl strv w3 (.slice A1 m1 c1) (y :: ws) := by rw [Sl, hm1]; exact Holds.ofOwn ho1
          have HRC := Lib.hid (refrule_calls w3 A1 m1 c1 (y :: ws) HSL3 (by omega) (by omega) (fun x hx => by have := HSZ.out.2 x hx; rcases this with h | h; cases h; omega))
          have HO3 := Lib.hid (HO.out.chg hc3)
          have HC3 := Lib.hid (HC.out.no hc3)
          have CS3 := Lib.hid (hc3.heap CSr.out (fun x => x))
          clear hc3 HRW HO HC ho1 hck HSL3 hm1 CSr
          go_wp2_with (go_at_call 26; refine Hid.out ?_)
          refine Lib.hid ?_
          refine HRC.out.mono ?_
          rintro e w5 ⟨⟨x0, ok, he, hr⟩, hc5⟩
          have he : e = .returned (.tuple #[.agg #[.int .i64 x0.1, .string (mkS x0.2.1), .string (mkS x0.2.2)], .bool ok]) := he
          subst he
          have HO5 := Lib.hid (HO3.out.chg hc5)
          have HC5 := Lib.hid (HC3.out.no hc5)
          have CS5 := Lib.hid (hc5.heap CS3.out (fun x => x))
          clear hc5 HRC HO3 HC3 CS3
          cases ok with
          | false =>
            have HU : Hid (readF s.data.toList = ([], 230, (am : Int))) := by
              have hr : readR (y :: ws) = none := hr
              rw [Hid, HRG.out]; simp only [hr]
            have CS := ((Chg.refl No w5).alloc (.cells #[.int .i64 x0.1, .string (mkS x0.2.1), .string (mkS x0.2.2)] 32)).heap CS5.out (fun x => x)
            have HCW : Chg No w (w5.alloc (.cells #[.int .i64 x0.1, .string (mkS x0.2.1), .string (mkS x0.2.2)] 32)) := ((HC2.out.no HC5.out).alloc _)
            clear HRG hr HO5 HC5 HCR
            have E2 : (((w5.alloc (.cells #[.int .i64 x0.1, .string (mkS x0.2.1), .string (mkS x0.2.2)] 32)).setCell ⟨w.heap.size, 0, none⟩ (.int .i64 230)).setCell ⟨w.heap.size, 1, none⟩ (.int .i64 (am : Int))).heap[w.heap.size]? = some (.cells #[.int .i64 230, .int .i64 (am : Int)] 26 (0, 0)) := heap_set (heap_set CS 0 _) 1 _
            obtain ⟨d30, d31⟩ := heap2 E2
            obtain ⟨c30, c31⟩ := heap2 CS
            have f3 := fun i => frzAt CS i
            have E3 : Chg No w (((w5.alloc (.cells #[.int .i64 x0.1, .string (mkS x0.2.1), .string (mkS x0.2.2)] 32)).setCell ⟨w.heap.size, 0, none⟩ (.int .i64 230)).setCell ⟨w.heap.size, 1, none⟩ (.int .i64 (am : Int))) := Chg.ofBelow (((Chg.below HCW).setCell (p := ⟨w.heap.size, 0, none⟩) (Nat.le_refl _) _).setCell (p := ⟨w.heap.size, 1, none⟩) (Nat.le_refl _) _)
            have E4 : Rs (((w5.alloc (.cells #[.int .i64 x0.1, .string (mkS x0.2.1), .string (mkS x0.2.2)] 32)).setCell ⟨w.heap.size, 0, none⟩ (.int .i64 230)).setCell ⟨w.heap.size, 1, none⟩ (.int .i64 (am : Int))) (.slice none 0 0) ([] : List Rul) := Rs_nil _
            have HE3 := Lib.hid E3
            have HE4 := Lib.hid E4
            clear E2 E3 E4 CS HCW
            go_wp2
            exact bodyPost_ret (v := .tuple #[.slice none 0 0, .agg #[.int .i64 230, .int .i64 (am : Int)]]) (by simp [results, Tryd.results10, go_sem, d30, d31]) rfl ⟨by rw [HU.out]; exact ⟨none, 0, 0, rfl, HE4.out⟩, HE3.out⟩
          | true =>
            have hr : readR (y :: ws) = some x0 := hr
            by_cases h64 : acc.length = 64
            · have HU : Hid (readF s.data.toList = ([], 3, (am : Int))) := by rw [Hid, HRG.out]; simp only [hr]; rw [if_pos h64]
              have CS := ((Chg.refl No w5).alloc (.cells #[.int .i64 x0.1, .string (mkS x0.2.1), .string (mkS x0.2.2)] 32)).heap CS5.out (fun x => x)
              have HCW : Chg No w (w5.alloc (.cells #[.int .i64 x0.1, .string (mkS x0.2.1), .string (mkS x0.2.2)] 32)) := ((HC2.out.no HC5.out).alloc _)
              have hq : (64 : Int) ≤ (n : Int) := by omega
              clear HRG hr HO5 HC5 HCR
              have E2 : (((w5.alloc (.cells #[.int .i64 x0.1, .string (mkS x0.2.1), .string (mkS x0.2.2)] 32)).setCell ⟨w.heap.size, 0, none⟩ (.int .i64 3)).setCell ⟨w.heap.size, 1, none⟩ (.int .i64 (am : Int))).heap[w.heap.size]? = some (.cells #[.int .i64 3, .int .i64 (am : Int)] 26 (0, 0)) := heap_set (heap_set CS 0 _) 1 _
              obtain ⟨d30, d31⟩ := heap2 E2
              obtain ⟨c30, c31⟩ := heap2 CS
              have f3 := fun i => frzAt CS i
              have E3 : Chg No w (((w5.alloc (.cells #[.int .i64 x0.1, .string (mkS x0.2.1), .string (mkS x0.2.2)] 32)).setCell ⟨w.heap.size, 0, none⟩ (.int .i64 3)).setCell ⟨w.heap.size, 1, none⟩ (.int .i64 (am : Int))) := Chg.ofBelow (((Chg.below HCW).setCell (p := ⟨w.heap.size, 0, none⟩) (Nat.le_refl _) _).setCell (p := ⟨w.heap.size, 1, none⟩) (Nat.le_refl _) _)
              have E4 : Rs (((w5.alloc (.cells #[.int .i64 x0.1, .string (mkS x0.2.1), .string (mkS x0.2.2)] 32)).setCell ⟨w.heap.size, 0, none⟩ (.int .i64 3)).setCell ⟨w.heap.size, 1, none⟩ (.int .i64 (am : Int))) (.slice none 0 0) ([] : List Rul) := Rs_nil _
              have HE3 := Lib.hid E3
              have HE4 := Lib.hid E4
              clear E2 E3 E4 CS HCW
              go_wp2
              exact bodyPost_ret (v := .tuple #[.slice none 0 0, .agg #[.int .i64 3, .int .i64 (am : Int)]]) (by simp [results, Tryd.results10, go_sem, d30, d31]) rfl ⟨by rw [HU.out]; exact ⟨none, 0, 0, rfl, HE4.out⟩, HE3.out⟩
            · have HRD : Hid (readF s.data.toList = readG (am + lx.length + 1) (acc ++ [x0]) (L.drop (k + 1))) := by rw [Hid, HRG.out]; simp only [hr]; rw [if_neg h64]
              have hq : ¬ (64 : Int) ≤ (n : Int) := by omega
              have hz5 := HC5.out.size
              have OQ : ∀ o, OwnR ((w5.alloc (.cells #[.int .i64 x0.1, .string (mkS x0.2.1), .string (mkS x0.2.2)] 32)).alloc o) w2.heap.size (.slice A n c) n acc := fun o => HO5.out.chg (((Chg.refl No w5).alloc (.cells #[.int .i64 x0.1, .string (mkS x0.2.1), .string (mkS x0.2.2)] 32)).alloc o)
              have HN : ∀ o, ((w5.alloc (.cells #[.int .i64 x0.1, .string (mkS x0.2.1), .string (mkS x0.2.2)] 32)).alloc o).heap[w5.heap.size + 1]? = some o := fun o => by have := heap_alloc_new (w5.alloc (.cells #[.int .i64 x0.1, .string (mkS x0.2.1), .string (mkS x0.2.2)] 32)) o; rwa [World.size_alloc] at this
              have hn63 : n ≤ 63 := by omega
              have HCQ : ∀ o, Chg No w2 ((w5.alloc (.cells #[.int .i64 x0.1, .string (mkS x0.2.1), .string (mkS x0.2.2)] 32)).alloc o) := fun o => (HC5.out.alloc _).alloc o
              clear HRG hr CS5
              go_wp2_with (at_builtin; (refine wpList_app _ rfl (.tmp 55) (.tmp 57) 23 23 rfl w2.heap.size 32 (.agg #[.int .i64 0, .string ⟨#[]⟩, .string ⟨#[]⟩]) 3 40 infoR Tryd.underlying23 rfl (by decide) (.slice A n c) (.slice (some ⟨w5.heap.size + 1, 0, none⟩) 1 1) n 1 (acc.flatMap encR) (encR x0) rfl rfl (OQ _) (Src.rule Tryd.underlying23 x0 (HN _)) ?b1 ?b2 ?b3 ?_; (case b1 => omega); (case b2 => unfold maxLen; omega); (case b3 => simp only [World.size_alloc]; omega); intro v8 w8 hown8 hg8; refine Hid.out ?_))
              refine Lib.hid ?_
              obtain ⟨A8, c8, rfl⟩ := own_form hown8
              have HO8 : Hid (OwnR w8 w2.heap.size (.slice A8 (n + 1) c8) (n + 1) (acc ++ [x0])) := by rw [Hid, OwnR, List.flatMap_append]; simpa [List.flatMap_cons] using hown8
              have HC8 := Lib.hid ((HCQ _).grown hg8 (fun k hk => .inl (World.ownsRow.lt HO5.out k hk).1))
              have hck8 := HCR.out w8 HC8.out
              clear hown8 hg8 OQ HN HO5 HC5 HCQ
              go_wp2
              go_roundw
              case rel => exact ⟨k + 1, am + lx.length + 1, n + 1, A8, c8, acc ++ [x0], by omega, by go_num, by go_num, rfl, by omega, by omega, HO8.out, HRD.out, HC8.out⟩
              case measure => simp only [intOf]; omega
      · have i1 : ¬ ((k : Int) < (nl : Int)) := by omega
        have HU : Hid (readF s.data.toList = (acc, 0, 0)) := by
          rw [Hid, HRD.out, List.drop_of_length_le (by rw [HNL.out]; omega)]; rfl
        have CS := CSr.out
        have HCW : Chg No w wr := HC2.out.no HC.out
        have HBK := HBKr.out
        have E2 : (((wr).setCell ⟨w.heap.size, 0, none⟩ (.int .i64 0)).setCell ⟨w.heap.size, 1, none⟩ (.int .i64 (0))).heap[w.heap.size]? = some (.cells #[.int .i64 0, .int .i64 (0)] 26 (0, 0)) := heap_set (heap_set CS 0 _) 1 _
        obtain ⟨d30, d31⟩ := heap2 E2
        obtain ⟨c30, c31⟩ := heap2 CS
        have f3 := fun i => frzAt CS i
        have E3 : Chg No w (((wr).setCell ⟨w.heap.size, 0, none⟩ (.int .i64 0)).setCell ⟨w.heap.size, 1, none⟩ (.int .i64 (0))) := Chg.ofBelow (((Chg.below HCW).setCell (p := ⟨w.heap.size, 0, none⟩) (Nat.le_refl _) _).setCell (p := ⟨w.heap.size, 1, none⟩) (Nat.le_refl _) _)
        have E4 : Rs (((wr).setCell ⟨w.heap.size, 0, none⟩ (.int .i64 0)).setCell ⟨w.heap.size, 1, none⟩ (.int .i64 (0))) (.slice A n c) acc := (((HO.out.chgS (Chg.put (wr) w.heap.size 0 _) HBK).chgS (Chg.put _ w.heap.size 1 _) HBK)).rs
        have HE3 := Lib.hid E3
        have HE4 := Lib.hid E4
        clear E2 E3 E4 CS HCW
        go_wp2
        exact bodyPost_ret (v := .tuple #[.slice A n c, .agg #[.int .i64 0, .int .i64 (0)]]) (by simp [results, Tryd.results10, go_sem, d30, d31]) rfl ⟨by rw [HU.out]; exact ⟨A, n, c, rfl, HE4.out⟩, HE3.out⟩
end Go.Proofs.YtcomcoolmabmgaaDoor
