/-
  RuleLines, Rp: in one text.
-/
import Derived.Test.YtcomcoolmabmgaaDoorBa10
namespace Go.Proofs.YtcomcoolmabmgaaDoor
set_option linter.unnecessarySimpa false
open Go.RowKit Go.Shelf
set_option linter.unusedVariables false
set_option linter.unusedSimpArgs false
set_option maxRecDepth 100000

def goodT (l : List Rul) : List UInt8 := l.flatMap fun r => if chkR r = 0 then lineR r ++ [10] else []
def wrF (l : List Rul) : Int := if okR l then 0 else 2
theorem good_snoc (l : List Rul) (x : Rul) : goodT (l ++ [x]) = goodT l ++ (if chkR x = 0 then lineR x ++ [10] else []) := by simp [goodT]
theorem good_len : ∀ (l : List Rul), (goodT l).length ≤ l.length * 1701
  | [] => by simp [goodT]
  | x :: t => by
    have ih := good_len t
    simp only [goodT, List.flatMap_cons, List.length_append, List.length_cons] at ih ⊢
    by_cases h : chkR x = 0
    · have := line_len h
      rw [if_pos h]
      simp only [List.length_append, List.length_cons, List.length_nil]
      omega
    · rw [if_neg h]
      simp only [List.length_nil]
      omega
theorem good_ok {l : List Rul} (h : okR l = true) : goodT l = catR l := by
  rw [okR_iff] at h
  induction l with
  | nil => rfl
  | cons x t ih =>
    have ih := ih fun y hy => h y (.tail _ hy)
    simp only [goodT, catR, List.flatMap_cons] at ih ⊢
    rw [ih, if_pos (h x (.head _))]
theorem ok_snoc (l : List Rul) (x : Rul) : okR (l ++ [x]) = (okR l && decide (chkR x = 0)) := by simp [okR]
theorem srcRs {W : World} {A : Option Addr} {n c : Nat} {xs : List Rul} (h : Rs W (.slice A n c) xs) : Src Tryd.prog 3 23 (.slice A n c) n (xs.flatMap encR) W := by
  have hl := h.len
  refine Src.ofHolds W (size := 3) (m := n) (cs := xs.flatMap encR) Tryd.underlying23 ?_ (by rw [encR_len]; omega) (by decide) ?_
  · subst hl; exact h
  · intro v hv
    obtain ⟨q, _, hv⟩ := List.mem_flatMap.1 hv
    simp only [encR, List.mem_cons, List.not_mem_nil, or_false] at hv
    rcases hv with rfl | rfl | rfl <;> rfl
set_option maxHeartbeats 3200000 in
theorem ruleLines_core (w : World) (A : Option Addr) (n c : Nat) (xs : List Rul) (h : Rs w (.slice A n c) xs) (hn : n * 40 ≤ 140737488355328) (hx : ∀ x ∈ xs, x.2.1.length ≤ 9223372036854775807 ∧ x.2.2.length ≤ 9223372036854775807) :
    Calls Tryd.prog 4 #[.slice A n c] w fun e w' => e = .returned (.bool true) ∧ Chg No w w' := by
  have HWK := Lib.hid fun w => rwakes_calls w
  have HL := Lib.hid h.len
  have H := Lib.hid h
  have HX := Lib.hid hx
  clear h hx
  go_enter Tryd.func4, Tryd.ntmps4
  go_wp2_with fail
  refine (HWK.out _).mono ?_
  rintro e w1 ⟨rfl, hc1⟩
  have H1 := Lib.hid (H.out.no hc1)
  have HCW : Hid (Chg No w w1) := hc1
  clear hc1
  go_wp2
  go_loopw [3, 4, 15] (fun tx wrv i wr => ∃ k : Nat, k ≤ n ∧ i = .int .i64 (k : Int) ∧ tx = .string (mkS (goodT (xs.take k))) ∧ wrv = .int .i64 (wrF (xs.take k)) ∧ Hid (Chg No w1 wr)) (fun _ _ i _ => n - (intOf i).toNat)
  case atStart => exact ⟨0, Nat.zero_le _, rfl, rfl, rfl, Chg.refl _ _⟩
  case round =>
    obtain ⟨k, hk, rfl, rfl, rfl, HC⟩ := hrel
    by_cases hlt : k < n
    · obtain ⟨b, o, he, hcell⟩ := (H1.out.no HC.out).addr (by rw [HL.out]; omega)
      subst he
      obtain ⟨c0, c1, c2⟩ := hcell k (by rw [HL.out]; exact hlt)
      have hT : xs.take (k + 1) = xs.take k ++ [xs[k]'(by rw [HL.out]; exact hlt)] := by rw [List.take_succ_eq_append_getElem]
      have hxk := HX.out _ (List.getElem_mem (by rw [HL.out]; exact hlt : k < xs.length))
      generalize xs[k]'(by rw [HL.out]; exact hlt) = x at *
      have HT := Lib.hid hT
      obtain ⟨kd, p, q⟩ := x
      simp only at c0 c1 c2 hxk
      obtain ⟨hp, hq⟩ := hxk
      clear hcell hT
      have hclen := good_len (xs.take k)
      have htk : (xs.take k).length = k := by rw [List.length_take, HL.out]; omega
      rw [htk] at hclen
      have HLN := Lib.hid fun W => rline_calls W kd p q hp hq
      have HRT := Lib.hid fun W => refright_calls13 W kd p q hp hq
      have HCK := Lib.hid fun W => rcheck_calls W kd p q hp hq
      have HC0 := Lib.hid (HC.out.alloc (.cells #[.int .i64 kd, .string (mkS p), .string (mkS q)] 32))
      have G0 := heap_alloc_new wr (.cells #[.int .i64 kd, .string (mkS p), .string (mkS q)] 32)
      by_cases h0 : chkR (kd, p, q) = 0
      · have hl : rlnF (kd, p, q) = lineR (kd, p, q) := by rw [rlnF, if_pos h0]
        have hll := line_len h0
        have HTX : Hid (goodT (xs.take (k + 1)) = goodT (xs.take k) ++ (lineR (kd, p, q) ++ [10])) := by rw [Hid, HT.out, good_snoc, if_pos h0]
        have HWR : Hid (wrF (xs.take (k + 1)) = wrF (xs.take k)) := by rw [Hid, HT.out, wrF, wrF, ok_snoc, decide_eq_true h0, Bool.and_true]
        have HRL := Lib.hid fun W => refline_calls W kd p q h0
        rw [hl, h0] at HLN
        rw [hl] at HRL
        rw [h0] at HCK
        rw [decide_eq_true h0] at HRT
        clear h0 hl HT
        generalize lineR (kd, p, q) = lr at *
        have a1 := fun W => add_to W lr 10 (by omega)
        have hz : (lr ++ [10]).length = lr.length + 1 := by simp
        generalize lr ++ [10] = z at *
        have a2 := fun W => add_mk W (goodT (xs.take k)) z (by omega)
        generalize goodT (xs.take k) ++ z = z2 at *
        go_wp2_with fail
        refine (HLN.out _).mono ?_
        rintro e w2 ⟨rfl, hc2⟩
        have G2 := hc2.heap G0 (fun x => x)
        have HC2 := Lib.hid (HC0.out.no hc2)
        clear hc2
        obtain ⟨c20, c21, c22⟩ := heap3 G2
        go_wp2_with fail
        refine (HRT.out _).mono ?_
        rintro e w3 ⟨rfl, hc3⟩
        have G3 := hc3.heap G2 (fun x => x)
        have HC3 := Lib.hid (HC2.out.no hc3)
        clear hc3
        obtain ⟨c30, c31, c32⟩ := heap3 G3
        go_wp2_with fail
        refine (HCK.out _).mono ?_
        rintro e w4 ⟨rfl, hc4⟩
        have G4 := hc4.heap G3 (fun x => x)
        have HC4 := Lib.hid (HC3.out.no hc4)
        clear hc4
        obtain ⟨c40, c41, c42⟩ := heap3 G4
        go_wp2_with fail
        refine (HRL.out _).mono ?_
        rintro e w5 ⟨rfl, hc5⟩
        have G5 := hc5.heap G4 (fun x => x)
        have HC5 := Lib.hid (HC4.out.no hc5)
        clear hc5
        obtain ⟨c50, c51, c52⟩ := heap3 G5
        go_wp2
        go_roundw
        case rel => exact ⟨k + 1, by omega, by simp, by rw [HTX.out], by rw [HWR.out], HC5⟩
        case measure => simp [intOf]; omega
      · have h2 : chkR (kd, p, q) = 2 := (chk_vals _).resolve_left h0
        have hl : rlnF (kd, p, q) = [] := by rw [rlnF, if_neg h0]
        have HTX : Hid (goodT (xs.take (k + 1)) = goodT (xs.take k)) := by rw [Hid, HT.out, good_snoc, if_neg h0, List.append_nil]
        have HWR : Hid (wrF (xs.take (k + 1)) = 2) := by rw [Hid, HT.out, wrF, ok_snoc, decide_eq_false h0, Bool.and_false]; rfl
        rw [hl, h2, mkS_nil] at HLN
        rw [h2] at HCK
        rw [decide_eq_false h0] at HRT
        clear h0 hl h2 HT
        go_wp2_with fail
        refine (HLN.out _).mono ?_
        rintro e w2 ⟨rfl, hc2⟩
        have G2 := hc2.heap G0 (fun x => x)
        have HC2 := Lib.hid (HC0.out.no hc2)
        clear hc2
        obtain ⟨c20, c21, c22⟩ := heap3 G2
        go_wp2_with fail
        refine (HRT.out _).mono ?_
        rintro e w3 ⟨rfl, hc3⟩
        have G3 := hc3.heap G2 (fun x => x)
        have HC3 := Lib.hid (HC2.out.no hc3)
        clear hc3
        obtain ⟨c30, c31, c32⟩ := heap3 G3
        go_wp2_with fail
        refine (HCK.out _).mono ?_
        rintro e w4 ⟨rfl, hc4⟩
        have G4 := hc4.heap G3 (fun x => x)
        have HC4 := Lib.hid (HC3.out.no hc4)
        clear hc4
        obtain ⟨c40, c41, c42⟩ := heap3 G4
        go_wp2
        go_roundw
        case rel => exact ⟨k + 1, by omega, by simp, by rw [HTX.out], by rw [HWR.out], HC4⟩
        case measure => simp [intOf]; omega
    · have hkn : k = n := by omega
      subst hkn
      have htt : xs.take k = xs := List.take_of_length_le (by rw [HL.out]; exact Nat.le_refl _)
      rw [htt]
      have HR := Lib.hid (H1.out.no HC.out)
      have hk40 : k ≤ 9223372036854775807 := by omega
      clear htt H H1 hlt
      have HPR : Hid (∀ W A' c', Rs W (.slice A' k c') xs → Calls Tryd.prog 16 #[.slice A' k c'] W fun e w' => e = .returned (.tuple #[.string (mkS (printF xs).1), .int .i64 (printF xs).2]) ∧ Chg No W w') := fun W A' c' h => print_calls W A' k c' xs h hk40 HX.out
      have HA : Hid (Src Tryd.prog 3 23 (.slice A k c) k (xs.flatMap encR) (wr.alloc (.cells #[] 32))) := srcRs (HR.out.no ((Chg.refl _ _).alloc _))
      by_cases h64 : 64 < k
      · have hN : printF xs = ([], 3) := by rw [printF, HL.out, if_pos h64]
        have b1 : ((64 : Int) < (k : Int)) := by omega
        rw [hN, mkS_nil] at HPR
        clear h64 hN
        go_wp2_with (at_builtin; (refine wpList_app _ rfl (.tmp 59) (.tmp 60) 23 23 rfl wr.heap.size 32 (.agg #[.int .i64 0, .string ⟨#[]⟩, .string ⟨#[]⟩]) 3 40 infoR Tryd.underlying23 rfl (by decide) (.slice (some ⟨wr.heap.size, 0, none⟩) 0 0) (.slice A k c) 0 k ([]) (xs.flatMap encR) rfl rfl ?own ?src ?b1 ?b2 ?b3 ?_; (case own => exact World.ownsRow_made wr #[] 0 (Nat.le_refl _) (Nat.zero_le _) rfl); (case src => exact HA.out); (case b1 => omega); (case b2 => unfold maxLen; omega); (case b3 => rw [World.size_alloc]; omega); intro v8 w8 hown8 hg8; refine Hid.out ?_))
        refine Lib.hid ?_
        rw [Nat.zero_add, List.nil_append] at hown8
        obtain ⟨A8, c8, rfl⟩ := ownsRow_form hown8
        have HR8 := Lib.hid (OwnR.rs (n := k) (base := wr.heap.size) hown8)
        have HC8 : Hid (Chg No w1 w8) := (HC.out.alloc (.cells #[] 32)).grown hg8 (fun r hr => .inl (by have : wr.heap.size = r := Option.some.inj hr; have := HC.out.size; omega))
        clear hown8 hg8
        go_wp2_with fail
        refine (HPR.out _ _ _ HR8.out).mono ?_
        rintro e w9 ⟨rfl, hc9⟩
        have HC9 := Lib.hid (HC8.out.no hc9)
        clear hc9
        go_wp2_with fail
        refine (HWK.out _).mono ?_
        rintro e w10 ⟨rfl, hc10⟩
        have HC10 := Lib.hid (HC9.out.no hc10)
        clear hc10
        go_wp2
        go_ret
        exact ⟨by simp, HCW.out.no HC10.out⟩
      · have b1 : ¬ ((64 : Int) < (k : Int)) := by omega
        generalize hok : okR xs = ok at *
        cases ok with
        | true =>
          have hN : printF xs = (catR xs, 0) := by rw [printF, HL.out, if_neg h64, hok]; rfl
          have hw0 : wrF xs = 0 := by rw [wrF, hok]; rfl
          have hg : goodT xs = catR xs := good_ok hok
          rw [hN] at HPR
          rw [hw0, hg]
          clear h64 hN hw0 hg hok
          generalize catR xs = cx at *
          go_wp2_with (at_builtin; (refine wpList_app _ rfl (.tmp 59) (.tmp 60) 23 23 rfl wr.heap.size 32 (.agg #[.int .i64 0, .string ⟨#[]⟩, .string ⟨#[]⟩]) 3 40 infoR Tryd.underlying23 rfl (by decide) (.slice (some ⟨wr.heap.size, 0, none⟩) 0 0) (.slice A k c) 0 k ([]) (xs.flatMap encR) rfl rfl ?own ?src ?b1 ?b2 ?b3 ?_; (case own => exact World.ownsRow_made wr #[] 0 (Nat.le_refl _) (Nat.zero_le _) rfl); (case src => exact HA.out); (case b1 => omega); (case b2 => unfold maxLen; omega); (case b3 => rw [World.size_alloc]; omega); intro v8 w8 hown8 hg8; refine Hid.out ?_))
          refine Lib.hid ?_
          rw [Nat.zero_add, List.nil_append] at hown8
          obtain ⟨A8, c8, rfl⟩ := ownsRow_form hown8
          have HR8 := Lib.hid (OwnR.rs (n := k) (base := wr.heap.size) hown8)
          have HC8 : Hid (Chg No w1 w8) := (HC.out.alloc (.cells #[] 32)).grown hg8 (fun r hr => .inl (by have : wr.heap.size = r := Option.some.inj hr; have := HC.out.size; omega))
          clear hown8 hg8
          go_wp2_with fail
          refine (HPR.out _ _ _ HR8.out).mono ?_
          rintro e w9 ⟨rfl, hc9⟩
          have HC9 := Lib.hid (HC8.out.no hc9)
          clear hc9
          go_wp2_with fail
          refine (HWK.out _).mono ?_
          rintro e w10 ⟨rfl, hc10⟩
          have HC10 := Lib.hid (HC9.out.no hc10)
          clear hc10
          go_wp2
          go_ret
          exact ⟨by simp, HCW.out.no HC10.out⟩
        | false =>
          have hN : printF xs = ([], 2) := by rw [printF, HL.out, if_neg h64, hok]; rfl
          have hw0 : wrF xs = 2 := by rw [wrF, hok]; rfl
          rw [hN, mkS_nil] at HPR
          rw [hw0]
          clear h64 hN hw0 hok
          go_wp2_with (at_builtin; (refine wpList_app _ rfl (.tmp 59) (.tmp 60) 23 23 rfl wr.heap.size 32 (.agg #[.int .i64 0, .string ⟨#[]⟩, .string ⟨#[]⟩]) 3 40 infoR Tryd.underlying23 rfl (by decide) (.slice (some ⟨wr.heap.size, 0, none⟩) 0 0) (.slice A k c) 0 k ([]) (xs.flatMap encR) rfl rfl ?own ?src ?b1 ?b2 ?b3 ?_; (case own => exact World.ownsRow_made wr #[] 0 (Nat.le_refl _) (Nat.zero_le _) rfl); (case src => exact HA.out); (case b1 => omega); (case b2 => unfold maxLen; omega); (case b3 => rw [World.size_alloc]; omega); intro v8 w8 hown8 hg8; refine Hid.out ?_))
          refine Lib.hid ?_
          rw [Nat.zero_add, List.nil_append] at hown8
          obtain ⟨A8, c8, rfl⟩ := ownsRow_form hown8
          have HR8 := Lib.hid (OwnR.rs (n := k) (base := wr.heap.size) hown8)
          have HC8 : Hid (Chg No w1 w8) := (HC.out.alloc (.cells #[] 32)).grown hg8 (fun r hr => .inl (by have : wr.heap.size = r := Option.some.inj hr; have := HC.out.size; omega))
          clear hown8 hg8
          go_wp2_with fail
          refine (HPR.out _ _ _ HR8.out).mono ?_
          rintro e w9 ⟨rfl, hc9⟩
          have HC9 := Lib.hid (HC8.out.no hc9)
          clear hc9
          go_wp2_with fail
          refine (HWK.out _).mono ?_
          rintro e w10 ⟨rfl, hc10⟩
          have HC10 := Lib.hid (HC9.out.no hc10)
          clear hc10
          go_wp2
          go_ret
          exact ⟨by simp, HCW.out.no HC10.out⟩
theorem ruleLines_walk (w : World) (A : Option Addr) (n c : Nat) (xs : List Rul) (h : Rs w (.slice A n c) xs) (hn : n * 40 ≤ 140737488355328) (hx : ∀ x ∈ xs, x.2.1.length ≤ 9223372036854775807 ∧ x.2.2.length ≤ 9223372036854775807) :
    Calls Tryd.prog 4 #[.slice A n c] w fun e w' => e = .returned (.bool true) ∧ Below w.heap.size w w' :=
  (ruleLines_core w A n c xs h hn hx).mono fun _ _ h => ⟨h.1, h.2.below⟩
end Go.Proofs.YtcomcoolmabmgaaDoor

namespace Go.Proofs.YtcomcoolmabmgaaDoor
set_option linter.unnecessarySimpa false
open Go.RowKit
set_option linter.unusedVariables false
set_option linter.unusedSimpArgs false
set_option maxRecDepth 100000

theorem good_bytes : ∀ (n : Nat) (l : List UInt8), l.length ≤ n → (pcs l).all goodP = true → ∀ b ∈ l, b ≠ 10 := by
  intro n
  induction n with
  | zero =>
    intro l hl _ b hb
    have : l = [] := List.eq_nil_of_length_eq_zero (by omega)
    subst this
    cases hb
  | succ n ih =>
    intro l hl ha b hb
    by_cases h : l = []
    · subst h; cases hb
    · obtain ⟨f1, f2, f3⟩ := decL_facts l h
      rw [pcs_cons l h, List.all_cons, Bool.and_eq_true_iff] at ha
      rw [← List.take_append_drop (decL l).2 l] at hb
      rcases List.mem_append.1 hb with hb | hb
      · have hp := ha.1
        simp only [goodP, Bool.not_eq_true', Bool.or_eq_false_iff] at hp
        obtain ⟨p1, p2⟩ := hp
        have p3 : 32 ≤ (decL l).1 := by
          simp only [ctl, Bool.or_eq_false_iff, decide_eq_false_iff_not] at p1
          omega
        rcases Nat.lt_or_ge (decL l).1 128 with hr | hr
        · rw [small_piece l h hr] at hb
          simp only [List.mem_singleton] at hb
          subst hb
          intro he
          have := congrArg UInt8.toNat he
          rw [UInt8.toNat_ofNat'] at this
          have e10 : (10 : UInt8).toNat = 10 := rfl
          omega
        · have := big_bytes l h hr b hb
          rintro rfl; revert this; decide
      · exact ih _ (by rw [List.length_drop]; omega) ha.2 b hb
theorem plain_good {l : List UInt8} (h : plainF l = true) : (pcs l).all goodP = true := by
  cases l with
  | nil => cases h
  | cons a t =>
    rw [plainF, Bool.and_eq_true_iff] at h
    rw [List.all_eq_true] at h ⊢
    intro p hp
    have := h.2 p hp
    simp only [badP, Bool.not_eq_true', Bool.or_eq_false_iff] at this
    simp only [goodP, Bool.not_eq_true', Bool.or_eq_false_iff]
    exact this.1.1.1
theorem wordF_bytes (x : List UInt8) : ∀ b ∈ wordF x, b ≠ 10 := by
  rw [wordF]
  split
  · rename_i h; exact good_bytes _ _ (Nat.le_refl _) (plain_good h)
  · exact good_bytes _ _ (Nat.le_refl _) (good_quote x)
theorem plain_stroke : plainF [47] = true := by decide +kernel
theorem plain_kw {k : Int} (h : k = 1 ∨ k = 2 ∨ k = 3) : plainF (kw k) = true := by
  rcases h with rfl | rfl | rfl <;> decide +kernel
/-- A path as a word. -/
def pw (p : List UInt8) : List UInt8 := if p = [] then [47] else p
theorem drs_word (p : List UInt8) : drsF p = wordF (pw p) := by
  rw [drsF, pw]
  by_cases h : p = []
  · rw [if_pos h, if_pos h, wordF, if_pos plain_stroke]
  · rw [if_neg h, if_neg h]
def wordsR (r : Rul) : List (List UInt8) := kw r.1 :: pw r.2.1 :: (if r.1 = 3 then [pw r.2.2] else [])
theorem kw_word {k : Int} (h : k = 1 ∨ k = 2 ∨ k = 3) : kw k = wordF (kw k) := by rw [wordF, if_pos (plain_kw h)]
theorem words_sp (p : Nat) (acc : List (List UInt8)) (u : List UInt8) : wordsF p acc (32 :: u) = wordsF (p + 1) acc u := by
  rw [wordsF, if_neg (by decide), if_pos rfl]
theorem words_rule {r : Rul} (h : kw r.1 ≠ []) : wordsF 0 [] (lineR r) = .inr (wordsR r) := by
  have hk := kw_ok h
  rw [lineR, drs_word, drs_word, wordsR]
  generalize hkw : kw r.1 = k
  rw [show k = wordF k by rw [← hkw]; exact kw_word hk]
  rw [List.append_assoc, words_word _ _ _ _ (by simp)]
  rw [List.cons_append, words_sp]
  by_cases h3 : r.1 = 3
  · rw [if_pos h3, if_pos h3, words_word _ _ _ _ (by simp), words_sp]
    have := words_word (0 + (wordF k).length + 1 + (wordF (pw r.2.1)).length + 1) ([] ++ [k] ++ [pw r.2.1]) (pw r.2.2) [] rfl
    rw [List.append_nil] at this
    rw [this, wordsF]
    rw [← hkw, ← kw_word hk]; rfl
  · rw [if_neg h3, if_neg h3, List.append_nil]
    have := words_word (0 + (wordF k).length + 1) ([] ++ [k]) (pw r.2.1) [] rfl
    rw [List.append_nil] at this
    rw [this, wordsF]
    rw [← hkw, ← kw_word hk]; rfl
theorem line_bytes {r : Rul} (h : kw r.1 ≠ []) : ∀ b ∈ lineR r, b ≠ 10 := by
  intro b hb
  rw [lineR, drs_word, drs_word, kw_word (kw_ok h)] at hb
  simp only [List.mem_append, List.mem_cons] at hb
  rcases hb with (hb | rfl | hb) | hb
  · exact wordF_bytes _ b hb
  · decide
  · exact wordF_bytes _ b hb
  · split at hb
    · rcases List.mem_cons.1 hb with rfl | hb
      · decide
      · exact wordF_bytes _ b hb
    · cases hb
theorem first_line (x u : List UInt8) (h : ∀ b ∈ x, b ≠ 10) : firstL (x ++ 10 :: u) = x := by
  rw [firstL]
  induction x with
  | nil => simp
  | cons a t ih =>
    rw [List.cons_append, List.takeWhile_cons_of_pos (by simpa using h a (.head _)), ih fun b hb => h b (.tail _ hb)]
theorem lines_app (x u : List UInt8) (h : ∀ b ∈ x, b ≠ 10) : linesF (x ++ 10 :: u) = x :: linesF u := by
  rw [linesF_cons _ (by simp), first_line x u h, restL, first_line x u h]
  congr 2
  rw [List.drop_append_of_le_length' x u]
where
  List.drop_append_of_le_length' (x u : List UInt8) : (x ++ 10 :: u).drop (x.length + 1) = u := by
    rw [show x ++ 10 :: u = (x ++ [10]) ++ u by simp]
    rw [show x.length + 1 = (x ++ [10]).length by simp]
    exact List.drop_left
theorem lines_cat : ∀ (l : List Rul), (∀ r ∈ l, kw r.1 ≠ []) → linesF (catR l) = l.map lineR
  | [], _ => linesF_nil
  | r :: t, h => by
    have e : catR (r :: t) = lineR r ++ 10 :: catR t := by simp [catR]
    rw [e, lines_app _ _ (line_bytes (h r (.head _))), lines_cat t fun x hx => h x (.tail _ hx)]
    rfl
/-- The rules of lines' words. -/
def rdW : List Rul → List (List (List UInt8)) → Option (List Rul)
  | acc, [] => some acc
  | acc, [] :: r => rdW acc r
  | acc, (w :: ws) :: r => match readR (w :: ws) with
    | none => none
    | some x => if acc.length = 64 then none else rdW (acc ++ [x]) r
def wordsOf (l : List UInt8) : List (List UInt8) := match wordsF 0 [] l with | .inl _ => [] | .inr ws => ws
theorem readG_of (W : List UInt8 → List (List UInt8)) : ∀ (ls : List (List UInt8)) (a : Nat) (acc out : List Rul), (∀ l ∈ ls, wordsF 0 [] l = .inr (W l)) → rdW acc (ls.map W) = some out → readG a acc ls = (out, 0, 0)
  | [], a, acc, out, _, h => by cases h; rfl
  | l :: t, a, acc, out, hl, h => by
    have ih := fun a acc => readG_of W t a acc out fun x hx => hl x (.tail _ hx)
    rw [readG, hl l (.head _)]
    rw [List.map_cons] at h
    cases hw : W l with
    | nil =>
      rw [hw] at h
      exact ih _ _ h
    | cons w ws =>
      rw [hw, rdW] at h
      show (match readR (w :: ws) with | none => _ | some x => _) = _
      cases hr : readR (w :: ws) with
      | none => rw [hr] at h; cases h
      | some x =>
        rw [hr] at h
        show (if acc.length = 64 then _ else _) = _
        by_cases h64 : acc.length = 64
        · simp only [h64, if_true] at h; cases h
        · simp only [h64, if_false] at h
          rw [if_neg h64]
          exact ih _ _ h
theorem readG_ok : ∀ (ls : List (List UInt8)) (a : Nat) (acc : List Rul), (readG a acc ls).2.1 = 0 → (∀ l ∈ ls, wordsF 0 [] l = .inr (wordsOf l)) ∧ rdW acc (ls.map wordsOf) = some (readG a acc ls).1 ∧ (readG a acc ls).2.2 = 0
  | [], a, acc, _ => ⟨fun l h => (by cases h), rfl, rfl⟩
  | l :: t, a, acc, h => by
    have ih := fun a acc => readG_ok t a acc
    rw [readG] at h ⊢
    cases hw : wordsF 0 [] l with
    | inl p => rw [hw] at h; cases h
    | inr ws =>
      have ho : wordsOf l = ws := by rw [wordsOf, hw]
      have tail : ∀ a acc, (readG a acc t).2.1 = 0 → (∀ x ∈ l :: t, wordsF 0 [] x = .inr (wordsOf x)) := fun a acc h x hx => by
        rcases List.mem_cons.1 hx with rfl | hx
        · rw [hw, ho]
        · exact (ih a acc h).1 x hx
      cases ws with
      | nil =>
        rw [hw] at h
        have := ih _ _ h
        exact ⟨tail _ _ h, by rw [List.map_cons, ho]; exact this.2.1, this.2.2⟩
      | cons w ws =>
        rw [hw] at h
        simp only at h ⊢
        cases hr : readR (w :: ws) with
        | none => rw [hr] at h; cases h
        | some x =>
          rw [hr] at h
          simp only at h ⊢
          by_cases h64 : acc.length = 64
          · rw [if_pos h64] at h; cases h
          · rw [if_neg h64] at h ⊢
            have := ih _ _ h
            refine ⟨tail _ _ h, ?_, this.2.2⟩
            rw [List.map_cons, ho, rdW, hr]
            simp only [h64, if_false]
            exact this.2.1
theorem isP_stroke : isP [47] = false := by decide +kernel
theorem bare_pw {p : List UInt8} (h : isP p = true) : bareF (pw p) = (p, true) := by
  rw [pw]
  by_cases h1 : p = []
  · subst h1; rfl
  · rw [if_neg h1, bareF, if_neg]
    · rw [h]; simp [h1]
    · rintro rfl; rw [isP_stroke] at h; cases h
theorem readR_words {r : Rul} (h : chkR r = 0) : readR (wordsR r) = some r := by
  obtain ⟨k, p, q⟩ := r
  obtain ⟨h1, h2, h3, h4⟩ := chk_ok h
  rcases kw_ok h1 with rfl | rfl | rfl
  · obtain rfl : q = [] := h4.resolve_left (by decide)
    simp [wordsR, readR, bare_pw h2]
  · obtain rfl : q = [] := h4.resolve_left (by decide)
    have : kw 2 ≠ kw 1 := by decide
    simp [wordsR, readR, bare_pw h2, this]
  · simp [wordsR, readR, bare_pw h2, bare_pw h3]
theorem rdW_rules : ∀ (l acc : List Rul), (∀ r ∈ l, chkR r = 0) → acc.length + l.length ≤ 64 → rdW acc (l.map wordsR) = some (acc ++ l)
  | [], acc, _, _ => by simp [rdW]
  | r :: t, acc, h, hl => by
    rw [List.length_cons] at hl
    have e := readR_words (h r (.head _))
    rw [List.map_cons]
    rw [show wordsR r = kw r.1 :: pw r.2.1 :: (if r.1 = 3 then [pw r.2.2] else []) from rfl] at e ⊢
    rw [rdW, e]
    simp only [show acc.length ≠ 64 by omega, if_false]
    rw [rdW_rules t (acc ++ [r]) (fun x hx => h x (.tail _ hx)) (by simp; omega)]
    simp
theorem chk_kw {r : Rul} (h : chkR r = 0) : kw r.1 ≠ [] := by obtain ⟨k, p, q⟩ := r; exact (chk_ok h).1
theorem read_cat {l : List Rul} (h : ∀ r ∈ l, chkR r = 0) (hl : l.length ≤ 64) (hs : (catR l).length ≤ 131072) : readF (catR l) = (l, 0, 0) := by
  rw [readF, if_neg (by omega), lines_cat l fun r hr => chk_kw (h r hr)]
  have key : ∀ (t : List Rul) (a : Nat) (acc : List Rul), (∀ r ∈ t, chkR r = 0) → acc.length + t.length ≤ 64 → readG a acc (t.map lineR) = (acc ++ t, 0, 0) := by
    intro t
    induction t with
    | nil => intro a acc _ _; simp [readG]
    | cons r t ih =>
      intro a acc h hl
      rw [List.length_cons] at hl
      have e := readR_words (h r (.head _))
      rw [List.map_cons, readG, words_rule (chk_kw (h r (.head _)))]
      rw [show wordsR r = kw r.1 :: pw r.2.1 :: (if r.1 = 3 then [pw r.2.2] else []) from rfl] at e ⊢
      simp only [e, show acc.length ≠ 64 by omega, if_false]
      rw [ih _ _ (fun x hx => h x (.tail _ hx)) (by simp; omega)]
      simp
  simpa using key l 0 [] h (by simpa using hl)
end Go.Proofs.YtcomcoolmabmgaaDoor

