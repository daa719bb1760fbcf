/-
  RuleLines, RuleLinesClose: in one text.
-/
import Derived.Test.YtcomcoolmabmgaaDoorBa10
import Derived.Test.YtcomcoolmabmgaaDoorRows
import Derived.Test.YtcomcoolmabmgaaDoorBa1
import Derived.Test.YtcomcoolmabmgaaDoorTie
import Derived.Test.YtcomcoolmabmgaaDoorCards
import Derived.LaidMore
import Derived.Lay
import Derived.SevenTiedAt
import Derived.Stop.Joined
namespace Go.Proofs.YtcomcoolmabmgaaDoor
set_option linter.unnecessarySimpa false
open Go.RowKit Go.Shelf
set_option linter.unusedVariables false
set_option linter.unusedSimpArgs false
set_option maxRecDepth 100000

def goodT (l : List Rul) : List UInt8 := l.flatMap fun r => if chkR r = 0 then lineR r ++ [10] else []
def wrF (l : List Rul) : Int := if okR l then 0 else 2
theorem good_snoc (l : List Rul) (x : Rul) : goodT (l ++ [x]) = goodT l ++ (if chkR x = 0 then lineR x ++ [10] else []) := by simp [goodT]
theorem good_len : ∀ (l : List Rul), (goodT l).length ≤ l.length * 1701
  | [] => by simp [goodT]
  | x :: t => by
    have ih := good_len t
    simp only [goodT, List.flatMap_cons, List.length_append, List.length_cons] at ih ⊢
    by_cases h : chkR x = 0
    · have := line_len h
      rw [if_pos h]
      simp only [List.length_append, List.length_cons, List.length_nil]
      omega
    · rw [if_neg h]
      simp only [List.length_nil]
      omega
theorem good_ok {l : List Rul} (h : okR l = true) : goodT l = catR l := by
  rw [okR_iff] at h
  induction l with
  | nil => rfl
  | cons x t ih =>
    have ih := ih fun y hy => h y (.tail _ hy)
    simp only [goodT, catR, List.flatMap_cons] at ih ⊢
    rw [ih, if_pos (h x (.head _))]
theorem ok_snoc (l : List Rul) (x : Rul) : okR (l ++ [x]) = (okR l && decide (chkR x = 0)) := by simp [okR]
theorem srcRs {W : World} {A : Option Addr} {n c : Nat} {xs : List Rul} (h : Rs W (.slice A n c) xs) : Src Tryd.prog 3 23 (.slice A n c) n (xs.flatMap encR) W := by
  have hl := h.len
  refine Src.ofHolds W (size := 3) (m := n) (cs := xs.flatMap encR) Tryd.underlying23 ?_ (by rw [encR_len]; omega) (by decide) ?_
  · subst hl; exact h
  · intro v hv
    obtain ⟨q, _, hv⟩ := List.mem_flatMap.1 hv
    simp only [encR, List.mem_cons, List.not_mem_nil, or_false] at hv
    rcases hv with rfl | rfl | rfl <;> rfl
set_option maxHeartbeats 3200000 in
theorem ruleLines_core (w : World) (A : Option Addr) (n c : Nat) (xs : List Rul) (h : Rs w (.slice A n c) xs) (hn : n * 40 ≤ 140737488355328) (hx : ∀ x ∈ xs, x.2.1.length ≤ 9223372036854775807 ∧ x.2.2.length ≤ 9223372036854775807) :
    Calls Tryd.prog 4 #[.slice A n c] w fun e w' => e = .returned (.bool true) ∧ Chg No w w' := by
  have HWK := Lib.hid fun w => rwakes_calls w
  have HL := Lib.hid h.len
  have H := Lib.hid h
  have HX := Lib.hid hx
  clear h hx
  go_enter Tryd.func4, Tryd.ntmps4
  go_wp2_with fail
  refine (HWK.out _).mono ?_
  rintro e w1 ⟨rfl, hc1⟩
  have H1 := Lib.hid (H.out.no hc1)
  have HCW : Hid (Chg No w w1) := hc1
  clear hc1
  go_wp2
  go_loopw [3, 4, 15] (fun tx wrv i wr => ∃ k : Nat, k ≤ n ∧ i = .int .i64 (k : Int) ∧ tx = .string (mkS (goodT (xs.take k))) ∧ wrv = .int .i64 (wrF (xs.take k)) ∧ Hid (Chg No w1 wr)) (fun _ _ i _ => n - (intOf i).toNat)
  case atStart => exact ⟨0, Nat.zero_le _, rfl, rfl, rfl, Chg.refl _ _⟩
  case round =>
    obtain ⟨k, hk, rfl, rfl, rfl, HC⟩ := hrel
    by_cases hlt : k < n
    · obtain ⟨b, o, he, hcell⟩ := (H1.out.no HC.out).addr (by rw [HL.out]; omega)
      subst he
      obtain ⟨c0, c1, c2⟩ := hcell k (by rw [HL.out]; exact hlt)
      have hT : xs.take (k + 1) = xs.take k ++ [xs[k]'(by rw [HL.out]; exact hlt)] := by rw [List.take_succ_eq_append_getElem]
      have hxk := HX.out _ (List.getElem_mem (by rw [HL.out]; exact hlt : k < xs.length))
      generalize xs[k]'(by rw [HL.out]; exact hlt) = x at *
      have HT := Lib.hid hT
      obtain ⟨kd, p, q⟩ := x
      simp only at c0 c1 c2 hxk
      obtain ⟨hp, hq⟩ := hxk
      clear hcell hT
      have hclen := good_len (xs.take k)
      have htk : (xs.take k).length = k := by rw [List.length_take, HL.out]; omega
      rw [htk] at hclen
      have HLN := Lib.hid fun W => rline_calls W kd p q hp hq
      have HRT := Lib.hid fun W => refright_calls13 W kd p q hp hq
      have HCK := Lib.hid fun W => rcheck_calls W kd p q hp hq
      have HC0 := Lib.hid (HC.out.alloc (.cells #[.int .i64 kd, .string (mkS p), .string (mkS q)] 32))
      have G0 := heap_alloc_new wr (.cells #[.int .i64 kd, .string (mkS p), .string (mkS q)] 32)
      by_cases h0 : chkR (kd, p, q) = 0
      · have hl : rlnF (kd, p, q) = lineR (kd, p, q) := by rw [rlnF, if_pos h0]
        have hll := line_len h0
        have HTX : Hid (goodT (xs.take (k + 1)) = goodT (xs.take k) ++ (lineR (kd, p, q) ++ [10])) := by rw [Hid, HT.out, good_snoc, if_pos h0]
        have HWR : Hid (wrF (xs.take (k + 1)) = wrF (xs.take k)) := by rw [Hid, HT.out, wrF, wrF, ok_snoc, decide_eq_true h0, Bool.and_true]
        have HRL := Lib.hid fun W => refline_calls W kd p q h0
        rw [hl, h0] at HLN
        rw [hl] at HRL
        rw [h0] at HCK
        rw [decide_eq_true h0] at HRT
        clear h0 hl HT
        generalize lineR (kd, p, q) = lr at *
        have a1 := fun W => add_to W lr 10 (by omega)
        have hz : (lr ++ [10]).length = lr.length + 1 := by simp
        generalize lr ++ [10] = z at *
        have a2 := fun W => add_mk W (goodT (xs.take k)) z (by omega)
        generalize goodT (xs.take k) ++ z = z2 at *
        go_wp2_with fail
        refine (HLN.out _).mono ?_
        rintro e w2 ⟨rfl, hc2⟩
        have G2 := hc2.heap G0 (fun x => x)
        have HC2 := Lib.hid (HC0.out.no hc2)
        clear hc2
        obtain ⟨c20, c21, c22⟩ := heap3 G2
        go_wp2_with fail
        refine (HRT.out _).mono ?_
        rintro e w3 ⟨rfl, hc3⟩
        have G3 := hc3.heap G2 (fun x => x)
        have HC3 := Lib.hid (HC2.out.no hc3)
        clear hc3
        obtain ⟨c30, c31, c32⟩ := heap3 G3
        go_wp2_with fail
        refine (HCK.out _).mono ?_
        rintro e w4 ⟨rfl, hc4⟩
        have G4 := hc4.heap G3 (fun x => x)
        have HC4 := Lib.hid (HC3.out.no hc4)
        clear hc4
        obtain ⟨c40, c41, c42⟩ := heap3 G4
        go_wp2_with fail
        refine (HRL.out _).mono ?_
        rintro e w5 ⟨rfl, hc5⟩
        have G5 := hc5.heap G4 (fun x => x)
        have HC5 := Lib.hid (HC4.out.no hc5)
        clear hc5
        obtain ⟨c50, c51, c52⟩ := heap3 G5
        go_wp2
        go_roundw
        case rel => exact ⟨k + 1, by omega, by simp, by rw [HTX.out], by rw [HWR.out], HC5⟩
        case measure => simp [intOf]; omega
      · have h2 : chkR (kd, p, q) = 2 := (chk_vals _).resolve_left h0
        have hl : rlnF (kd, p, q) = [] := by rw [rlnF, if_neg h0]
        have HTX : Hid (goodT (xs.take (k + 1)) = goodT (xs.take k)) := by rw [Hid, HT.out, good_snoc, if_neg h0, List.append_nil]
        have HWR : Hid (wrF (xs.take (k + 1)) = 2) := by rw [Hid, HT.out, wrF, ok_snoc, decide_eq_false h0, Bool.and_false]; rfl
        rw [hl, h2, mkS_nil] at HLN
        rw [h2] at HCK
        rw [decide_eq_false h0] at HRT
        clear h0 hl h2 HT
        go_wp2_with fail
        refine (HLN.out _).mono ?_
        rintro e w2 ⟨rfl, hc2⟩
        have G2 := hc2.heap G0 (fun x => x)
        have HC2 := Lib.hid (HC0.out.no hc2)
        clear hc2
        obtain ⟨c20, c21, c22⟩ := heap3 G2
        go_wp2_with fail
        refine (HRT.out _).mono ?_
        rintro e w3 ⟨rfl, hc3⟩
        have G3 := hc3.heap G2 (fun x => x)
        have HC3 := Lib.hid (HC2.out.no hc3)
        clear hc3
        obtain ⟨c30, c31, c32⟩ := heap3 G3
        go_wp2_with fail
        refine (HCK.out _).mono ?_
        rintro e w4 ⟨rfl, hc4⟩
        have G4 := hc4.heap G3 (fun x => x)
        have HC4 := Lib.hid (HC3.out.no hc4)
        clear hc4
        obtain ⟨c40, c41, c42⟩ := heap3 G4
        go_wp2
        go_roundw
        case rel => exact ⟨k + 1, by omega, by simp, by rw [HTX.out], by rw [HWR.out], HC4⟩
        case measure => simp [intOf]; omega
    · have hkn : k = n := by omega
      subst hkn
      have htt : xs.take k = xs := List.take_of_length_le (by rw [HL.out]; exact Nat.le_refl _)
      rw [htt]
      have HR := Lib.hid (H1.out.no HC.out)
      have hk40 : k ≤ 9223372036854775807 := by omega
      clear htt H H1 hlt
      have HPR : Hid (∀ W A' c', Rs W (.slice A' k c') xs → Calls Tryd.prog 16 #[.slice A' k c'] W fun e w' => e = .returned (.tuple #[.string (mkS (printF xs).1), .int .i64 (printF xs).2]) ∧ Chg No W w') := fun W A' c' h => print_calls W A' k c' xs h hk40 HX.out
      have HA : Hid (Src Tryd.prog 3 23 (.slice A k c) k (xs.flatMap encR) (wr.alloc (.cells #[] 32))) := srcRs (HR.out.no ((Chg.refl _ _).alloc _))
      by_cases h64 : 64 < k
      · have hN : printF xs = ([], 3) := by rw [printF, HL.out, if_pos h64]
        have b1 : ((64 : Int) < (k : Int)) := by omega
        rw [hN, mkS_nil] at HPR
        clear h64 hN
        go_wp2_with (at_builtin; (refine wpList_app _ rfl (.tmp 59) (.tmp 60) 23 23 rfl wr.heap.size 32 (.agg #[.int .i64 0, .string ⟨#[]⟩, .string ⟨#[]⟩]) 3 40 infoR Tryd.underlying23 rfl (by decide) (.slice (some ⟨wr.heap.size, 0, none⟩) 0 0) (.slice A k c) 0 k ([]) (xs.flatMap encR) rfl rfl ?own ?src ?b1 ?b2 ?b3 ?_; (case own => exact World.ownsRow_made wr #[] 0 (Nat.le_refl _) (Nat.zero_le _) rfl); (case src => exact HA.out); (case b1 => omega); (case b2 => unfold maxLen; omega); (case b3 => rw [World.size_alloc]; omega); intro v8 w8 hown8 hg8; refine Hid.out ?_))
        refine Lib.hid ?_
        rw [Nat.zero_add, List.nil_append] at hown8
        obtain ⟨A8, c8, rfl⟩ := ownsRow_form hown8
        have HR8 := Lib.hid (OwnR.rs (n := k) (base := wr.heap.size) hown8)
        have HC8 : Hid (Chg No w1 w8) := (HC.out.alloc (.cells #[] 32)).grown hg8 (fun r hr => .inl (by have : wr.heap.size = r := Option.some.inj hr; have := HC.out.size; omega))
        clear hown8 hg8
        go_wp2_with fail
        refine (HPR.out _ _ _ HR8.out).mono ?_
        rintro e w9 ⟨rfl, hc9⟩
        have HC9 := Lib.hid (HC8.out.no hc9)
        clear hc9
        go_wp2_with fail
        refine (HWK.out _).mono ?_
        rintro e w10 ⟨rfl, hc10⟩
        have HC10 := Lib.hid (HC9.out.no hc10)
        clear hc10
        go_wp2
        go_ret
        exact ⟨by simp, HCW.out.no HC10.out⟩
      · have b1 : ¬ ((64 : Int) < (k : Int)) := by omega
        generalize hok : okR xs = ok at *
        cases ok with
        | true =>
          have hN : printF xs = (catR xs, 0) := by rw [printF, HL.out, if_neg h64, hok]; rfl
          have hw0 : wrF xs = 0 := by rw [wrF, hok]; rfl
          have hg : goodT xs = catR xs := good_ok hok
          rw [hN] at HPR
          rw [hw0, hg]
          clear h64 hN hw0 hg hok
          generalize catR xs = cx at *
          go_wp2_with (at_builtin; (refine wpList_app _ rfl (.tmp 59) (.tmp 60) 23 23 rfl wr.heap.size 32 (.agg #[.int .i64 0, .string ⟨#[]⟩, .string ⟨#[]⟩]) 3 40 infoR Tryd.underlying23 rfl (by decide) (.slice (some ⟨wr.heap.size, 0, none⟩) 0 0) (.slice A k c) 0 k ([]) (xs.flatMap encR) rfl rfl ?own ?src ?b1 ?b2 ?b3 ?_; (case own => exact World.ownsRow_made wr #[] 0 (Nat.le_refl _) (Nat.zero_le _) rfl); (case src => exact HA.out); (case b1 => omega); (case b2 => unfold maxLen; omega); (case b3 => rw [World.size_alloc]; omega); intro v8 w8 hown8 hg8; refine Hid.out ?_))
          refine Lib.hid ?_
          rw [Nat.zero_add, List.nil_append] at hown8
          obtain ⟨A8, c8, rfl⟩ := ownsRow_form hown8
          have HR8 := Lib.hid (OwnR.rs (n := k) (base := wr.heap.size) hown8)
          have HC8 : Hid (Chg No w1 w8) := (HC.out.alloc (.cells #[] 32)).grown hg8 (fun r hr => .inl (by have : wr.heap.size = r := Option.some.inj hr; have := HC.out.size; omega))
          clear hown8 hg8
          go_wp2_with fail
          refine (HPR.out _ _ _ HR8.out).mono ?_
          rintro e w9 ⟨rfl, hc9⟩
          have HC9 := Lib.hid (HC8.out.no hc9)
          clear hc9
          go_wp2_with fail
          refine (HWK.out _).mono ?_
          rintro e w10 ⟨rfl, hc10⟩
          have HC10 := Lib.hid (HC9.out.no hc10)
          clear hc10
          go_wp2
          go_ret
          exact ⟨by simp, HCW.out.no HC10.out⟩
        | false =>
          have hN : printF xs = ([], 2) := by rw [printF, HL.out, if_neg h64, hok]; rfl
          have hw0 : wrF xs = 2 := by rw [wrF, hok]; rfl
          rw [hN, mkS_nil] at HPR
          rw [hw0]
          clear h64 hN hw0 hok
          go_wp2_with (at_builtin; (refine wpList_app _ rfl (.tmp 59) (.tmp 60) 23 23 rfl wr.heap.size 32 (.agg #[.int .i64 0, .string ⟨#[]⟩, .string ⟨#[]⟩]) 3 40 infoR Tryd.underlying23 rfl (by decide) (.slice (some ⟨wr.heap.size, 0, none⟩) 0 0) (.slice A k c) 0 k ([]) (xs.flatMap encR) rfl rfl ?own ?src ?b1 ?b2 ?b3 ?_; (case own => exact World.ownsRow_made wr #[] 0 (Nat.le_refl _) (Nat.zero_le _) rfl); (case src => exact HA.out); (case b1 => omega); (case b2 => unfold maxLen; omega); (case b3 => rw [World.size_alloc]; omega); intro v8 w8 hown8 hg8; refine Hid.out ?_))
          refine Lib.hid ?_
          rw [Nat.zero_add, List.nil_append] at hown8
          obtain ⟨A8, c8, rfl⟩ := ownsRow_form hown8
          have HR8 := Lib.hid (OwnR.rs (n := k) (base := wr.heap.size) hown8)
          have HC8 : Hid (Chg No w1 w8) := (HC.out.alloc (.cells #[] 32)).grown hg8 (fun r hr => .inl (by have : wr.heap.size = r := Option.some.inj hr; have := HC.out.size; omega))
          clear hown8 hg8
          go_wp2_with fail
          refine (HPR.out _ _ _ HR8.out).mono ?_
          rintro e w9 ⟨rfl, hc9⟩
          have HC9 := Lib.hid (HC8.out.no hc9)
          clear hc9
          go_wp2_with fail
          refine (HWK.out _).mono ?_
          rintro e w10 ⟨rfl, hc10⟩
          have HC10 := Lib.hid (HC9.out.no hc10)
          clear hc10
          go_wp2
          go_ret
          exact ⟨by simp, HCW.out.no HC10.out⟩
theorem ruleLines_walk (w : World) (A : Option Addr) (n c : Nat) (xs : List Rul) (h : Rs w (.slice A n c) xs) (hn : n * 40 ≤ 140737488355328) (hx : ∀ x ∈ xs, x.2.1.length ≤ 9223372036854775807 ∧ x.2.2.length ≤ 9223372036854775807) :
    Calls Tryd.prog 4 #[.slice A n c] w fun e w' => e = .returned (.bool true) ∧ Below w.heap.size w w' :=
  (ruleLines_core w A n c xs h hn hx).mono fun _ _ h => ⟨h.1, h.2.below⟩
end Go.Proofs.YtcomcoolmabmgaaDoor

namespace Go.Proofs.YtcomcoolmabmgaaDoor.ruleLines
set_option linter.unnecessarySimpa false
open Go.Proofs.YtcomcoolmabmgaaDoor
open Go.ChangeShapes Go.WideShapes Go.ChangeAt Go.RowKit
open Go.ChangeMaps (open_string shut_string)
set_option linter.unusedVariables false
set_option linter.unusedSimpArgs false

set_option maxRecDepth 100000 in
theorem lifted (os : Os) (started : os.Started) (H : Type) (enc : TypeId × Value → H) :
    ReturnsInHanded {} Tryd.checked os 4 .any (fun w args => (Rows.ruleLinesSpec.pre enc Tryd.prog Tryd.f4 Rows.ruleLinesRow.domain false w args ∧ laidMetH Tryd.prog Rows.ruleLinesRow.laid w) ∧ sizedMet enc Tryd.prog Tryd.f4 (OpenSpec.ofChange Rows.ruleLinesSpec) false w args)
      (Rows.ruleLinesSpec.post enc Tryd.prog Tryd.f4 false true false false) := by
  refine returnsInHanded_of_change_and (C := Tryd.checked) (X := fun w _ => laidMetH Tryd.prog Rows.ruleLinesRow.laid w) (fun _ _ _ hh h => h.of_heap hh) own started (by kernel_rfl) Tryd.func4
    (ChangeSpec.witness_shaped (enc := enc) (C := Tryd.checked) (os := os) (X := fun w _ => laidMetH Tryd.prog Rows.ruleLinesRow.laid w) false (World.laidAll Tryd.prog os Rows.ruleLinesRow.laid) #[.slice none 0 0] 8 (World.laidAll_os _ _ _)
      (World.shaped_of_ZipB (by kernel_rfl) (by kernel_rfl)) (by kernel_rfl) (by kernel_rfl) (by kernel_rfl)
      (by rw [MakeChecks.laidMetH_plain _ _ _ (by kernel_rfl)]; exact laidMet_laidAll _ (by kernel_rfl) (by kernel_rfl))) ?_
  intro W base args ds gs before hval0 hW hcnd hsz0 hL _
  have hval : ∀ (j : Nat) t v, Tryd.f4.params[j]? = some t → args[j]? = some v → Value.okWide Tryd.prog W .any base t v := hval0
  have hsz : (DataW.weightsEach Tryd.prog (Tryd.f4.params.toList ++ Rows.ruleLinesSpec.plain.varTypes Tryd.prog) (ds ++ gs)).all (· ≤ reachBytes) = true := hsz0
  have hW' := hW
  obtain ⟨p, q, hA0, hV, rfl, hfz, hnd⟩ := hW
  have hA : DataW.TrodAll enc Tryd.prog W 0 (fun _ => true) true Tryd.f4.params.toList args.toList ds p := hA0
  rw [Tryd.params4] at hA hval
  rw [Tryd.params4] at hsz
  obtain ⟨v0, vs0, d0, ds0, p0, q0, hargs, rfl, rfl, h0, r0⟩ := trodAll_cons hA
  obtain ⟨rfl, rfl, rfl⟩ := trodAll_nil r0
  obtain rfl : args = #[v0] := by cases args; simp_all
  obtain ⟨rfl, rfl⟩ := trodVars_none hV
  have k0 := h0
  have lt0 : ∀ x ∈ p0, x.block < W.heap.size := by obtain ⟨m, hm⟩ := k0; exact DataW.trod_lt m _ _ _ hm
  obtain ⟨A0, n0, c0, xs0, rfl, w0, l0, e0⟩ := open_rules (hval 0 23 v0 rfl rfl) h0
  have b0 := rules_sized hsz (j := 0) rfl rfl e0
  clear hA0 hval0
  refine (ruleLines_walk W A0 n0 c0 xs0 w0 b0 l0).mono fun e W' ⟨he, bel⟩ => ?_
  subst he
  exact ⟨_, rfl, _, _, _, [], _, [], hW', trodAll_mk1 (shut_bool Tryd.underlying4 _), (trodAll_cons_mk (Below.trod laidOut (by kernel_rfl) (of_decide_eq_true (by kernel_rfl)) k0 bel lt0) trodAll_mk0), rfl, bel.frame _, fun h => by cases h⟩

theorem over : Rows.ruleLinesRow.holds Tryd.pinned (OpenSpec.ofChange Rows.ruleLinesSpec) :=
  OpenClaim.holds_of_wide 4 Tryd.f4 rfl rfl rfl rfl rfl rfl rfl ⟨rfl, rfl, rfl, rfl, rfl⟩ rfl rfl rfl rfl rfl (by kernel_rfl) Tryd.func4 (by kernel_rfl)
    (of_decide_eq_true (by kernel_rfl)) (by unfold Func.isWrapper; first | (rw [if_pos (by decide +kernel)]; kernel_rfl) | (rw [if_neg (by decide +kernel)]; exact ⟨rfl, rfl⟩))
    (fun os started H enc _ => lifted os started H enc)

theorem proved : Rows.RuleLinesCardSaid :=
  Claim7.holds_tied_plain_at .later [] [.data, .pinned] true _ true over (fun _ h => by cases h) (by kernel_rfl) (fun _ h => by cases h) ruleLines_row_tie rfl ⟨rfl, rfl⟩ (by kernel_rfl) rfl
    (fun f fn hf hfn => by
      obtain rfl : f = 4 := Option.some.inj ((show Tryd.prog.funcNamed "espalier/espalierlaw13.RuleLines" = some 4 by kernel_rfl).symm.trans hf) |>.symm
      obtain rfl : fn = Tryd.f4 := (Option.some.inj (Tryd.func4.symm.trans hfn)).symm
      exact ⟨by kernel_rfl, fun j t ht => by
        rw [Tryd.params4] at ht
        have hm : t ∈ [23] := by simpa using Array.mem_of_getElem? ht
        have hall : ([23].all fun u => !Tryd.prog.wantsStandIn u) = true := by kernel_rfl
        exact (show Tryd.prog.wantsStandIn t = false by simpa using List.all_eq_true.1 hall t hm)⟩)
    (by kernel_rfl)
#print axioms proved
end Go.Proofs.YtcomcoolmabmgaaDoor.ruleLines

