/-
  RuleBack, RuleBackClose: in one text.
-/
import Derived.Test.YtcomcoolmabmgaaDoorBa11
import Derived.Test.YtcomcoolmabmgaaDoorRows
import Derived.Test.YtcomcoolmabmgaaDoorBa1
import Derived.Test.YtcomcoolmabmgaaDoorTie
import Derived.Test.YtcomcoolmabmgaaDoorCards
import Derived.LaidMore
import Derived.Lay
import Derived.SevenTiedAt
import Derived.Stop.Joined
import Derived.Test.YtcomcoolmabmgaaDoorBa10
namespace Go.Proofs.YtcomcoolmabmgaaDoor
set_option linter.unnecessarySimpa false
open Go.RowKit Go.Shelf
set_option linter.unusedVariables false
set_option linter.unusedSimpArgs false
set_option maxRecDepth 100000

theorem printF_cases (xs : List Rul) : ((printF xs).2 = 0 ∧ okR xs = true ∧ xs.length ≤ 64 ∧ (printF xs).1 = catR xs) ∨ ((printF xs).2 ≠ 0 ∧ (printF xs).1 = []) := by
  rw [printF]
  by_cases h : 64 < xs.length
  · rw [if_pos h]; exact .inr ⟨(by show (3 : Int) ≠ 0; decide), rfl⟩
  · rw [if_neg h]
    cases ho : okR xs with
    | true => exact .inl ⟨rfl, rfl, by omega, rfl⟩
    | false => exact .inr ⟨(by show (2 : Int) ≠ 0; decide), rfl⟩
theorem print_small {xs : List Rul} (h : okR xs = true) (hl : xs.length ≤ 64) : (catR xs).length ≤ 108864 := by
  have := cat_len xs (okR_iff.1 h)
  have : xs.length * 1701 ≤ 64 * 1701 := Nat.mul_le_mul_right _ hl
  omega
set_option maxHeartbeats 3200000 in
theorem ruleBack_core (w : World) (A : Option Addr) (n c : Nat) (xs : List Rul) (h : Rs w (.slice A n c) xs) (hn : n * 40 ≤ 140737488355328) (hx : ∀ x ∈ xs, x.2.1.length ≤ 9223372036854775807 ∧ x.2.2.length ≤ 9223372036854775807) :
    Calls Tryd.prog 5 #[.slice A n c] w fun e w' => e = .returned (.bool true) ∧ Chg No w w' := by
  have sg := fun w x y xs ys => spot_guard w x y xs ys
  have se := fun w a b c d => spot_eq w a b c d
  have HWK := Lib.hid fun w => rwakes_calls w
  have HL := Lib.hid h.len
  have H := Lib.hid h
  have HX := Lib.hid hx
  have hn40 : n ≤ 9223372036854775807 := by omega
  clear h hx
  have HPR : Hid (∀ W A' c', Rs W (.slice A' n c') xs → Calls Tryd.prog 16 #[.slice A' n c'] W fun e w' => e = .returned (.tuple #[.string (mkS (printF xs).1), .int .i64 (printF xs).2]) ∧ Chg No W w') := fun W A' c' h => print_calls W A' n c' xs h hn40 HX.out
  have HPC := Lib.hid (printF_cases xs)
  generalize hpf : (printF xs).1 = pf at HPR HPC
  generalize hpe : (printF xs).2 = pe at HPR HPC
  clear hpf hpe
  go_enter Tryd.func5, Tryd.ntmps5
  go_wp2_with fail
  refine (HWK.out _).mono ?_
  rintro e w1 ⟨rfl, hc1⟩
  have HCW : Hid (Chg No w w1) := hc1
  have HA : Hid (Src Tryd.prog 3 23 (.slice A n c) n (xs.flatMap encR) (w1.alloc (.cells #[] 32))) := srcRs ((H.out.no hc1).no ((Chg.refl _ _).alloc _))
  clear hc1
  go_wp2_with (at_builtin; (refine wpList_app _ rfl (.tmp 10) (.tmp 11) 23 23 rfl w1.heap.size 32 (.agg #[.int .i64 0, .string ⟨#[]⟩, .string ⟨#[]⟩]) 3 40 infoR Tryd.underlying23 rfl (by decide) (.slice (some ⟨w1.heap.size, 0, none⟩) 0 0) (.slice A n c) 0 n ([]) (xs.flatMap encR) rfl rfl ?own ?src ?b1 ?b2 ?b3 ?_; (case own => exact World.ownsRow_made w1 #[] 0 (Nat.le_refl _) (Nat.zero_le _) rfl); (case src => exact HA.out); (case b1 => omega); (case b2 => unfold maxLen; omega); (case b3 => rw [World.size_alloc]; omega); intro v8 w8 hown8 hg8; refine Hid.out ?_))
  refine Lib.hid ?_
  rw [Nat.zero_add, List.nil_append] at hown8
  obtain ⟨A8, c8, rfl⟩ := ownsRow_form hown8
  have HR8 := Lib.hid (OwnR.rs (n := n) (base := w1.heap.size) hown8)
  have HC8 : Hid (Chg No w w8) := (HCW.out.alloc (.cells #[] 32)).grown hg8 (fun r hr => .inl (by have : w1.heap.size = r := Option.some.inj hr; have := HCW.out.size; omega))
  clear hown8 hg8 HA
  go_wp2_with fail
  refine (HPR.out _ _ _ HR8.out).mono ?_
  rintro e w9 ⟨rfl, hc9⟩
  have HC9 := Lib.hid (HC8.out.no hc9)
  clear hc9 HPR
  rcases HPC.out with ⟨h0, hok, h64, hc⟩ | ⟨h0, hc⟩
  · subst h0
    subst hc
    have hsm := print_small hok h64
    have b1 : ¬ ((131072 : Int) < ((mkS (catR xs)).size : Int)) := by rw [mkS_size]; omega
    have HRD := Lib.hid fun w => readall_calls w (mkS (catR xs)) (by rw [mkS_size]; omega)
    rw [mkS_list, read_cat (okR_iff.1 hok) h64 (by omega)] at HRD
    clear HPC hok h64
    generalize catR xs = cx at *
    go_wp2_with fail
    refine (HRD.out _).mono ?_
    rintro e w2 ⟨⟨A2, n2, c2, he, ho⟩, hc2⟩
    simp only at he ho
    subst he
    have HC2 := Lib.hid (HC9.out.no hc2)
    have HO2 := Lib.hid ho.rs
    clear ho hc2
    have HR2 := Lib.hid (H.out.no HC2.out)
    have hnn : n2 ≤ 9223372036854775807 := by
      obtain ⟨A9, c9, he9, h1, h2, -⟩ := HO2.out
      simp only [Value.slice.injEq] at he9
      unfold maxLen at h2; omega
    have HSM := Lib.hid fun o => rsame_calls (w2.alloc o) A2 n2 c2 xs A n c xs (HO2.out.no ((Chg.refl No w2).alloc o)) (HR2.out.no ((Chg.refl No w2).alloc o)) hnn
    go_wp2_with fail
    refine (HSM.out _).mono ?_
    rintro e w4 ⟨rfl, hc4⟩
    have HC4 := Lib.hid ((HC2.out.alloc _).no hc4)
    have hd : decide True = true := rfl
    clear hc4
    go_wp2_with fail
    refine (HWK.out _).mono ?_
    rintro e w5 ⟨rfl, hc5⟩
    have HC5 := Lib.hid (HC4.out.no hc5)
    clear hc5
    go_wp2
    go_ret
    exact ⟨by simp, HC5.out⟩
  · have hb : (pe != 0) = true := bne_iff_ne.2 h0
    subst hc
    rw [mkS_nil]
    clear HPC
    go_wp2_with fail
    refine (HWK.out _).mono ?_
    rintro e w5 ⟨rfl, hc5⟩
    have HC5 := Lib.hid (HC9.out.no hc5)
    clear hc5
    go_wp2
    go_ret
    exact ⟨by simp, HC5.out⟩
theorem ruleBack_walk (w : World) (A : Option Addr) (n c : Nat) (xs : List Rul) (h : Rs w (.slice A n c) xs) (hn : n * 40 ≤ 140737488355328) (hx : ∀ x ∈ xs, x.2.1.length ≤ 9223372036854775807 ∧ x.2.2.length ≤ 9223372036854775807) :
    Calls Tryd.prog 5 #[.slice A n c] w fun e w' => e = .returned (.bool true) ∧ Below w.heap.size w w' :=
  (ruleBack_core w A n c xs h hn hx).mono fun _ _ h => ⟨h.1, h.2.below⟩
end Go.Proofs.YtcomcoolmabmgaaDoor

namespace Go.Proofs.YtcomcoolmabmgaaDoor.ruleBack
set_option linter.unnecessarySimpa false
open Go.Proofs.YtcomcoolmabmgaaDoor
open Go.ChangeShapes Go.WideShapes Go.ChangeAt Go.RowKit
open Go.ChangeMaps (open_string shut_string)
set_option linter.unusedVariables false
set_option linter.unusedSimpArgs false

set_option maxRecDepth 100000 in
theorem lifted (os : Os) (started : os.Started) (H : Type) (enc : TypeId × Value → H) :
    ReturnsInHanded {} Tryd.checked os 5 .any (fun w args => (Rows.ruleBackSpec.pre enc Tryd.prog Tryd.f5 Rows.ruleBackRow.domain false w args ∧ laidMetH Tryd.prog Rows.ruleBackRow.laid w) ∧ sizedMet enc Tryd.prog Tryd.f5 (OpenSpec.ofChange Rows.ruleBackSpec) false w args)
      (Rows.ruleBackSpec.post enc Tryd.prog Tryd.f5 false true false false) := by
  refine returnsInHanded_of_change_and (C := Tryd.checked) (X := fun w _ => laidMetH Tryd.prog Rows.ruleBackRow.laid w) (fun _ _ _ hh h => h.of_heap hh) own started (by kernel_rfl) Tryd.func5
    (ChangeSpec.witness_shaped (enc := enc) (C := Tryd.checked) (os := os) (X := fun w _ => laidMetH Tryd.prog Rows.ruleBackRow.laid w) false (World.laidAll Tryd.prog os Rows.ruleBackRow.laid) #[.slice none 0 0] 8 (World.laidAll_os _ _ _)
      (World.shaped_of_ZipB (by kernel_rfl) (by kernel_rfl)) (by kernel_rfl) (by kernel_rfl) (by kernel_rfl)
      (by rw [MakeChecks.laidMetH_plain _ _ _ (by kernel_rfl)]; exact laidMet_laidAll _ (by kernel_rfl) (by kernel_rfl))) ?_
  intro W base args ds gs before hval0 hW hcnd hsz0 hL _
  have hval : ∀ (j : Nat) t v, Tryd.f5.params[j]? = some t → args[j]? = some v → Value.okWide Tryd.prog W .any base t v := hval0
  have hsz : (DataW.weightsEach Tryd.prog (Tryd.f5.params.toList ++ Rows.ruleBackSpec.plain.varTypes Tryd.prog) (ds ++ gs)).all (· ≤ reachBytes) = true := hsz0
  have hW' := hW
  obtain ⟨p, q, hA0, hV, rfl, hfz, hnd⟩ := hW
  have hA : DataW.TrodAll enc Tryd.prog W 0 (fun _ => true) true Tryd.f5.params.toList args.toList ds p := hA0
  rw [Tryd.params5] at hA hval
  rw [Tryd.params5] at hsz
  obtain ⟨v0, vs0, d0, ds0, p0, q0, hargs, rfl, rfl, h0, r0⟩ := trodAll_cons hA
  obtain ⟨rfl, rfl, rfl⟩ := trodAll_nil r0
  obtain rfl : args = #[v0] := by cases args; simp_all
  obtain ⟨rfl, rfl⟩ := trodVars_none hV
  have k0 := h0
  have lt0 : ∀ x ∈ p0, x.block < W.heap.size := by obtain ⟨m, hm⟩ := k0; exact DataW.trod_lt m _ _ _ hm
  obtain ⟨A0, n0, c0, xs0, rfl, w0, l0, e0⟩ := open_rules (hval 0 23 v0 rfl rfl) h0
  have b0 := rules_sized hsz (j := 0) rfl rfl e0
  clear hA0 hval0
  refine (ruleBack_walk W A0 n0 c0 xs0 w0 b0 l0).mono fun e W' ⟨he, bel⟩ => ?_
  subst he
  exact ⟨_, rfl, _, _, _, [], _, [], hW', trodAll_mk1 (shut_bool Tryd.underlying4 _), (trodAll_cons_mk (Below.trod laidOut (by kernel_rfl) (of_decide_eq_true (by kernel_rfl)) k0 bel lt0) trodAll_mk0), rfl, bel.frame _, fun h => by cases h⟩

theorem over : Rows.ruleBackRow.holds Tryd.pinned (OpenSpec.ofChange Rows.ruleBackSpec) :=
  OpenClaim.holds_of_wide 5 Tryd.f5 rfl rfl rfl rfl rfl rfl rfl ⟨rfl, rfl, rfl, rfl, rfl⟩ rfl rfl rfl rfl rfl (by kernel_rfl) Tryd.func5 (by kernel_rfl)
    (of_decide_eq_true (by kernel_rfl)) (by unfold Func.isWrapper; first | (rw [if_pos (by decide +kernel)]; kernel_rfl) | (rw [if_neg (by decide +kernel)]; exact ⟨rfl, rfl⟩))
    (fun os started H enc _ => lifted os started H enc)

theorem proved : Rows.RuleBackCardSaid :=
  Claim7.holds_tied_plain_at .later [] [.data, .pinned] true _ true over (fun _ h => by cases h) (by kernel_rfl) (fun _ h => by cases h) ruleBack_row_tie rfl ⟨rfl, rfl⟩ (by kernel_rfl) rfl
    (fun f fn hf hfn => by
      obtain rfl : f = 5 := Option.some.inj ((show Tryd.prog.funcNamed "espalier/espalierlaw13.RuleBack" = some 5 by kernel_rfl).symm.trans hf) |>.symm
      obtain rfl : fn = Tryd.f5 := (Option.some.inj (Tryd.func5.symm.trans hfn)).symm
      exact ⟨by kernel_rfl, fun j t ht => by
        rw [Tryd.params5] at ht
        have hm : t ∈ [23] := by simpa using Array.mem_of_getElem? ht
        have hall : ([23].all fun u => !Tryd.prog.wantsStandIn u) = true := by kernel_rfl
        exact (show Tryd.prog.wantsStandIn t = false by simpa using List.all_eq_true.1 hall t hm)⟩)
    (by kernel_rfl)
#print axioms proved
end Go.Proofs.YtcomcoolmabmgaaDoor.ruleBack

