/-
  QuoteNumbers, QuoteNumbersClose: in one text.
-/
import Derived.Test.YtcomcoolmabmgaaDoorBa12
import Derived.Test.YtcomcoolmabmgaaDoorRows
import Derived.Lay
import Derived.LaidMore
import Derived.SevenTiedAt
import Derived.Stop.Joined
import Derived.Test.YtcomcoolmabmgaaDoorBa1
import Derived.Test.YtcomcoolmabmgaaDoorTie
import Derived.Test.YtcomcoolmabmgaaDoorCards
namespace Go.Proofs.YtcomcoolmabmgaaDoor
set_option linter.unnecessarySimpa false
open Go.RowKit Go.Shelf
set_option linter.unusedVariables false
set_option linter.unusedSimpArgs false
set_option maxRecDepth 100000

theorem star_err : ("*errors.errorString" : String) = "*" ++ "errors.errorString" := by decide
theorem row_err (u : TypeId) (h : Tryd.prog.typeName? 3 u = some "*errors.errorString") : u = 112 :=
  typeName_ptr_named (nm := "errors.errorString") (by rw [← star_err]; kernel_rfl) (by kernel_rfl) (by decide) u (by rw [← star_err]; exact h)
theorem numW_of {W : World} (h : laidMetH Tryd.prog Rows.quoteNumbersRow.laid W) : NumW W := by
  rw [MakeChecks.laidMetH_plain _ _ _ (by kernel_rfl)] at h
  have h3 := h.tail.tail
  have ht := Lib.tabIs_of_head (name := "internal/strconv.uint64pow10") (k := .u64) (zs := Lib.pow10Tab) (g := 3) (show Tryd.prog.globalNamed "internal/strconv.uint64pow10" = some 3 by kernel_rfl) (t := 116) (by kernel_rfl) (n := 20) (e := 97) (by kernel_rfl) Tryd.underlying97 (by kernel_rfl) (by kernel_rfl) h3
  have hER := h3.tail
  have hES := hER.tail
  obtain ⟨a1, s1, hv1, -, -, -⟩ := laid_sentinel hES (show Tryd.prog.globalNamed "strconv.ErrSyntax" = some 1 by kernel_rfl) (ti := 61) (by kernel_rfl) Tryd.underlying61 (tp := 112) row_err Tryd.underlying112 Tryd.underlying114 rfl rfl Tryd.underlying9 (by kernel_rfl) (by kernel_rfl)
  obtain ⟨a2, s2, hv2, -, -, -⟩ := laid_sentinel hER (show Tryd.prog.globalNamed "strconv.ErrRange" = some 2 by kernel_rfl) (ti := 61) (by kernel_rfl) Tryd.underlying61 (tp := 112) row_err Tryd.underlying112 Tryd.underlying114 rfl rfl Tryd.underlying9 (by kernel_rfl) (by kernel_rfl)
  have c1 : W.cell? ⟨1, 0, none⟩ = some (.iface 112 (.pointer (some a1))) := by
    have h0 := World.var?_cell (show Tryd.prog.globalNamed "strconv.ErrSyntax" = some 1 by kernel_rfl) hv1 0; simpa using h0
  have c2 : W.cell? ⟨2, 0, none⟩ = some (.iface 112 (.pointer (some a2))) := by
    have h0 := World.var?_cell (show Tryd.prog.globalNamed "strconv.ErrRange" = some 2 by kernel_rfl) hv2 0; simpa using h0
  exact ⟨_, _, c1, .inr ⟨_, _, rfl⟩, c2, .inr ⟨_, _, rfl⟩, ht⟩
set_option maxHeartbeats 3200000 in
theorem quoteNumbers_core (w : World) (hw : NumW w) (s : ByteArray) (hs : s.size ≤ 140737488351232) : Calls Tryd.prog 7 #[.string s] w fun e w' => e = .returned (.bool true) ∧ Chg No w w' := by
  have HWK := Lib.hid fun w => wakes_calls w
  have HND := Lib.hid fun W (h : Chg No w W) => number_calls W (hw.no h) s hs
  have HRN := Lib.hid fun W => refnumber_calls W s hs
  rw [got_eq] at HND
  generalize numF s.data.toList = o at *
  unfold numV at HND HRN
  generalize o.getD 0 = v at *
  generalize o.isSome = z at *
  clear hw hs
  go_enter Tryd.func7, Tryd.ntmps7
  go_wp2_with fail
  refine (HWK.out _).mono ?_
  rintro e w1 ⟨rfl, hc1⟩
  have HC1 : Hid (Chg No w w1) := hc1
  clear hc1
  go_wp2_with fail
  refine (HND.out _ HC1.out).mono ?_
  rintro e w2 ⟨rfl, hc2⟩
  have HC2 := Lib.hid (HC1.out.no hc2)
  clear hc2
  go_wp2_with fail
  refine (HRN.out _).mono ?_
  rintro e w3 ⟨rfl, hc3⟩
  have HC3 := Lib.hid (HC2.out.no hc3)
  clear hc3
  have hz : (z == z) = true := by cases z <;> rfl
  go_wp2_with fail
  refine (HWK.out _).mono ?_
  rintro e w4 ⟨rfl, hc4⟩
  have HC4 := Lib.hid (HC3.out.no hc4)
  clear hc4
  go_wp2
  go_ret
  exact ⟨by simp, HC4.out⟩
theorem quoteNumbers_walk (w : World) (hw : NumW w) (s : ByteArray) (hs : s.size ≤ 140737488351232) : Calls Tryd.prog 7 #[.string s] w fun e w' => e = .returned (.bool true) ∧ Below w.heap.size w w' :=
  (quoteNumbers_core w hw s hs).mono fun _ _ h => ⟨h.1, h.2.below⟩
end Go.Proofs.YtcomcoolmabmgaaDoor

namespace Go.Proofs.YtcomcoolmabmgaaDoor.quoteNumbers
set_option linter.unnecessarySimpa false
open Go.Proofs.YtcomcoolmabmgaaDoor
open Go.ChangeShapes Go.WideShapes Go.ChangeAt Go.RowKit
open Go.ChangeMaps (open_string shut_string)
set_option linter.unusedVariables false
set_option linter.unusedSimpArgs false

set_option maxRecDepth 100000 in
theorem lifted (os : Os) (started : os.Started) (H : Type) (enc : TypeId × Value → H) :
    ReturnsInHanded {} Tryd.checked os 7 .any (fun w args => (Rows.quoteNumbersSpec.pre enc Tryd.prog Tryd.f7 Rows.quoteNumbersRow.domain false w args ∧ laidMetH Tryd.prog Rows.quoteNumbersRow.laid w) ∧ sizedMet enc Tryd.prog Tryd.f7 (OpenSpec.ofChange Rows.quoteNumbersSpec) false w args)
      (Rows.quoteNumbersSpec.post enc Tryd.prog Tryd.f7 false true false false) := by
  refine returnsInHanded_of_change_and (C := Tryd.checked) (X := fun w _ => laidMetH Tryd.prog Rows.quoteNumbersRow.laid w) (fun _ _ _ hh h => h.of_heap hh) own started (by kernel_rfl) Tryd.func7
    (ChangeSpec.witness_shaped (enc := enc) (C := Tryd.checked) (os := os) (X := fun w _ => laidMetH Tryd.prog Rows.quoteNumbersRow.laid w) false (World.laidAll Tryd.prog os Rows.quoteNumbersRow.laid) #[.string ⟨#[]⟩] 8 (World.laidAll_os _ _ _)
      (World.shaped_of_ZipB (by kernel_rfl) (by kernel_rfl)) (by kernel_rfl) (by kernel_rfl) (by kernel_rfl)
      (by rw [MakeChecks.laidMetH_plain _ _ _ (by kernel_rfl)]; exact laidMet_laidAll _ (by kernel_rfl) (by kernel_rfl))) ?_
  intro W base args ds gs before hval0 hW hcnd hsz0 hL _
  have hval : ∀ (j : Nat) t v, Tryd.f7.params[j]? = some t → args[j]? = some v → Value.okWide Tryd.prog W .any base t v := hval0
  have hsz : (DataW.weightsEach Tryd.prog (Tryd.f7.params.toList ++ Rows.quoteNumbersSpec.plain.varTypes Tryd.prog) (ds ++ gs)).all (· ≤ reachBytes) = true := hsz0
  have hW' := hW
  obtain ⟨p, q, hA0, hV, rfl, hfz, hnd⟩ := hW
  have hA : DataW.TrodAll enc Tryd.prog W 0 (fun _ => true) true Tryd.f7.params.toList args.toList ds p := hA0
  rw [Tryd.params7] at hA hval
  rw [Tryd.params7] at hsz
  obtain ⟨v0, vs0, d0, ds0, p0, q0, hargs, rfl, rfl, h0, r0⟩ := trodAll_cons hA
  obtain ⟨rfl, rfl, rfl⟩ := trodAll_nil r0
  obtain rfl : args = #[v0] := by cases args; simp_all
  obtain ⟨rfl, rfl⟩ := trodVars_none hV
  have k0 := h0
  have lt0 : ∀ x ∈ p0, x.block < W.heap.size := by obtain ⟨m, hm⟩ := k0; exact DataW.trod_lt m _ _ _ hm
  obtain ⟨s0, rfl, hd0, rfl, hs0⟩ := open_string Tryd.underlying9 (hval 0 9 v0 rfl rfl) h0
  have b0 : s0.size ≤ 140737488351232 := text_sized hsz (j := 0) (t := 9) rfl (by rw [← hd0]; rfl)
  clear hA0 hval0
  refine (quoteNumbers_walk W (numW_of hL) s0 b0).mono fun e W' ⟨he, bel⟩ => ?_
  subst he
  exact ⟨_, rfl, _, _, _, [], _, [], hW', trodAll_mk1 (shut_bool Tryd.underlying4 _), (trodAll_cons_mk (Below.trod laidOut (by kernel_rfl) (of_decide_eq_true (by kernel_rfl)) k0 bel lt0) trodAll_mk0), rfl, bel.frame _, fun h => by cases h⟩

theorem over : Rows.quoteNumbersRow.holds Tryd.pinned (OpenSpec.ofChange Rows.quoteNumbersSpec) :=
  OpenClaim.holds_of_wide 7 Tryd.f7 rfl rfl rfl rfl rfl rfl rfl ⟨rfl, rfl, rfl, rfl, rfl⟩ rfl rfl rfl rfl rfl (by kernel_rfl) Tryd.func7 (by kernel_rfl)
    (of_decide_eq_true (by kernel_rfl)) (by unfold Func.isWrapper; first | (rw [if_pos (by decide +kernel)]; kernel_rfl) | (rw [if_neg (by decide +kernel)]; exact ⟨rfl, rfl⟩))
    (fun os started H enc _ => lifted os started H enc)

theorem proved : Rows.QuoteNumbersCardSaid :=
  Claim7.holds_tied_plain_at .later [] [.data, .data, .data, .sentinel, .sentinel] true _ true over (fun _ h => by cases h) (by kernel_rfl) (fun _ h => by cases h) quoteNumbers_row_tie rfl ⟨rfl, rfl⟩ (by kernel_rfl) rfl
    (fun f fn hf hfn => by
      obtain rfl : f = 7 := Option.some.inj ((show Tryd.prog.funcNamed "espalier/espalierlaw05.QuoteNumbers" = some 7 by kernel_rfl).symm.trans hf) |>.symm
      obtain rfl : fn = Tryd.f7 := (Option.some.inj (Tryd.func7.symm.trans hfn)).symm
      exact ⟨by kernel_rfl, fun j t ht => by
        rw [Tryd.params7] at ht
        have hm : t ∈ [9] := by simpa using Array.mem_of_getElem? ht
        have hall : ([9].all fun u => !Tryd.prog.wantsStandIn u) = true := by kernel_rfl
        exact (show Tryd.prog.wantsStandIn t = false by simpa using List.all_eq_true.1 hall t hm)⟩)
    (by kernel_rfl)
#print axioms proved
end Go.Proofs.YtcomcoolmabmgaaDoor.quoteNumbers

