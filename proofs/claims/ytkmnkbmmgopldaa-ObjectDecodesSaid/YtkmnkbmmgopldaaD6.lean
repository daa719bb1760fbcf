/-
  A decoded object, encoded; its kind.
-/
import Derived.Test.YtkmnkbmmgopldaaD5
import Derived.Test.YtkmnkbmmgopldaaOs
namespace Go.Proofs.Ytkmnkbmmgopldaa
open Go.RowKit
set_option linter.unusedVariables false
set_option linter.unusedSimpArgs false
set_option maxRecDepth 100000

theorem IsOb.chg {S : Nat → Prop} {w w' : World} {base : Nat} {v : Value} {o : Ob} (h : IsOb w base v o) (hc : Chg S w w') (hs : ∀ k, base ≤ k → ¬ S k) : IsOb w' base v o := by
  cases o with
  | blob l =>
    obtain ⟨s, rfl, h⟩ := h
    exact ⟨s, rfl, h.chg hc (fun b hb => hs b (h.block b hb).1)⟩
  | tree l =>
    obtain ⟨s, rfl, h⟩ := h
    exact ⟨s, rfl, ownsRow_chg h hc (fun b hb => hs b (World.ownsRow.lt h b hb).1)⟩
  | commit t ps a d x =>
    obtain ⟨s, rfl, h⟩ := h
    exact ⟨s, rfl, ownsRow_chg h hc (fun b hb => hs b (World.ownsRow.lt h b hb).1)⟩
theorem IsOb.no {w w' : World} {base : Nat} {v : Value} {o : Ob} (h : IsOb w base v o) (hc : Chg No w w') : IsOb w' base v o := h.chg hc (fun _ _ x => x)
theorem encodes_ob (w : World) (base : Nat) (v : Value) (o : Ob) (h : IsOb w base v o) (hc : obCheck o = 0) (hw : Wf o) : Encodes w v 0 (obB o) := by
  cases o with
  | blob l =>
    obtain ⟨s, rfl, h⟩ := h
    obtain ⟨A, n, c, rfl, HL, HO⟩ := h.form
    have h4 : ¬ 4096 < n := by
      intro h4
      have : obCheck (.blob l) = 3 := if_pos (by rw [HL.out]; exact h4)
      rw [this] at hc
      cases hc
    have := encodes_blob w A n c l HO.out.bytes HL.out
    rw [if_neg h4, if_neg h4] at this
    exact this
  | tree l =>
    obtain ⟨s, rfl, h⟩ := h
    obtain ⟨A, c, rfl⟩ := ownsRow_form h
    have hc : treeF l = 0 := hc
    have := encodes_tree w A l.length c l (Holds.ofOwn h) (fun x hx => by have := ((treeF_zero hc).2 x hx).1; omega) hw
    rw [if_pos hc, hc] at this
    exact this
  | commit t ps a d x =>
    obtain ⟨s, rfl, h⟩ := h
    obtain ⟨A, c, rfl⟩ := ownsRow_form h
    have hc : ((commitF t ps a x : Nat) : Int) = 0 := hc
    have hc0 : commitF t ps a x = 0 := by omega
    obtain ⟨-, q2, -, q4, -, q6, -⟩ := commitF_zero hc0
    have hs : Sl u64v w (.slice A ps.length c) ps := Holds.ofOwn h
    have := encodes_commit w t A ps.length c ps (mkS a) d (mkS x) hs (by omega) (by rw [mkS_size]; omega) (by rw [mkS_size]; omega) hw.1 hw.2.1
    rw [mkS_list, mkS_list, if_pos hc0, hc0] at this
    exact this
def obKind : Ob → Nat
  | .blob _ => 1
  | .tree _ => 2
  | .commit .. => 3
theorem kind_ob (w : World) (base : Nat) (v : Value) (o : Ob) (w1 : World) (h : IsOb w base v o) : Calls Try.prog 23 #[v] w1 fun e w' => e = .returned (.int .i64 (obKind o : Nat)) ∧ w' = w1 := by
  cases o with
  | blob l =>
    obtain ⟨s, rfl, h⟩ := h
    exact kind_blob w1 _
  | tree l =>
    obtain ⟨s, rfl, h⟩ := h
    exact kind_tree w1 _
  | commit t ps a d x =>
    obtain ⟨s, rfl, h⟩ := h
    exact kind_commit w1 _ _ _ _ _
theorem obKind_pos (o : Ob) : obKind o ≠ 0 := by cases o <;> simp [obKind]
def isBlob : Ob → Bool
  | .blob _ => true
  | _ => false
theorem isBlob_no {o : Ob} (h : isBlob o = false) : ∀ l, o ≠ .blob l := by
  rintro l rfl
  cases h
theorem ta_ob (w : World) (base : Nat) (v : Value) (o : Ob) (h : IsOb w base v o) : ∃ A n c, ∀ w, Sem.run Try.prog (Instr.typeAssert v 48 40 true) w = .ok (.tuple #[.agg #[.slice A n c], .bool (isBlob o)]) w := by
  cases o with
  | blob l =>
    obtain ⟨s, rfl, h⟩ := h
    obtain ⟨A, n, c, rfl, -, -⟩ := h.form
    exact ⟨A, n, c, fun w => ta_blob_blob w _⟩
  | tree l =>
    obtain ⟨s, rfl, h⟩ := h
    exact ⟨_, _, _, fun w => ta_tree_blob w _⟩
  | commit t ps a d x =>
    obtain ⟨s, rfl, h⟩ := h
    exact ⟨_, _, _, fun w => ta_commit_blob w _⟩
end Go.Proofs.Ytkmnkbmmgopldaa
