/-
  (*Disk).Append.
-/
import Derived.Test.YtbbfjnfmfigcfaaJ3
import Derived.Shelf.Abstract
namespace Go.Proofs.Ytbbfjnfmfigcfaa
open Go.RowKit Go.Shelf
set_option linter.unusedVariables false
set_option linter.unusedSimpArgs false
set_option maxRecDepth 100000

/-- The blocks that a disk and its one file change. -/
def DS (d m : Nat) (v : Value) : Nat → Prop := fun i => i = d ∨ i = m ∨ some i = v.ownBlock

theorem append_any (w : World) (base d m wr B0 B1 B2 : Nat) (k : ByteArray) (A A2 : Option Addr) (n c n2 c2 : Nat) (xs ys : List UInt8) (f : Option (ByteArray × Value)) (hf : f = some (k, .slice A n c) ∨ (f = none ∧ A = none ∧ n = 0 ∧ c = 0 ∧ xs = [])) (h : DiskAt w d m wr f) (h0 : Boxed w B0 24 (.pointer (some ⟨d, 0, none⟩))) (h1 : Boxed w B1 9 (.string k)) (h2 : Boxed w B2 22 (.slice A2 n2 c2))
    (ho : OwnB w base (.slice A n c) xs) (hl : xs.length = n) (hb : Bytes w (.slice A2 n2 c2) ys) (hl2 : ys.length = n2) (hn : n + n2 ≤ 140737488355328) (hbase : base ≤ w.heap.size) :
    Calls Try.prog 43 #[.pointer (some ⟨B0, 0, none⟩), .pointer (some ⟨B1, 0, none⟩), .pointer (some ⟨B2, 0, none⟩)] w fun e w' => e = .returned (.tuple #[]) ∧ ∃ v', DiskAt w' d m wr (some (k, v')) ∧ OwnB w' base v' (xs ++ ys) ∧ Chg (fun i => i = m ∨ some i = (Value.slice A n c).ownBlock) w w' ∧ From w (.slice A n c) v' := by
  rcases hf with rfl | ⟨rfl, rfl, rfl, rfl, rfl⟩
  · exact append_more w base d m wr B0 B1 B2 k A A2 n c n2 c2 xs ys h h0 h1 h2 ho hl hb hl2 hn hbase
  · exact append_first w base d m wr B0 B1 B2 k A2 n2 c2 ys h h0 h1 h2 hb hl2 hn hbase

/-- One raw write of a piece. -/
theorem piece_calls (w : World) (base d m wr B0 B1 B2 : Nat) (k : ByteArray) (A A2 : Option Addr) (n c n2 c2 : Nat) (xs ys : List UInt8) (f : Option (ByteArray × Value)) (hf : f = some (k, .slice A n c) ∨ (f = none ∧ A = none ∧ n = 0 ∧ c = 0 ∧ xs = [])) (h : DiskAt w d m wr f) (hw : wr < 9223372036854775807) (h0 : Boxed w B0 24 (.pointer (some ⟨d, 0, none⟩))) (h1 : Boxed w B1 9 (.string k)) (h2 : Boxed w B2 22 (.slice A2 n2 c2))
    (ho : OwnB w base (.slice A n c) xs) (hl : xs.length = n) (hb : Bytes w (.slice A2 n2 c2) ys) (hl2 : ys.length = n2) (hn : n + n2 ≤ 140737488355328) (hbase : base ≤ w.heap.size) (hbd : ∀ b, (Value.slice A2 n2 c2).ownBlock = some b → b ≠ d) :
    Calls Try.prog 41 #[.pointer (some ⟨d, 0, none⟩), .func (.func 43) #[] #[.pointer (some ⟨B0, 0, none⟩), .pointer (some ⟨B1, 0, none⟩), .pointer (some ⟨B2, 0, none⟩)]] w fun e w' => e = .returned (.int .i64 0) ∧ ∃ v', DiskAt w' d m (wr + 1) (some (k, v')) ∧ OwnB w' base v' (xs ++ ys) ∧ Chg (DS d m (.slice A n c)) w w' ∧ From w (.slice A n c) v' := by
  have hdo : ∀ b, (Value.slice A n c).ownBlock = some b → b ≠ d := by
    intro b hbb e
    obtain ⟨cc, fz, hcc⟩ := OwnB.cells ho b hbb
    rw [e, h.1] at hcc
    cases hcc
  have hdm : m ≠ d := by rintro rfl; have := h.1.symm.trans h.2; unfold mapObj at this; split at this <;> cases this
  have hc : Chg (One d) w (w.setCell ⟨d, 1, none⟩ (.int .i64 ((wr : Int) + 1))) := Chg.put _ _ _ _
  have hD1 : DiskAt (w.setCell ⟨d, 1, none⟩ (.int .i64 ((wr : Int) + 1))) d m (wr + 1) f := by
    refine ⟨?_, hc.heap h.2 hdm⟩
    obtain ⟨hlt, hk⟩ := Array.getElem?_eq_some_iff.1 h.1
    show (w.heap.modify d _)[d]? = _
    rw [Array.getElem?_eq_getElem (by rw [Array.size_modify]; exact hlt), Array.getElem_modify_self, hk]
    simp
  have nb : ∀ {B : Nat} {t : TypeId} {v : Value}, Boxed w B t v → B ≠ d := by
    rintro B t v hB rfl
    have := (show w.heap[B]? = _ from hB).symm.trans h.1
    cases this
  refine raw_calls w d m wr f h hw _ _ (fun w' => ∃ v', DiskAt w' d m (wr + 1) (some (k, v')) ∧ OwnB w' base v' (xs ++ ys) ∧ Chg (DS d m (.slice A n c)) w w' ∧ From w (.slice A n c) v') (enters_of Try.func43 (by kernel_rfl) rfl) ?_
  refine (append_any _ base d m (wr + 1) B0 B1 B2 k A A2 n c n2 c2 xs ys f hf hD1 (hc.heap h0 (nb h0)) (hc.heap h1 (nb h1)) (hc.heap h2 (nb h2)) (ho.chg hc (fun b hb' e => hdo b hb' e)) hl (hb.chg hc (fun b hb' e => hbd b hb' e)) hl2 hn (Nat.le_trans hbase hc.size)).mono ?_
  rintro e w' ⟨rfl, v', h1', h2', h3', h4'⟩
  exact ⟨rfl, v', h1', h2', (hc.mono (S' := DS d m (.slice A n c)) (fun i _ hi => .inl hi)).trans h3' (fun i _ hi => .inr hi), fun b hb => (h4' b hb).imp id (fun e => Nat.le_trans hc.size e)⟩
end Go.Proofs.Ytbbfjnfmfigcfaa
