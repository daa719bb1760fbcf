/-
  A scope with one label: the run to the label, and a pass from it.
-/
import Derived.Test.YtcomcoolmabmgaaDoorRep
import Derived.WalkMore
import Derived.ScopeJumps
namespace Go.Proofs.YtcomcoolmabmgaaDoor
open Go.RowKit
set_option linter.unusedVariables false
set_option linter.unusedSimpArgs false

theorem wp_scope_jumps2 {P : Program} {a : Act} {w : World} {Q : Exit → Act → World → Prop} {c R : Code} (l : Nat) (J : Act → World → Prop) (μ : Act → World → Nat) (hf : findLabel c l = some (Code.skip.seq R))
    (pass : ∀ a w, J a w → R.wp P (Exit.jump l (fun a' w' => J a' w' ∧ μ a' w' < μ a w) Q) a w)
    (first : (∀ a w, J a w → R.wp P (Exit.jump l J Q) a w) → c.wp P (Exit.jump l J Q) a w) : (Code.scope c).wp P Q a w := by
  refine wp_scope_jumps l J μ hf (first fun a w hJ => wp_mono (pass a w hJ) (fun e a w h => ?_)) (fun a w hJ => wp_seq (wp_skip (pass a w hJ)))
  cases e with
  | goto l' => exact ⟨h.1, h.2.1⟩
  | _ => exact h

theorem list_range (l : List Value) (N : Nat) (h : l.length = N) : l = (List.range N).map (fun i => l.getD i undef) := by
  refine List.ext_getElem (by simp [h]) (fun i h1 h2 => ?_)
  rw [List.getElem_map, List.getElem_range, List.getD_eq_getElem?_getD, List.getElem?_eq_getElem h1]; rfl
theorem act_range (a : Act) (N : Nat) (h : a.tmps.size = N) (hd : a.defers = []) : a = { tmps := ((List.range N).map (fun i => a.tmps.getD i undef)).toArray, defers := [] } := by
  rcases a with ⟨⟨l⟩, d⟩
  simp only at hd
  subst hd
  have := list_range l N (by simpa using h)
  have e : ∀ i, (Array.mk l).getD i undef = l.getD i undef := by intro i; simp [Array.getD_eq_getD_getElem?]
  simp only [e]
  exact congrArg (fun x => (⟨⟨x⟩, []⟩ : Act)) this
theorem or_dg : ∀ p, p < 16 → ∀ q, q < 16 → bits .or .u8 (IntKind.u8.wrap (((p : Nat) : Int) * 16)) ((q : Nat) : Int) = ((UInt8.ofNat (p * 16 + q)).toNat : Int) := by decide +kernel
theorem Src.one' {P : Program} {w : World} {tx e' t : TypeId} (hk : P.underlying tx = some (.slice e')) (a : Value) (news : List Value) {w' : World} (hc : Chg No (w.alloc (.cells #[a] t)) w') (hn : news = [a]) (h1 : ∀ u ∈ news, u.oneCell' = true) :
    Src P 1 tx (.slice (some ⟨w.heap.size, 0, none⟩) 1 1) 1 news w' := by
  subst hn
  refine Src.ofSlice _ hk _ _ _ [a] (by simp) (fun j v hj => ?_) h1
  rw [Addr.add_lit, Nat.zero_add]
  match j, hj with
  | 0, hj => exact hc.cell (by rw [World.cell?_alloc_new]; simpa using hj) (fun x => x)
  | n + 1, hj => simp at hj
theorem ext_get (t : ByteArray) (a k : Nat) (h : k < (t.extract a t.size).size) (h2 : a + k < t.data.toList.length) : t.data.toList[a + k] = (t.extract a t.size)[k] := by
  show _ = (t.extract a t.size).data[k]'h
  simp [ByteArray.data_extract, Array.getElem_extract]

end Go.Proofs.YtcomcoolmabmgaaDoor
