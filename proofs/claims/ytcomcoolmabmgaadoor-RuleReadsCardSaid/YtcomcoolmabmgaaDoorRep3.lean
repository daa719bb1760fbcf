/-
  append at one operation; what appends to a row of bytes change.
-/
import Derived.Test.YtcomcoolmabmgaaDoorRep
import Derived.Lib.OthersKept
namespace Go.Proofs.YtcomcoolmabmgaaDoor
open Go.RowKit
set_option linter.unusedVariables false
set_option linter.unusedSimpArgs false

section
variable {P : Program} {w : World}
theorem wp_app {o : Oper} {a : Act} {K : Act → World → Prop} {Q : Exit → Act → World → Prop} (s x : Operand) (t tx : TypeId)
    (ho : o.op = .call { callee := .builtin .append, args := #[s, x], argTypes := #[t, tx] })
    (base : Nat) (e : TypeId) (z : Value) (size bytes : Nat) (hinfo : (P.info? e).map (fun i => (i.zero, i.size, i.bytes)) = some (some z, size, bytes)) (ht : P.underlying t = some (.slice e))
    (hzs : z.cells.size = size) (hsz : 0 < size)
    (v xv : Value) (n m : Nat) (xs news : List Value) (hs : a.eval s = v) (hx : a.eval x = xv)
    (hown : w.ownsRow base e size v n xs) (hsrc : Src P size tx xv m news w)
    (hbytes : (n + m) * bytes ≤ 140737488355328) (h63 : n + m ≤ maxLen) (hbase : base ≤ w.heap.size)
    (h : ∀ v' w', w'.ownsRow base e size v' (n + m) (xs ++ news) → w.grownBy w' v.ownBlock → K (a.put o.dst v') w') : o.wp P a w K Q := by
  obtain ⟨i, hi, hz0, hz1, hz2⟩ := info_parts hinfo
  obtain ⟨v', w', hr, h2, h3⟩ := run_append_own_src (P := P) w base t tx o.type e i z size bytes ht hi hz0 hz1 hz2 hzs hsz v n xs hown xv m news hsrc hbytes h63 hbase
  unfold Oper.wp execOp
  simp only [ho, resolve, invoke, builtin, Sem.run_bind, Sem.run_pure, Result.andThen_ok, List.map_toArray, List.map_cons, List.map_nil, hs, hx, hr]
  exact h v' w' h2 h3
end

theorem Src.four {P : Program} {w : World} {tx e' t : TypeId} (hk : P.underlying tx = some (.slice e')) (a b c d : Value) (news : List Value) {w' : World} (hc : Chg No (w.alloc (.cells #[a, b, c, d] t)) w') (hn : news = [a, b, c, d]) (h1 : ∀ u ∈ news, u.oneCell' = true) :
    Src P 1 tx (.slice (some ⟨w.heap.size, 0, none⟩) 4 4) 4 news w' := by
  subst hn
  refine Src.ofSlice _ hk _ _ _ [a, b, c, d] (by simp) (fun j v hj => ?_) h1
  rw [Addr.add_lit, Nat.zero_add]
  match j, hj with
  | 0, hj => exact hc.cell (by rw [World.cell?_alloc_new]; simpa using hj) (fun x => x)
  | 1, hj => exact hc.cell (by rw [World.cell?_alloc_new]; simpa using hj) (fun x => x)
  | 2, hj => exact hc.cell (by rw [World.cell?_alloc_new]; simpa using hj) (fun x => x)
  | 3, hj => exact hc.cell (by rw [World.cell?_alloc_new]; simpa using hj) (fun x => x)
  | n + 4, hj => simp at hj
theorem Src.two {P : Program} {w : World} {tx e' t : TypeId} (hk : P.underlying tx = some (.slice e')) (a b : Value) (news : List Value) {w' : World} (hc : Chg No (w.alloc (.cells #[a, b] t)) w') (hn : news = [a, b]) (h1 : ∀ u ∈ news, u.oneCell' = true) :
    Src P 1 tx (.slice (some ⟨w.heap.size, 0, none⟩) 2 2) 2 news w' := by
  subst hn
  refine Src.ofSlice _ hk _ _ _ [a, b] (by simp) (fun j v hj => ?_) h1
  rw [Addr.add_lit, Nat.zero_add]
  match j, hj with
  | 0, hj => exact hc.cell (by rw [World.cell?_alloc_new]; simpa using hj) (fun x => x)
  | 1, hj => exact hc.cell (by rw [World.cell?_alloc_new]; simpa using hj) (fun x => x)
  | n + 2, hj => simp at hj

/-- A row of bytes of the call's own, in world w. -/
def Rows (base : Nat) (w : World) : Nat → Prop := fun k => base ≤ k ∧ ∃ c fz, w.heap[k]? = some (.cells c 5 fz)

theorem OwnB.cells {w : World} {base : Nat} {v : Value} {xs : List UInt8} (h : OwnB w base v xs) : ∀ k, v.ownBlock = some k → ∃ c fz, w.heap[k]? = some (.cells c 5 fz) := by
  intro k hk
  rcases h.2 with ⟨rfl, _⟩ | ⟨g, cap, cur, rfl, _, hg, _⟩
  · simp [Value.ownBlock] at hk
  · simp [Value.ownBlock] at hk
    subst hk
    exact ⟨cur, _, hg⟩

theorem Chg.rows {base : Nat} {a b c : World} {v : Value} {xs : List UInt8} (h : Chg (Rows base a) a b) (ho : OwnB b base v xs) (hg : b.grownBy c v.ownBlock) : Chg (Rows base a) a c := by
  refine h.grown hg (fun k hk => ?_)
  rcases Nat.lt_or_ge k a.heap.size with hlt | hge
  · right
    by_cases hR : Rows base a k
    · exact hR
    · have e := h.block k hlt hR
      obtain ⟨cc, fz, hc⟩ := ho.cells k hk
      rw [e] at hc
      exact ⟨(ho.block k hk).1, cc, fz, hc⟩
  · exact .inl hge

theorem Chg.iter {base : Nat} {a b : World} (h : Chg (Rows base a) a b) {k : Nat} {s : ByteArray} {pos : Nat} (hi : a.heap[k]? = some (.stringIter s pos)) : b.heap[k]? = some (.stringIter s pos) :=
  h.heap hi (fun hr => by obtain ⟨_, c, fz, hc⟩ := hr; rw [hi] at hc; cases hc)
theorem Chg.rowsNew {base : Nat} {w a b : World} (h0 : Chg No w a) (h : Chg (Rows base a) a b) (hb : w.heap.size ≤ base) : Chg No w b :=
  h0.trans h (fun i hi hr => by have := hr.1; omega)
end Go.Proofs.YtcomcoolmabmgaaDoor
