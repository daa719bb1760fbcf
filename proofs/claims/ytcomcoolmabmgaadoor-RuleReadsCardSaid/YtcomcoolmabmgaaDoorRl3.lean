/-
  Rules: Read, a range over the lines.
-/
import Derived.Test.YtcomcoolmabmgaaDoorRl2
import Derived.Test.YtcomcoolmabmgaaDoorL2
import Derived.Test.YtcomcoolmabmgaaDoorRep3
import Derived.RangeFuncBox
namespace Go.Proofs.YtcomcoolmabmgaaDoor
open Go.RowKit Go.Shelf
set_option linter.unusedVariables false
set_option linter.unusedSimpArgs false
set_option maxRecDepth 100000

attribute [local go_sem] Oper.semAt_some

theorem lines_mem : ∀ (n : Nat) (l : List UInt8), l.length ≤ n → ∀ x ∈ linesF l, (∀ b ∈ x, b ≠ 10) ∧ x.length ≤ l.length := by
  intro n
  induction n with
  | zero =>
    intro l hl x hx
    have : l = [] := List.eq_nil_of_length_eq_zero (by omega)
    subst this
    rw [linesF_nil] at hx; cases hx
  | succ n ih =>
    intro l hl x hx
    by_cases h : l = []
    · subst h; rw [linesF_nil] at hx; cases hx
    · rw [linesF_cons l h] at hx
      rcases List.mem_cons.1 hx with rfl | hx
      · exact ⟨firstL_mem l, firstL_len l⟩
      · have hr := restL_len l h
        obtain ⟨h1, h2⟩ := ih (restL l) (by omega) x hx
        exact ⟨h1, by omega⟩
theorem lines_count : ∀ (n : Nat) (l : List UInt8), l.length ≤ n → (linesF l).length ≤ l.length := by
  intro n
  induction n with
  | zero =>
    intro l hl
    have : l = [] := List.eq_nil_of_length_eq_zero (by omega)
    subst this
    rw [linesF_nil]; exact Nat.le_refl _
  | succ n ih =>
    intro l hl
    by_cases h : l = []
    · subst h; rw [linesF_nil]; exact Nat.le_refl _
    · have hr := restL_len l h
      have := ih (restL l) (by omega)
      rw [linesF_cons l h, List.length_cons]; omega
theorem idx_mem : ∀ (ls : List (List UInt8)) (k : Nat) (x : Nat × List UInt8), x ∈ idx k ls → x.2 ∈ ls
  | [], _, _, h => by cases h
  | y :: r, k, x, h => by
    rcases List.mem_cons.1 h with rfl | h
    · simp
    · exact List.mem_cons_of_mem _ (idx_mem r (k + 1) x h)
theorem keeps_own {W W' : World} {base size k : Nat} {e : TypeId} {v : Value} {xs : List Value} (hr : W.ownsRow base e size v k xs) (hg : W.grownBy W' v.ownBlock) : KeepsOthers W W' :=
  KeepsOthers.of_grownBy hg fun j o ej hj => by
    rcases hr.2 with ⟨rfl, _⟩ | ⟨g, cap, cur, rfl, _, hgb, _⟩
    · simp [Value.ownBlock] at ej
    · obtain rfl : g = j := by simpa [Value.ownBlock] using ej
      rw [hgb] at hj; cases hj; rfl
theorem below_own {n₀ : Nat} {W W' : World} {size k : Nat} {e : TypeId} {v : Value} {xs : List Value} (hr : W.ownsRow n₀ e size v k xs) (hg : W.grownBy W' v.ownBlock) (hn : n₀ ≤ W.heap.size) : Below n₀ W W' :=
  (Below.refl n₀ W).grown hg hn fun j ej => by
    rcases hr.2 with ⟨rfl, _⟩ | ⟨g, cap, cur, rfl, hb, _, _⟩
    · simp [Value.ownBlock] at ej
    · obtain rfl : g = j := by simpa [Value.ownBlock] using ej
      exact hb

theorem boxed_kept {X Y : World} {row : Option Nat} {B : Nat} {t : TypeId} {v : Value} {B0 : Nat} (h : Boxed X B t v) (hg : X.grownBy Y row) (hr : ∀ r, row = some r → B0 ≤ r ∧ ∃ o : Obj, X.heap[r]? = some o ∧ o.isCells = false) : Boxed Y B t v :=
  h.kept hg (fun e => by obtain ⟨_, o, ho, hc⟩ := hr _ e.symm; rw [show X.heap[B]? = _ from h] at ho; cases ho; cases hc)
theorem idx_snd : ∀ (ls : List (List UInt8)) (k : Nat), (idx k ls).map (·.2) = ls
  | [], _ => rfl
  | x :: r, k => by simp [idx, idx_snd r (k + 1)]
abbrev RN (s : List UInt8) := { x : Nat × List UInt8 // x ∈ idx 0 (linesF s) }
/-- How far lines bring a reading; none: something is wrong. -/
def foldG : Nat → List Rul → List (List UInt8) → Option (Nat × List Rul)
  | a, acc, [] => some (a, acc)
  | a, acc, l :: r => match wordsF 0 [] l with
    | .inl _ => none
    | .inr [] => foldG (a + l.length + 1) acc r
    | .inr (w :: ws) => match readR (w :: ws) with
      | none => none
      | some x => if acc.length = 64 then none else foldG (a + l.length + 1) (acc ++ [x]) r
theorem fold_read : ∀ (ls rest : List (List UInt8)) (a : Nat) (acc : List Rul) (a' : Nat) (acc' : List Rul), foldG a acc ls = some (a', acc') → readG a acc (ls ++ rest) = readG a' acc' rest := by
  intro ls
  induction ls with
  | nil => intro rest a acc a' acc' h; simp only [foldG, Option.some.injEq, Prod.mk.injEq] at h; rw [h.1, h.2]; rfl
  | cons l ls ih =>
    intro rest a acc a' acc' h
    rw [foldG] at h
    rw [List.cons_append, readG]
    generalize wordsF 0 [] l = v at *
    match v, h with
    | .inl _, h => cases h
    | .inr [], h => exact ih _ _ _ _ _ h
    | .inr (w :: ws), h =>
      simp only at h ⊢
      generalize readR (w :: ws) = u at *
      match u, h with
      | none, h => cases h
      | some x, h =>
        simp only at h ⊢
        by_cases h64 : acc.length = 64
        · rw [if_pos h64] at h; cases h
        · rw [if_neg h64] at h ⊢
          exact ih _ _ _ _ _ h
theorem fold_snoc : ∀ (ls : List (List UInt8)) (l : List UInt8) (a : Nat) (acc : List Rul) (a' : Nat) (acc' : List Rul), foldG a acc ls = some (a', acc') → foldG a acc (ls ++ [l]) = foldG a' acc' [l] := by
  intro ls
  induction ls with
  | nil => intro l a acc a' acc' h; simp only [foldG, Option.some.injEq, Prod.mk.injEq] at h; rw [h.1, h.2]; rfl
  | cons l0 ls ih =>
    intro l a acc a' acc' h
    rw [foldG] at h
    rw [List.cons_append, foldG]
    generalize wordsF 0 [] l0 = v at *
    match v, h with
    | .inl _, h => cases h
    | .inr [], h => exact ih _ _ _ _ _ h
    | .inr (w :: ws), h =>
      simp only at h ⊢
      generalize readR (w :: ws) = u at *
      match u, h with
      | none, h => cases h
      | some x, h =>
        simp only at h ⊢
        by_cases h64 : acc.length = 64
        · rw [if_pos h64] at h; cases h
        · rw [if_neg h64] at h ⊢
          exact ih _ _ _ _ _ h
/-- What lies through all rounds. -/
def rlF (w : World) (B2 B3 B4 B5 : Nat) (a : Nat) (A : Option Addr) (n c : Nat) (acc : List Rul) (W : World) : Prop :=
  Boxed W B2 23 (.slice none 0 0) ∧ W.heap[B3]? = some (.cells #[.int .i64 0, .int .i64 0] 26 (0, 0)) ∧ Boxed W B4 23 (.slice A n c) ∧ Boxed W B5 3 (.int .i64 (a : Int)) ∧ OwnR W w.heap.size (.slice A n c) n acc ∧ Below w.heap.size w W
theorem OwnR.kept {W W' : World} {base n : Nat} {v : Value} {l : List Rul} {row : Option Nat} (h : OwnR W base v n l) (hg : W.grownBy W' row) (hr : ∀ r, row = some r → ∃ o : Obj, W.heap[r]? = some o ∧ o.isCells = false) : OwnR W' base v n l := by
  refine World.ownsRow.kept h hg ?_
  rcases h.2 with ⟨h, _⟩ | ⟨g, cap, cur, h, _, hgb, _⟩
  · exact .inl (by rw [h]; rfl)
  · refine .inr fun e' => ?_
    obtain ⟨o, ho, hc⟩ := hr g (by rw [h] at e'; simpa [Value.ownBlock] using e'.symm)
    rw [hgb] at ho; cases ho; cases hc
theorem OwnR.chg {w w' : World} {base n : Nat} {v : Value} {l : List Rul} (h : OwnR w base v n l) (hc : Chg No w w') : OwnR w' base v n l := by
  obtain ⟨h1, h2⟩ := h
  refine ⟨h1, h2.imp id ?_⟩
  rintro ⟨g, cap, cur, rfl, hg, hh, r⟩
  exact ⟨g, cap, cur, rfl, hg, hc.heap hh (fun x => x), r⟩
theorem cells_kept {X Y : World} {row : Option Nat} {B : Nat} {cs : Array Value} {t : TypeId} {fz : Nat × Nat} (h : X.heap[B]? = some (.cells cs t fz)) (hg : X.grownBy Y row) (hr : ∀ r, row = some r → ∃ o : Obj, X.heap[r]? = some o ∧ o.isCells = false) : Y.heap[B]? = some (.cells cs t fz) :=
  (hg.block B (Array.getElem?_eq_some_iff.1 h).1 (fun e => by obtain ⟨o, ho, hc⟩ := hr _ e.symm; rw [h] at ho; cases ho; cases hc)).trans h
theorem rlF_own {β : Type} {B : Nat} {w : World} {B2 B3 B4 B5 : Nat} {a : Nat} {A : Option Addr} {n c : Nat} {acc : List Rul} (hW : w.heap.size ≤ B) : OwnFrom B (fun (_ : β) W' => rlF w B2 B3 B4 B5 a A n c acc W') := by
  rintro p X Y row ⟨h2, h3, h4, h5, hrow, hB⟩ hg hr
  have hr' : ∀ r, row = some r → ∃ o : Obj, X.heap[r]? = some o ∧ o.isCells = false := fun r e => (hr r e).2
  exact ⟨boxed_kept h2 hg hr, cells_kept h3 hg hr', boxed_kept h4 hg hr, boxed_kept h5 hg hr, OwnR.kept hrow hg hr', hB.grown hg hB.size (fun k e => by have := (hr k e).1; omega)⟩
theorem rlF.no {w : World} {B2 B3 B4 B5 : Nat} {a : Nat} {A : Option Addr} {n c : Nat} {acc : List Rul} {W W' : World} (h : rlF w B2 B3 B4 B5 a A n c acc W) (hc : Chg No W W') : rlF w B2 B3 B4 B5 a A n c acc W' := by
  obtain ⟨h2, h3, h4, h5, hrow, hB⟩ := h
  exact ⟨hc.heap h2 (fun x => x), hc.heap h3 (fun x => x), hc.heap h4 (fun x => x), hc.heap h5 (fun x => x), OwnR.chg hrow hc, hB.trans ((Chg.below hc).mono hB.size)⟩
theorem rlF.ne {w : World} {B2 B3 B4 B5 : Nat} {a : Nat} {A : Option Addr} {n c : Nat} {acc : List Rul} {W : World} (h : rlF w B2 B3 B4 B5 a A n c acc W) : B2 ≠ B3 ∧ B2 ≠ B5 ∧ B3 ≠ B4 ∧ B3 ≠ B5 ∧ B4 ≠ B5 := by
  obtain ⟨h2, h3, h4, h5, -, -⟩ := h
  have g2 : W.heap[B2]? = _ := h2
  have g4 : W.heap[B4]? = _ := h4
  have g5 : W.heap[B5]? = _ := h5
  refine ⟨?_, ?_, ?_, ?_, ?_⟩ <;> rintro rfl
  · rw [g2] at h3; cases h3
  · rw [g2] at g5; cases g5
  · rw [h3] at g4; cases g4
  · rw [h3] at g5; cases g5
  · rw [g4] at g5; cases g5
/-- The place goes on. -/
theorem rlF.step {w : World} {B2 B3 B4 B5 : Nat} {a a' : Nat} {A : Option Addr} {n c : Nat} {acc : List Rul} {W : World} (h : rlF w B2 B3 B4 B5 a A n c acc W) (hn : w.heap.size ≤ B5) : rlF w B2 B3 B4 B5 a' A n c acc (W.setCell ⟨B5, 0, none⟩ (.int .i64 (a' : Int))) := by
  obtain ⟨n1, n2, n3, n4, n5⟩ := h.ne
  obtain ⟨h2, h3, h4, h5, hrow, hB⟩ := h
  refine ⟨h2.other n2 _, ?_, h4.other n5 _, h5.set _, World.ownsRow.kept hrow (grownBy_setCell' W B5 _) (.inr (h5.not_row (by decide) hrow).symm), hB.setCell (p := ⟨B5, 0, none⟩) hn _⟩
  exact ((grownBy_setCell' W B5 _).block B3 (Array.getElem?_eq_some_iff.1 h3).1 (fun e => n4 (Option.some.inj e))).trans h3
theorem cells_not_row {W : World} {B : Nat} {cs : Array Value} {t e : TypeId} {fz : Nat × Nat} (h : W.heap[B]? = some (.cells cs t fz)) (hte : t ≠ e) {base size k : Nat} {v : Value} {xs : List Value} (hr : W.ownsRow base e size v k xs) : some B ≠ v.ownBlock := by
  intro he
  rcases hr.2 with ⟨h0, _⟩ | ⟨g, cap, cur, h0, _, hgb, _⟩
  · rw [h0] at he; cases he
  · rw [h0] at he
    obtain rfl : B = g := by simpa [Value.ownBlock] using he
    rw [h] at hgb; cases hgb; exact hte rfl
/-- A rule more. -/
theorem rlF.app {w : World} {B2 B3 B4 B5 : Nat} {a : Nat} {A A8 : Option Addr} {n c c8 : Nat} {acc : List Rul} {x : Rul} {W W8 : World} (h : rlF w B2 B3 B4 B5 a A n c acc W) (hn : w.heap.size ≤ B4) (hne24 : B2 ≠ B4) (ho : OwnR W8 w.heap.size (.slice A8 (n + 1) c8) (n + 1) (acc ++ [x])) (hg : W.grownBy W8 (Value.slice A n c).ownBlock) :
    rlF w B2 B3 B4 B5 a A8 (n + 1) c8 (acc ++ [x]) (W8.setCell ⟨B4, 0, none⟩ (.slice A8 (n + 1) c8)) := by
  obtain ⟨n1, n2, n3, n4, n5⟩ := h.ne
  obtain ⟨h2, h3, h4, h5, hrow, hB⟩ := h
  have g2 : Boxed W8 B2 23 (.slice none 0 0) := h2.kept hg (h2.not_row (by decide) hrow)
  have g3 : W8.heap[B3]? = _ := (hg.block B3 (Array.getElem?_eq_some_iff.1 h3).1 (cells_not_row h3 (by decide) hrow)).trans h3
  have g4 : Boxed W8 B4 23 (.slice A n c) := h4.kept hg (h4.not_row (by decide) hrow)
  have g5 : Boxed W8 B5 3 (.int .i64 (a : Int)) := h5.kept hg (h5.not_row (by decide) hrow)
  have gB : Below w.heap.size w W8 := hB.grown hg hB.size (fun k hk => (World.ownsRow.lt hrow k hk).1)
  refine ⟨g2.other hne24 _, ?_, g4.set _, g5.other (fun e => n5 e.symm) _, World.ownsRow.kept ho (grownBy_setCell' W8 _ _) (.inr (g4.not_row (by decide) ho).symm), gB.setCell (p := ⟨B4, 0, none⟩) hn _⟩
  exact ((grownBy_setCell' W8 B4 _).block B3 (Array.getElem?_eq_some_iff.1 g3).1 (fun e => n3 (Option.some.inj e))).trans g3
theorem Src.rule {P : Program} {W : World} {tx e' t : TypeId} {g : Nat} (hk : P.underlying tx = some (.slice e')) (x : Rul) (hg : W.heap[g]? = some (.cells #[.int .i64 x.1, .string (mkS x.2.1), .string (mkS x.2.2)] t (0, 0))) :
    Src P 3 tx (.slice (some ⟨g, 0, none⟩) 1 1) 1 (encR x) W :=
  Src.ofSlice _ hk _ _ _ (encR x) (by simp [encR]) (fun i v hj => by
    rw [Addr.add_lit, Nat.zero_add]
    match i, hj with
    | 0, hj => simpa [World.cell?, hg, encR] using hj
    | 1, hj => simpa [World.cell?, hg, encR] using hj
    | 2, hj => simpa [World.cell?, hg, encR] using hj
    | i + 3, hj => simp [encR] at hj) (fun v hv => by
    simp [encR] at hv
    rcases hv with rfl | rfl | rfl <;> rfl)
theorem infoR : (Tryd.prog.info? 32).map (fun i => (i.zero, i.size, i.bytes)) = some (some (.agg #[.int .i64 0, .string ⟨#[]⟩, .string ⟨#[]⟩]), 3, 40) := by kernel_rfl
end Go.Proofs.YtcomcoolmabmgaaDoor
