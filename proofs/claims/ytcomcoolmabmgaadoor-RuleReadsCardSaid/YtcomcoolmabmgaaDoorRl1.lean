/-
  Rules: how a row of rules lies in memory; what a rule may be, its line; what words, lines, texts say (plain).
-/
import Derived.Test.YtcomcoolmabmgaaDoorNm8
import Derived.Test.YtcomcoolmabmgaaDoorQ17
import Derived.Test.YtcomcoolmabmgaaDoorL3
namespace Go.Proofs.YtcomcoolmabmgaaDoor
open Go.RowKit
set_option linter.unusedVariables false
set_option linter.unusedSimpArgs false
set_option maxRecDepth 100000

/-- A rule: kind, from, to. -/
abbrev Rul := Int × List UInt8 × List UInt8
def encR (x : Rul) : List Value := [.int .i64 x.1, .string (mkS x.2.1), .string (mkS x.2.2)]
def rulV (x : Rul) : Value := .agg #[.int .i64 x.1, .string (mkS x.2.1), .string (mkS x.2.2)]
/-- A slice of rules. -/
def Rs (w : World) (v : Value) (xs : List Rul) : Prop := Holds w v xs.length (xs.flatMap encR)
theorem encR_len (xs : List Rul) : (xs.flatMap encR).length = xs.length * 3 := by
  induction xs with
  | nil => rfl
  | cons a t ih => rw [List.flatMap_cons, List.length_append, ih, List.length_cons]; simp [encR]; omega
theorem encR_get (xs : List Rul) (k j : Nat) (hk : k < xs.length) (hj : j < 3) : (xs.flatMap encR)[k * 3 + j]? = (encR xs[k])[j]? := by
  induction xs generalizing k with
  | nil => simp at hk
  | cons a t ih =>
    rw [List.flatMap_cons]
    cases k with
    | zero =>
      rw [List.getElem?_append_left (by simp [encR]; omega)]
      simp
    | succ k =>
      rw [List.getElem?_append_right (by simp [encR]; omega)]
      have : (k + 1) * 3 + j - (encR a).length = k * 3 + j := by simp [encR]; omega
      rw [this, ih k (by simpa using hk)]
      rfl
theorem Rs.no {w w' : World} {v : Value} {xs : List Rul} (h : Rs w v xs) (hc : Chg No w w') : Rs w' v xs := Holds.no h hc
theorem Rs.len {w : World} {A : Option Addr} {n c : Nat} {xs : List Rul} (h : Rs w (.slice A n c) xs) : xs.length = n := by
  obtain ⟨A', c', he, hn, hm, hx⟩ := h
  simp only [Value.slice.injEq] at he
  exact he.2.1.symm
theorem Rs.addr {w : World} {A : Option Addr} {n c : Nat} {xs : List Rul} (h : Rs w (.slice A n c) xs) (hp : 0 < xs.length) :
    ∃ b o, A = some ⟨b, o, none⟩ ∧ ∀ k (hk : k < xs.length), w.cell? ⟨b, o + k * 3, none⟩ = some (.int .i64 xs[k].1) ∧ w.cell? ⟨b, o + k * 3 + 1, none⟩ = some (.string (mkS xs[k].2.1)) ∧ w.cell? ⟨b, o + k * 3 + 2, none⟩ = some (.string (mkS xs[k].2.2)) := by
  obtain ⟨A', c', he, hn, hm, hx⟩ := h
  simp only [Value.slice.injEq] at he
  obtain ⟨rfl, rfl, rfl⟩ := he
  obtain ⟨b, o, rfl, hc⟩ := hx (by rw [encR_len]; omega)
  refine ⟨b, o, rfl, fun k hk => ⟨?_, ?_, ?_⟩⟩
  · have := hc (k * 3) (.int .i64 xs[k].1) (by have := encR_get xs k 0 hk (by omega); rw [Nat.add_zero] at this; rw [this]; rfl)
    exact this
  · have := hc (k * 3 + 1) (.string (mkS xs[k].2.1)) (by rw [encR_get xs k 1 hk (by omega)]; rfl)
    rw [← Nat.add_assoc] at this
    exact this
  · have := hc (k * 3 + 2) (.string (mkS xs[k].2.2)) (by rw [encR_get xs k 2 hk (by omega)]; rfl)
    rw [← Nat.add_assoc] at this
    exact this
/-- A row of rules of the call's own. -/
def OwnR (w : World) (base : Nat) (v : Value) (n : Nat) (xs : List Rul) : Prop := w.ownsRow base 32 3 v n (xs.flatMap encR)
theorem OwnR.rs {w : World} {base n : Nat} {v : Value} {xs : List Rul} (h : OwnR w base v n xs) : Rs w v xs := by
  have hn : xs.length = n := by have := h.1; rw [encR_len] at this; omega
  rw [Rs, hn]; exact Holds.ofOwn h
theorem OwnR.len {w : World} {base n : Nat} {v : Value} {xs : List Rul} (h : OwnR w base v n xs) : xs.length = n := by
  have := h.1; rw [encR_len] at this; omega

/-- The kinds' words. -/
def kw (k : Int) : List UInt8 := if k = 1 then [107, 101, 101, 112] else if k = 2 then [100, 114, 111, 112] else if k = 3 then [109, 111, 118, 101] else []
def chkR (r : Rul) : Int := if kw r.1 = [] ∨ isP r.2.1 = false ∨ isP r.2.2 = false ∨ (r.1 ≠ 3 ∧ r.2.2 ≠ []) then 2 else 0
def drsF (s : List UInt8) : List UInt8 := if s = [] then [47] else wordF s
def lineR (r : Rul) : List UInt8 := kw r.1 ++ 32 :: drsF r.2.1 ++ (if r.1 = 3 then 32 :: drsF r.2.2 else [])
/-- The path of a word. -/
def bareF (s : List UInt8) : List UInt8 × Bool := if s = [47] then ([], true) else (s, decide (s ≠ []) && isP s)
/-- The rule of words. -/
def readR : List (List UInt8) → Option Rul
  | [w, a] => if w = kw 1 ∧ (bareF a).2 = true then some (1, (bareF a).1, []) else if w = kw 2 ∧ (bareF a).2 = true then some (2, (bareF a).1, []) else none
  | [w, a, b] => if w = kw 3 ∧ (bareF a).2 = true ∧ (bareF b).2 = true then some (3, (bareF a).1, (bareF b).1) else none
  | _ => none
/-- The rules of lines; what is wrong. -/
def readG : Nat → List Rul → List (List UInt8) → List Rul × Int × Int
  | at_, acc, [] => (acc, 0, 0)
  | at_, acc, l :: r => match wordsF 0 [] l with
    | .inl p => ([], 150, (at_ : Int) + (p : Int))
    | .inr [] => readG (at_ + l.length + 1) acc r
    | .inr (w :: ws) => match readR (w :: ws) with
      | none => ([], 230, (at_ : Int))
      | some x => if acc.length = 64 then ([], 3, (at_ : Int)) else readG (at_ + l.length + 1) (acc ++ [x]) r
def readF (t : List UInt8) : List Rul × Int × Int := if 131072 < t.length then ([], 3, 0) else readG 0 [] (linesF t)
theorem path_zero {p : List UInt8} (h : (pathF p).1 = 0) : pathF p = (0, 0) := by
  have key : ∀ (l : List (List UInt8)) (i : Nat) (a : Int), (walkP i a l).1 = 0 → walkP i a l = (0, 0) := by
    intro l
    induction l with
    | nil => intro i a _; rfl
    | cons x r ih =>
      intro i a h
      rw [walkP] at h ⊢
      split at h
      · cases h
      · rename_i h1
        split at h
        · rename_i h2; exact absurd h h2
        · rename_i h2
          rw [if_neg h1, if_neg h2]
          exact ih _ _ h
  unfold pathF at h ⊢
  split at h
  · cases h
  · rename_i h1
    rw [if_neg h1]
    exact key _ _ _ h
theorem pathq (p : List UInt8) : ((pathF p).1 == 0 && (pathF p).2 == 0) = isP p := by
  unfold isP
  by_cases h : (pathF p).1 = 0
  · rw [path_zero h]; rfl
  · have : ((pathF p).1 == 0) = false := by simpa using h
    rw [this, decide_eq_false h]; rfl
theorem isP_len {p : List UInt8} (h : isP p = true) : p.length ≤ 200 := by
  have : (pathF p).1 = 0 := by simpa [isP] using h
  rw [path_ok] at this
  exact this.1
end Go.Proofs.YtcomcoolmabmgaaDoor
