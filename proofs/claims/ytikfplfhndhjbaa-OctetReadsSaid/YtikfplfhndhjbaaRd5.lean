/-
  Do and told at every kind; what OctetReads' walk keeps.
-/
import Derived.Test.YtikfplfhndhjbaaRd4
namespace Go.Proofs.Ytikfplfhndhjbaa
open Go.RowKit
set_option linter.unusedVariables false
set_option linter.unusedSimpArgs false

/-- A read: the number told, the bytes told, the Reader behind it. -/
def doF (kind k : Int) (R : Rd) : Nat × List UInt8 × Rd :=
  if kind = 0 then ((rByte R).1.toNat, [], (rByte R).2)
  else if kind = 1 then ((rUint R).1, [], (rUint R).2)
  else if kind = 2 then ((rWord R).1, [], (rWord R).2)
  else if kind = 3 then (0, (rText k R).1, (rText k R).2)
  else (0, (rRaw k R).1, (rRaw k R).2)

theorem doF_err (kind k : Int) (R : Rd) (h : R.err ≠ 0) : doF kind k R = (0, [], R) := by
  unfold doF
  split
  · simp [rByte, h]
  · split
    · simp [rUint, h]
    · split
      · simp [rWord, h]
      · split
        · simp [rText, h]
        · simp [rRaw, h]

theorem do_any (w : World) (A : Option Addr) (n c : Nat) (xs : List UInt8) (h : Bytes w (.slice A n c) xs) (hl : xs.length = n) (hx : n ≤ 140737488355328) (err kind k : Int) (hk0 : 0 ≤ kind) (hk4 : kind ≤ 4) (hk : k ≤ 9223372036854775807) :
    Calls Try.prog 29 #[.agg #[.slice A n c, .int .i64 err], .agg #[.int .i64 kind, .int .i64 k]] w fun e w' =>
      Reads A n c xs (doF kind k ⟨xs, err⟩).2.2.rest (doF kind k ⟨xs, err⟩).2.2.err (doF kind k ⟨xs, err⟩).1 (doF kind k ⟨xs, err⟩).2.1 e ∧ Chg No w w' := by
  by_cases he : err = 0
  · subst he
    have : kind = 0 ∨ kind = 1 ∨ kind = 2 ∨ kind = 3 ∨ kind = 4 := by omega
    rcases this with rfl | rfl | rfl | rfl | rfl
    · exact do_byte w A n c xs h hl hx k
    · exact do_uint w A n c xs h hl hx k
    · exact do_word w A n c xs h hl hx k
    · exact do_text w A n c xs h hl hx k hk
    · exact do_raw w A n c xs h hl hx k
  · rw [doF_err kind k ⟨xs, err⟩ he]
    exact do_err w A n c xs h hl err he kind k

theorem told_any (w : World) (g d : Nat) (R : Rd) (h : RdrAt w g d R) (hx : R.rest.length ≤ 140737488355328) (kind k : Int) (hk0 : 0 ≤ kind) (hk4 : kind ≤ 4) (hk : k ≤ 9223372036854775807) (x : Nat) (A2 : Option Addr) (n2 c2 : Nat)
    (hv : (doF kind k R).1 = x) (hsub : ∀ w', Chg (One g) w w' → Bytes w' (.slice A2 n2 c2) (doF kind k R).2.1) :
    Calls Try.prog 30 #[.pointer (some ⟨g, 0, none⟩), .agg #[.int .i64 kind, .int .i64 k], .agg #[.int .u64 (x : Int), .slice A2 n2 c2]] w fun e w' => e = .returned (.bool true) ∧ RdrAt w' g d (doF kind k R).2.2 ∧ Chg (One g) w w' := by
  have : kind = 0 ∨ kind = 1 ∨ kind = 2 ∨ kind = 3 ∨ kind = 4 := by omega
  rcases this with rfl | rfl | rfl | rfl | rfl
  · exact told_byte w g d R h hx k x A2 n2 c2 hv
  · exact told_uint w g d R h hx k x A2 n2 c2 hv
  · exact told_word w g d R h hx k x A2 n2 c2 hv
  · exact told_text w g d R h hx k x A2 n2 c2 hk hsub
  · exact told_raw w g d R h hx k x A2 n2 c2 hsub

theorem doF_len (kind k : Int) (R : Rd) : (doF kind k R).2.2.rest.length ≤ R.rest.length := by
  unfold doF
  split
  · unfold rByte; split
    · exact Nat.le_refl _
    · split <;> simp_all
  · split
    · unfold rUint; split
      · exact Nat.le_refl _
      · split <;> simp
    · split
      · unfold rWord; split
        · exact Nat.le_refl _
        · split <;> simp
      · split
        · unfold rText; split
          · exact Nat.le_refl _
          · split
            · exact Nat.le_refl _
            · split
              · exact Nat.le_refl _
              · split
                · exact Nat.le_refl _
                · split <;> simp <;> omega
        · unfold rRaw; split
          · exact Nat.le_refl _
          · split
            · exact Nat.le_refl _
            · split <;> simp

/-- A Reader's bytes' block: any number, where there are none. -/
theorem RdrAt.made2 {w1 : World} {base : Nat} {v : Value} {xs : List UInt8} (h : OwnB w1 base v xs) (hb : base ≤ w1.heap.size) (N : Nat) (hN : w1.heap.size < N) :
    ∃ d, (base ≤ d ∧ d < w1.heap.size ∨ d = N) ∧ RdrAt (w1.alloc (.cells #[.bool true, v, .int .i64 0] 70)) w1.heap.size d ⟨xs, 0⟩ := by
  obtain ⟨A, c, rfl, hn, hm⟩ := h.bytes.form
  have hk := h.block
  have hb2 := h.bytes.no ((Chg.refl No w1).alloc (.cells #[.bool true, .slice A xs.length c, .int .i64 0] 70))
  cases A with
  | none => exact ⟨N, .inr rfl, none, c, heap_alloc_new w1 _, hb2, (fun p hp => by cases hp), by omega⟩
  | some p =>
    have := hk p.block rfl
    exact ⟨p.block, .inl this, some p, c, heap_alloc_new w1 _, hb2, (fun q hq => by cases hq; rfl), by omega⟩

/-- The asks. -/
def Asks (w : World) (A : Option Addr) (n : Nat) (xs : List (Int × Int)) : Prop :=
  (xs.length = n ∧ n ≤ 9223372036854775807) ∧ (0 < n → ∃ b o, A = some ⟨b, o, none⟩ ∧ ∀ i (hi : i < xs.length), w.cell? ⟨b, o + i * 2, none⟩ = some (.int .i64 xs[i].1) ∧ w.cell? ⟨b, o + i * 2 + 1, none⟩ = some (.int .i64 xs[i].2)) ∧
    ∀ x ∈ xs, (-9223372036854775808 ≤ x.1 ∧ x.1 ≤ 9223372036854775807) ∧ (-9223372036854775808 ≤ x.2 ∧ x.2 ≤ 9223372036854775807)
theorem Asks.no {w w' : World} {A : Option Addr} {n : Nat} {xs : List (Int × Int)} (h : Asks w A n xs) (hc : Chg No w w') : Asks w' A n xs := by
  refine ⟨h.1, fun hn => ?_, h.2.2⟩
  obtain ⟨b, o, he, hx⟩ := h.2.1 hn
  exact ⟨b, o, he, fun i hi => ⟨hc.cell (hx i hi).1 (fun x => x), hc.cell (hx i hi).2 (fun x => x)⟩⟩

theorem set2 {w : World} {g : Nat} {a b u v : Value} {t : TypeId} (h : w.heap[g]? = some (.cells #[a, b] t (0, 0))) :
    ((w.setCell ⟨g, 0, none⟩ u).setCell ⟨g, 1, none⟩ v).heap[g]? = some (.cells #[u, v] t (0, 0)) := by
  unfold World.setCell
  simp [Array.getElem?_modify, h]
theorem kind5 (a : Int) : 0 ≤ (wrap64 (a.tmod 5 + 5)).tmod 5 ∧ (wrap64 (a.tmod 5 + 5)).tmod 5 ≤ 4 := by
  have h1 := Int.lt_tmod_of_pos a (b := 5) (by decide)
  have h2 := Int.tmod_lt_of_pos a (b := 5) (by decide)
  have e : wrap64 (a.tmod 5 + 5) = a.tmod 5 + 5 := by unfold wrap64; omega
  rw [e, Int.tmod_eq_emod_of_nonneg (by omega)]
  omega
end Go.Proofs.Ytikfplfhndhjbaa
