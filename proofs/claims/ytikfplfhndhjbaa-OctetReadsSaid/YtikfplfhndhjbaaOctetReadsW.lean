/-
  The asks opened; the walk of OctetReads in the form that the statement's closing takes.
-/
import Derived.Test.YtikfplfhndhjbaaOctetReads
import Derived.Deep.SlicePairs
import Derived.ChangeArms
import Derived.Test.YtikfplfhndhjbaaOpen
namespace Go.Proofs.Ytikfplfhndhjbaa
open Go.RowKit
open Go.ChangeShapes Go.WideShapes Go.ChangeAt Go.Deep
set_option linter.unusedVariables false
set_option linter.unusedSimpArgs false

theorem open_asks {H : Type} {enc : TypeId × Value → H} {P : Program} {W : World} {t e i : TypeId} {f0 f1 : Field} {v : Value} {d : DataW H} {p : List MemPlace} {r : Reach} {b0 : Nat}
    (ht : P.underlying t = some (.slice e)) (he : P.underlying e = some (.struct #[f0, f1])) (ce : P.cellsOf e = 2) (o0 : f0.offset = 0) (o1 : f1.offset = 1) (t0 : f0.type = i) (t1 : f1.type = i)
    (hi : P.underlying i = some (.int .i64)) (ci : P.cellsOf i = 1) (hval : Value.okWide P W r b0 t v)
    (h : DataW.Trod enc P W 0 (fun _ => true) true t v d p) :
    ∃ A n c xs, v = .slice A n c ∧ Asks W A n xs := by
  obtain ⟨a0, len0, cap0, rfl⟩ := okWide_slice ht hval
  obtain ⟨fuel, hf⟩ := h
  rcases open_slice_pairs ht he ce o0 o1 (by rw [t0]; exact ci) (by rw [t1]; exact ci) hf with ⟨hcs, _⟩ | ⟨a, l, c, m, n, V0, V1, D0, D1, P0, P1, hcs, _, hl, hm, hmm, hx, hcell⟩
  · simp [Value.cells] at hcs
    obtain ⟨rfl, rfl, rfl⟩ := hcs
    exact ⟨_, _, _, [], rfl, ⟨rfl, by omega⟩, fun h => by omega, fun x hx => by cases hx⟩
  · simp [Value.cells] at hcs
    obtain ⟨rfl, rfl, rfl⟩ := hcs
    simp only [if_true] at hmm
    have hz : ∀ i, i < len0 → ∃ y0 y1 : Int, V0 i = .int .i64 y0 ∧ V1 i = .int .i64 y1 ∧ (-9223372036854775808 ≤ y0 ∧ y0 ≤ 9223372036854775807) ∧ (-9223372036854775808 ≤ y1 ∧ y1 ≤ 9223372036854775807) := by
      intro i hi'
      obtain ⟨_, _, h3, h4⟩ := hcell i (by omega)
      rw [t0] at h3
      rw [t1] at h4
      obtain ⟨y0, hy0, _, hw0⟩ := DataW.trod_int hi h3
      obtain ⟨y1, hy1, _, hw1⟩ := DataW.trod_int hi h4
      simp only [List.cons.injEq, and_true] at hy0 hy1
      refine ⟨y0, y1, hy0, hy1, ?_, ?_⟩
      · simpa [Lit.wf, IntKind.min, IntKind.max, IntKind.signed, IntKind.bits] using hw0
      · simpa [Lit.wf, IntKind.min, IntKind.max, IntKind.signed, IntKind.bits] using hw1
    refine ⟨_, _, _, (List.range len0).map fun i => (match V0 i with | .int _ y => y | _ => 0, match V1 i with | .int _ y => y | _ => 0), rfl, ⟨by simp, ?_⟩, fun hp => ?_, ?_⟩
    · unfold maxLen at hm; omega
    · obtain ⟨b, off, spot⟩ := a
      have hc0 := (hcell 0 (by omega)).1
      have hspot : spot = none := by simpa [Addr.add] using World.cell?_spot hc0
      subst hspot
      refine ⟨b, off, rfl, fun j hj => ?_⟩
      simp only [List.length_map, List.length_range] at hj
      obtain ⟨h1, h2, _, _⟩ := hcell j (by omega)
      obtain ⟨y0, y1, e0, e1, _, _⟩ := hz j hj
      rw [Addr.add_lit] at h1 h2
      simp only [List.getElem_map, List.getElem_range, e0, e1]
      exact ⟨by rw [h1, e0], by rw [← Nat.add_assoc] at h2; rw [h2, e1]⟩
    · intro x hx
      obtain ⟨j, hj, rfl⟩ := List.mem_map.1 hx
      obtain ⟨y0, y1, e0, e1, hb0, hb1⟩ := hz j (by simpa using hj)
      simp only [e0, e1]
      exact ⟨hb0, hb1⟩

theorem octetReads_walk (w : World) (A : Option Addr) (n c : Nat) (bs : List UInt8) (hb : Bytes w (.slice A n c) bs) (hl : bs.length = n) (hn : n ≤ 140737488351232)
    (Aa : Option Addr) (na ca : Nat) (qs : List (Int × Int)) (hq : Asks w Aa na qs) :
    Calls Try.prog 7 #[.slice A n c, .slice Aa na ca] w fun e w' => e = .returned (.bool true) ∧ Below w.heap.size w w' :=
  (octetReads_core w A n c bs hb hl (by omega) Aa na ca qs hq).mono fun e w' h => ⟨h.1, h.2.below⟩
end Go.Proofs.Ytikfplfhndhjbaa
