/-
  Structs that came in: whatever number of one-cell fields; commits; entries.
-/
import Derived.Test.YtkmnkbmmgopldaaB10
import Derived.Lib.SmallJoins
import Derived.Deep.Slices
import Derived.Deep.Fields
namespace Go.Proofs.Ytkmnkbmmgopldaa
open Go.Joins Go.ChangeShapes Go.WideShapes Go.ChangeAt Go.RowKit Go.Deep
set_option linter.unusedVariables false
set_option linter.unusedSimpArgs false
set_option maxRecDepth 100000

theorem take_one {α : Type} (l : List α) (i : Nat) (u : α) (h : l[i]? = some u) : (l.drop i).take 1 = [u] := by
  have hi := (List.getElem?_eq_some_iff.1 h).1
  rw [List.drop_eq_getElem_cons hi, List.take_succ_cons, List.take_zero]
  rw [List.getElem?_eq_getElem hi] at h
  rw [Option.some.inj h]
/-- A struct by value: its fields' cells, each with what it reads as. -/
theorem open_fields {H : Type} {enc : TypeId × Value → H} {P : Program} {W : World} {t : TypeId} {v : Value} {d : DataW H} {p : List MemPlace} {r : Reach} {b0 : Nat} {fs : Array Field}
    (ht : P.underlying t = some (.struct fs)) (hone : oneCellFields P fs = true) (hC : P.cellsOf t = fs.size) (hval : Value.okWide P W r b0 t v) (h : DataW.Trod enc P W 0 (fun _ => true) true t v d p) :
    ∃ cs : Array Value, v = .agg cs ∧ cs.size = fs.size ∧ ∀ (i : Nat) (f : Field), fs[i]? = some f → ∃ (u : Value) (y : DataW H × List MemPlace) (n : Nat), cs[i]? = some u ∧ DataW.trod enc P W 0 (fun _ => true) true n f.type [u] = some y := by
  obtain ⟨cs, rfl, hsz⟩ := okWide_struct ht hval
  obtain ⟨fuel, hf⟩ := h
  obtain ⟨ys, n, -, -, hlen, hyl, hfd⟩ := DataW.trod_struct ht hf
  refine ⟨cs, rfl, hsz.trans hC, fun i f hi => ?_⟩
  obtain ⟨o, k⟩ := hone_of hone i f hi
  have hil : i < fs.size := (Array.getElem?_eq_some_iff.1 hi).1
  have hic : i < cs.size := by rw [hsz, hC]; exact hil
  have hiy : i < ys.length := by rw [hyl]; exact hil
  have h1 := hfd i f hi
  rw [o, k, take_one _ i (cs[i]'hic) (by simp [Value.cells, hic]), List.getElem?_eq_getElem hiy] at h1
  exact ⟨_, _, n, Array.getElem?_eq_getElem hic, h1⟩

theorem read_u64s {H : Type} {enc : TypeId × Value → H} {P : Program} {W : World} {t e : TypeId} {v : Value} {fuel : Nat} {y : DataW H × List MemPlace}
    (ht : P.underlying t = some (.slice e)) (he : P.underlying e = some (.int .u64)) (hc : P.cellsOf e = 1) (hf : DataW.trod enc P W 0 (fun _ => true) true fuel t [v] = some y) :
    ∃ A n c xs, v = .slice A n c ∧ Sl u64v W (.slice A n c) xs ∧ (∀ x ∈ xs, x < 18446744073709551616) ∧ n ≤ maxLen := by
  rcases open_ints ht he hc hf with ⟨hcs, _⟩ | ⟨x, l, c, zs, hcs, _, hl, hm, hz, hx, hcell, hwz⟩
  · cases hcs
    exact ⟨_, _, _, [], rfl, Holds.nil W, (fun x hx => by cases hx), by unfold maxLen; omega⟩
  · cases hcs
    simp only [if_true] at hz
    have hzl : (zs.take l).length = l := by rw [List.length_take]; omega
    have hwf : ∀ z ∈ zs, 0 ≤ z ∧ z ≤ 18446744073709551615 := fun z hzm => by simpa [Lit.wf, IntKind.min, IntKind.max, IntKind.signed, IntKind.bits] using hwz z hzm
    refine ⟨_, _, _, (zs.take l).map Int.toNat, rfl, ?_, ?_, by omega⟩
    · refine ⟨_, _, by rw [List.length_map, hzl], by rw [List.length_map, hzl]; exact hl, hm, fun hp => ?_⟩
      have hpos : 0 < zs.length := by
        simp only [List.length_map, List.length_take] at hp
        omega
      obtain ⟨b, off, spot⟩ := x
      have hc0 := hcell 0 hpos
      have hspot : spot = none := by simpa [Addr.add] using World.cell?_spot hc0
      subst hspot
      refine ⟨b, off, rfl, fun j u hj => ?_⟩
      have hjl : j < l := by
        have := (List.getElem?_eq_some_iff.1 hj).1
        simp only [List.length_map, hzl] at this
        exact this
      have hcj := hcell j (by omega)
      rw [Addr.add_lit] at hcj
      rw [hcj]
      have hzj : zs.getD j 0 ∈ zs := by
        simp only [List.getD, List.getElem?_eq_getElem (show j < zs.length by omega), Option.getD_some]
        exact List.getElem_mem _
      have hb := hwf _ hzj
      rw [List.getElem?_eq_getElem (by simp only [List.length_map, hzl]; exact hjl)] at hj
      simp only [List.getElem_map, List.getElem_take, Option.some.injEq] at hj
      rw [← hj]
      have hg : zs[j]'(by omega) = zs.getD j 0 := by simp [List.getD, List.getElem?_eq_getElem (show j < zs.length by omega)]
      rw [hg, u64v]
      congr 2
      omega
    · intro x hx
      obtain ⟨z, hz, rfl⟩ := List.mem_map.1 hx
      have := hwf z (List.mem_of_mem_take hz)
      omega


theorem open_commit {H : Type} {enc : TypeId × Value → H} {W : World} {v : Value} {d : DataW H} {p : List MemPlace} {r : Reach} {b0 : Nat}
    (hval : Value.okWide Try.prog W r b0 27 v) (h : DataW.Trod enc Try.prog W 0 (fun _ => true) true 27 v d p) :
    ∃ (t : Nat) (A : Option Addr) (n c : Nat) (ps : List Nat) (a : ByteArray) (dt : Int) (x : ByteArray), v = .agg #[.int .u64 (t : Int), .slice A n c, .string a, .int .i64 dt, .string x] ∧ Sl u64v W (.slice A n c) ps ∧ (∀ q ∈ ps, q < 18446744073709551616) ∧
      t < 18446744073709551616 ∧ n ≤ maxLen ∧ a.size ≤ maxLen ∧ x.size ≤ maxLen ∧ -9223372036854775808 ≤ dt ∧ dt ≤ 9223372036854775807 := by
  obtain ⟨cs, rfl, hsz, hf⟩ := open_fields Try.underlying27 (by kernel_rfl) (by kernel_rfl) hval h
  obtain ⟨u0, y0, n0, e0, h0⟩ := hf 0 _ rfl
  obtain ⟨u1, y1, n1, e1, h1⟩ := hf 1 _ rfl
  obtain ⟨u2, y2, n2, e2, h2⟩ := hf 2 _ rfl
  obtain ⟨u3, y3, n3, e3, h3⟩ := hf 3 _ rfl
  obtain ⟨u4, y4, n4, e4, h4⟩ := hf 4 _ rfl
  obtain ⟨t, q0, -, w0⟩ := DataW.trod_int Try.underlying24 h0
  obtain ⟨A, n, c, ps, rfl, s1, s2, s3⟩ := read_u64s Try.underlying25 Try.underlying24 (by kernel_rfl) h1
  obtain ⟨a, q2, -, w2⟩ := DataW.trod_string Try.underlying9 h2
  obtain ⟨dt, q3, -, w3⟩ := DataW.trod_int Try.underlying2 h3
  obtain ⟨x, q4, -, w4⟩ := DataW.trod_string Try.underlying9 h4
  cases q0
  cases q2
  cases q3
  cases q4
  have hw0 : 0 ≤ t ∧ t ≤ 18446744073709551615 := by simpa [Lit.wf, IntKind.min, IntKind.max, IntKind.signed, IntKind.bits] using w0
  have hw3 : -9223372036854775808 ≤ dt ∧ dt ≤ 9223372036854775807 := by simpa [Lit.wf, IntKind.min, IntKind.max, IntKind.signed, IntKind.bits] using w3
  refine ⟨t.toNat, A, n, c, ps, a, dt, x, ?_, s1, s2, by omega, s3, w2, w4, hw3.1, hw3.2⟩
  have ht : ((t.toNat : Nat) : Int) = t := by omega
  rw [ht]
  obtain ⟨l⟩ := cs
  match l, hsz with
  | [c0, c1, c2, c3, c4], _ =>
    simp at e0 e1 e2 e3 e4
    rw [e0, e1, e2, e3, e4]
end Go.Proofs.Ytkmnkbmmgopldaa
