/-
  Slices of one-cell elements that came in: numbers of 64 bits, texts.
-/
import Derived.Test.YtcomcoolmabmgaaDoorOpen
import Derived.SliceStrings
namespace Go.Proofs.YtcomcoolmabmgaaDoor
open Go.ChangeShapes Go.WideShapes Go.ChangeAt Go.RowKit
set_option linter.unusedVariables false
set_option linter.unusedSimpArgs false

/-- A slice whose elements are told by enc, one cell each. -/
def Sl {α : Type} (enc : α → Value) (w : World) (v : Value) (xs : List α) : Prop := Holds w v xs.length (xs.map enc)
theorem Sl.no {α : Type} {enc : α → Value} {w w' : World} {v : Value} {xs : List α} (h : Sl enc w v xs) (hc : Chg No w w') : Sl enc w' v xs := Holds.no h hc
theorem Sl.chg {α : Type} {enc : α → Value} {S : Nat → Prop} {w w' : World} {v : Value} {xs : List α} (h : Sl enc w v xs) (hc : Chg S w w') (hs : ∀ b, v.ownBlock = some b → ¬ S b) : Sl enc w' v xs := Holds.chg h hc hs
theorem Sl.addr {α : Type} {enc : α → Value} {w : World} {A : Option Addr} {n c : Nat} {xs : List α} (h : Sl enc w (.slice A n c) xs) (hp : 0 < xs.length) :
    ∃ b o, A = some ⟨b, o, none⟩ ∧ ∀ j (hj : j < xs.length), w.cell? ⟨b, o + j, none⟩ = some (enc xs[j]) := by
  obtain ⟨A', c', he, hn, hm, hx⟩ := h
  simp only [Value.slice.injEq] at he
  obtain ⟨rfl, rfl, rfl⟩ := he
  obtain ⟨b, o, rfl, hc⟩ := hx (by simpa using hp)
  exact ⟨b, o, rfl, fun j hj => hc j _ (by simp [hj])⟩
theorem Sl.len {α : Type} {enc : α → Value} {w : World} {A : Option Addr} {n c : Nat} {xs : List α} (h : Sl enc w (.slice A n c) xs) : xs.length = n := by
  obtain ⟨A', c', he, hn, hm, hx⟩ := h
  simp only [Value.slice.injEq] at he
  exact he.2.1.symm

def u64v (x : Nat) : Value := .int .u64 (x : Int)
def strv (s : List UInt8) : Value := .string (mkS s)

theorem open_u64s {H : Type} {enc : TypeId × Value → H} {P : Program} {W : World} {t e : TypeId} {v : Value} {d : DataW H} {p : List MemPlace} {r : Reach} {b0 : Nat}
    (ht : P.underlying t = some (.slice e)) (he : P.underlying e = some (.int .u64)) (hc : P.cellsOf e = 1) (hval : Value.okWide P W r b0 t v)
    (h : DataW.Trod enc P W 0 (fun _ => true) true t v d p) :
    ∃ A n c xs, v = .slice A n c ∧ Sl u64v W (.slice A n c) xs ∧ (∀ x ∈ xs, x < 18446744073709551616) ∧ (n = 0 ∨ ∃ elems spare, d = .slice elems spare ∧ elems.length = n) := by
  obtain ⟨a0, len0, cap0, rfl⟩ := okWide_slice ht hval
  obtain ⟨fuel, hf⟩ := h
  rcases open_ints ht he hc hf with ⟨hcs, _⟩ | ⟨x, l, c, zs, hcs, _, hl, hm, hz, hx, hcell, hwz⟩
  · simp [Value.cells] at hcs
    obtain ⟨rfl, rfl, rfl⟩ := hcs
    exact ⟨_, _, _, [], rfl, Holds.nil W, (fun x hx => by cases hx), .inl rfl⟩
  · simp [Value.cells] at hcs
    obtain ⟨rfl, rfl, rfl⟩ := hcs
    simp only [if_true] at hz
    have hzl : (zs.take len0).length = len0 := by rw [List.length_take]; omega
    have hwf : ∀ z ∈ zs, 0 ≤ z ∧ z ≤ 18446744073709551615 := fun z hzm => by simpa [Lit.wf, IntKind.min, IntKind.max, IntKind.signed, IntKind.bits] using hwz z hzm
    refine ⟨_, _, _, (zs.take len0).map Int.toNat, rfl, ?_, ?_, .inr ⟨_, _, (Prod.mk.inj hx).1, by rw [lits, List.length_map]; exact hzl⟩⟩
    · refine ⟨_, _, by rw [List.length_map, hzl], by rw [List.length_map, hzl]; exact hl, hm, fun hp => ?_⟩
      have hpos : 0 < zs.length := by
        simp only [List.length_map, List.length_take] at hp
        omega
      obtain ⟨b, off, spot⟩ := x
      have hc0 := hcell 0 hpos
      have hspot : spot = none := by simpa [Addr.add] using World.cell?_spot hc0
      subst hspot
      refine ⟨b, off, rfl, fun j u hj => ?_⟩
      have hjl : j < len0 := by
        have := (List.getElem?_eq_some_iff.1 hj).1
        simp only [List.length_map, hzl] at this
        exact this
      have hcj := hcell j (by omega)
      rw [Addr.add_lit] at hcj
      rw [hcj]
      have hzj : zs.getD j 0 ∈ zs := by
        simp only [List.getD, List.getElem?_eq_getElem (show j < zs.length by omega), Option.getD_some]
        exact List.getElem_mem _
      have hb := hwf _ hzj
      rw [List.getElem?_eq_getElem (by simp only [List.length_map, hzl]; exact hjl)] at hj
      simp only [List.getElem_map, List.getElem_take, Option.some.injEq] at hj
      rw [← hj]
      have hg : zs[j]'(by omega) = zs.getD j 0 := by simp [List.getD, List.getElem?_eq_getElem (show j < zs.length by omega)]
      rw [hg, u64v]
      congr 2
      omega
    · intro x hx
      obtain ⟨z, hz, rfl⟩ := List.mem_map.1 hx
      have := hwf z (List.mem_of_mem_take hz)
      omega

theorem open_strs1 {H : Type} {enc : TypeId × Value → H} {P : Program} {W : World} {t e : TypeId} {v : Value} {d : DataW H} {p : List MemPlace} {r : Reach} {b0 : Nat}
    (ht : P.underlying t = some (.slice e)) (he : P.underlying e = some .string) (hc : P.cellsOf e = 1) (hval : Value.okWide P W r b0 t v)
    (h : DataW.Trod enc P W 0 (fun _ => true) true t v d p) :
    ∃ A n c xs, v = .slice A n c ∧ Sl strv W (.slice A n c) xs ∧ (xs = [] ∨ ∃ spare, d = .slice (xs.map fun s => .lit (.string s)) spare) := by
  obtain ⟨a0, len0, cap0, rfl⟩ := okWide_slice ht hval
  obtain ⟨fuel, hf⟩ := h
  rcases open_strings ht he hc hf with ⟨hcs, _⟩ | ⟨x, l, c, ss, hcs, _, hl, hm, hz, hx, hcell, _⟩
  · simp [Value.cells] at hcs
    obtain ⟨rfl, rfl, rfl⟩ := hcs
    exact ⟨_, _, _, [], rfl, Holds.nil W, .inl rfl⟩
  · simp [Value.cells] at hcs
    obtain ⟨rfl, rfl, rfl⟩ := hcs
    simp only [if_true] at hz
    have hzl : (ss.take len0).length = len0 := by rw [List.length_take]; omega
    refine ⟨_, _, _, (ss.take len0).map (fun s => s.data.toList), rfl, ?_, .inr ⟨strs (ss.drop len0), ?_⟩⟩
    · refine ⟨_, _, by rw [List.length_map, hzl], by rw [List.length_map, hzl]; exact hl, hm, fun hp => ?_⟩
      have hpos : 0 < ss.length := by
        simp only [List.length_map, List.length_take] at hp
        omega
      obtain ⟨b, off, spot⟩ := x
      have hc0 := hcell 0 hpos
      have hspot : spot = none := by simpa [Addr.add] using World.cell?_spot hc0
      subst hspot
      refine ⟨b, off, rfl, fun j u hj => ?_⟩
      have hjl : j < len0 := by
        have := (List.getElem?_eq_some_iff.1 hj).1
        simp only [List.length_map, hzl] at this
        exact this
      have hcj := hcell j (by omega)
      rw [Addr.add_lit] at hcj
      rw [hcj]
      rw [List.getElem?_eq_getElem (by simp only [List.length_map, hzl]; exact hjl)] at hj
      simp only [List.getElem_map, List.getElem_take, Option.some.injEq] at hj
      rw [← hj, strv, mkS_self]
      simp [List.getD, List.getElem?_eq_getElem (show j < ss.length by omega)]
    · rw [(Prod.mk.inj hx).1]
      simp [strs]
      rfl
end Go.Proofs.YtcomcoolmabmgaaDoor
