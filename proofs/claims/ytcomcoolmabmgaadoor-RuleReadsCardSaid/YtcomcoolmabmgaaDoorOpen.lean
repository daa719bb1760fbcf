/-
  How arguments that came in are read: a slice of bytes.
-/
import Derived.Test.YtcomcoolmabmgaaDoorRep
import Derived.ProofKit
import Derived.OpenShut
import Derived.ShutString
import Derived.ChangeOld
import Derived.SizedLaws
namespace Go.Proofs.YtcomcoolmabmgaaDoor
open Go.ChangeShapes Go.WideShapes Go.ChangeAt Go.RowKit
open Go.ChangeMaps (open_string shut_string)
set_option linter.unusedVariables false
set_option linter.unusedSimpArgs false

theorem own : ownKnob Tryd.prog.godebug = none := by kernel_rfl
theorem laidOut : laidOutB Tryd.prog = true := by kernel_rfl

theorem open_bytes {H : Type} {enc : TypeId × Value → H} {P : Program} {W : World} {t e : TypeId} {v : Value} {d : DataW H} {p : List MemPlace} {r : Reach} {b0 : Nat}
    (ht : P.underlying t = some (.slice e)) (he : P.underlying e = some (.int .u8)) (hc : P.cellsOf e = 1) (hval : Value.okWide P W r b0 t v)
    (h : DataW.Trod enc P W 0 (fun _ => true) true t v d p) :
    ∃ A n c xs, v = .slice A n c ∧ Bytes W (.slice A n c) xs ∧ xs.length = n ∧ (n = 0 ∨ ∃ elems spare, d = .slice elems spare ∧ elems.length = n) := by
  obtain ⟨a0, len0, cap0, rfl⟩ := okWide_slice ht hval
  obtain ⟨fuel, hf⟩ := h
  rcases open_ints ht he hc hf with ⟨hcs, _⟩ | ⟨x, l, c, zs, hcs, _, hl, hm, hz, hx, hcell, hwz⟩
  · simp [Value.cells] at hcs
    obtain ⟨rfl, rfl, rfl⟩ := hcs
    exact ⟨_, _, _, [], rfl, Bytes.nil W, rfl, .inl rfl⟩
  · simp [Value.cells] at hcs
    obtain ⟨rfl, rfl, rfl⟩ := hcs
    simp only [if_true] at hz
    have hzl : (zs.take len0).length = len0 := by rw [List.length_take]; omega
    refine ⟨_, _, _, (zs.take len0).map (fun z => UInt8.ofNat z.toNat), rfl, ?_, by simpa using hzl, .inr ⟨_, _, (Prod.mk.inj hx).1, by rw [lits, List.length_map]; exact hzl⟩⟩
    refine ⟨_, _, by rw [List.length_map, hzl], by rw [List.length_map, hzl]; exact hl, hm, fun hp => ?_⟩
    have hpos : 0 < zs.length := by
      simp only [length_u8s, List.length_map, List.length_take] at hp
      omega
    obtain ⟨b, off, spot⟩ := x
    have hc0 := hcell 0 hpos
    have hspot : spot = none := by simpa [Addr.add] using World.cell?_spot hc0
    subst hspot
    refine ⟨b, off, rfl, fun j u hj => ?_⟩
    have hjl : j < len0 := by
      have := (List.getElem?_eq_some_iff.1 hj).1
      simp only [length_u8s, List.length_map, hzl] at this
      exact this
    have hcj := hcell j (by omega)
    rw [Addr.add_lit] at hcj
    rw [hcj]
    have hzj : zs.getD j 0 ∈ zs := by
      simp only [List.getD, List.getElem?_eq_getElem (show j < zs.length by omega), Option.getD_some]
      exact List.getElem_mem _
    have hw := hwz _ hzj
    have hb : 0 ≤ zs.getD j 0 ∧ zs.getD j 0 ≤ 255 := by simpa [Lit.wf, IntKind.min, IntKind.max, IntKind.signed, IntKind.bits] using hw
    rw [u8s_get _ _ (by rw [List.length_map, hzl]; exact hjl)] at hj
    simp only [List.getElem_map, List.getElem_take] at hj
    rw [← hj]
    have hg : zs[j]'(by omega) = zs.getD j 0 := by simp [List.getD, List.getElem?_eq_getElem (show j < zs.length by omega)]
    rw [hg]
    generalize zs.getD j 0 = z at hb
    congr 2
    rw [UInt8.toNat_ofNat']
    omega

theorem bytes_sized {H : Type} {P : Program} {ts : List TypeId} {ds : List (DataW H)} (h : (DataW.weightsEach P ts ds).all (· ≤ reachBytes) = true) {j n : Nat} {t e : TypeId} {d : DataW H}
    (ht : ts[j]? = some t) (hd : ds[j]? = some d) (hu : P.underlying t = some (.slice e)) (hb : P.bytesOf e = 1) (hn : n = 0 ∨ ∃ elems spare, d = .slice elems spare ∧ elems.length = n) : n ≤ 140737488351232 := by
  rcases hn with rfl | ⟨elems, spare, rfl, rfl⟩
  · omega
  · have := sized_slice h ht hd hu
    rw [hb] at this
    simp only [reachBytes] at this
    omega
theorem text_sized {H : Type} {P : Program} {ts : List TypeId} {ds : List (DataW H)} (h : (DataW.weightsEach P ts ds).all (· ≤ reachBytes) = true) {j : Nat} {t : TypeId} {s : ByteArray}
    (ht : ts[j]? = some t) (hd : ds[j]? = some (.lit (.string s.data.toList))) : s.size ≤ 140737488351232 := by
  have := sized_string h ht hd
  rw [size_list] at this
  simpa [reachBytes] using this
end Go.Proofs.YtcomcoolmabmgaaDoor
