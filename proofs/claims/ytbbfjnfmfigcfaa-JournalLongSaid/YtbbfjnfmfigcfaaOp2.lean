/-
  How a slice of slices of bytes that came in is read.
-/
import Derived.Test.YtbbfjnfmfigcfaaJ11
import Derived.Test.YtbbfjnfmfigcfaaOpen
import Derived.Deep.Matrix
namespace Go.Proofs.Ytbbfjnfmfigcfaa
open Go.Deep Go.ChangeShapes Go.WideShapes Go.ChangeAt Go.RowKit
set_option linter.unusedVariables false
set_option linter.unusedSimpArgs false

def toBs (zs : List Int) : List UInt8 := zs.map fun z => UInt8.ofNat z.toNat
theorem bytes_row {w : World} {A : Option Addr} {L C : Nat} {Z : List Int} (hlc : L ≤ C) (hcm : C ≤ maxLen) (hz : Z.length = C) (hw : ∀ n ∈ Z, (Lit.int .u8 n).wf = true) (hn : A = none → C = 0)
    (hc : ∀ a', A = some a' → ∀ c, c < C → w.cell? (a'.add c) = some (.int .u8 (Z.getD c 0))) : Bytes w (.slice A L C) (toBs (Z.take L)) := by
  have hl : (toBs (Z.take L)).length = L := by simp only [toBs, List.length_map, List.length_take]; omega
  refine ⟨A, C, by rw [hl], by rw [hl]; exact hlc, hcm, fun hp => ?_⟩
  have hL : 0 < L := by rw [length_u8s, hl] at hp; exact hp
  cases A with
  | none => have := hn rfl; omega
  | some a =>
    have h0 := hc a rfl 0 (by omega)
    obtain ⟨b, off, spot⟩ := a
    have hspot : spot = none := by simpa [Addr.add] using World.cell?_spot h0
    subst hspot
    refine ⟨b, off, rfl, fun j u hj => ?_⟩
    have hjl : j < L := by
      have := (List.getElem?_eq_some_iff.1 hj).1
      rw [length_u8s, hl] at this; exact this
    have hcj := hc _ rfl j (by omega)
    rw [Addr.add_lit] at hcj
    rw [hcj]
    have hzj : Z.getD j 0 ∈ Z := by
      simp only [List.getD, List.getElem?_eq_getElem (show j < Z.length by omega), Option.getD_some]
      exact List.getElem_mem _
    have hwj := hw _ hzj
    have hb : 0 ≤ Z.getD j 0 ∧ Z.getD j 0 ≤ 255 := by simpa [Lit.wf, IntKind.min, IntKind.max, IntKind.signed, IntKind.bits] using hwj
    rw [u8s_get _ _ (by rw [hl]; exact hjl)] at hj
    simp only [toBs, List.getElem_map, List.getElem_take] at hj
    rw [← hj]
    have hg : Z[j]'(by omega) = Z.getD j 0 := by simp [List.getD, List.getElem?_eq_getElem (show j < Z.length by omega)]
    rw [hg]
    generalize Z.getD j 0 = z at hb
    congr 2
    rw [UInt8.toNat_ofNat']
    omega

theorem open_rows {H : Type} {enc : TypeId × Value → H} {P : Program} {W : World} {t e q : TypeId} {v : Value} {d : DataW H} {p : List MemPlace} {r : Reach} {b0 : Nat}
    (ht : P.underlying t = some (.slice e)) (he : P.underlying e = some (.slice q)) (hq : P.underlying q = some (.int .u8)) (ce : P.cellsOf e = 1) (cq : P.cellsOf q = 1) (hval : Value.okWide P W r b0 t v)
    (h : DataW.Trod enc P W 0 (fun _ => true) true t v d p) :
    ∃ A n c ls, v = .slice A n c ∧ Sl2 W (.slice A n c) ls ∧ ls.length = n ∧ (n = 0 ∨ ∃ elems spare, d = .slice elems spare ∧ elems.length = n) ∧
      ∀ l ∈ ls, l = [] ∨ ∃ elems spare es sp, d = .slice elems spare ∧ DataW.slice es sp ∈ elems ∧ es.length = l.length := by
  obtain ⟨a0, len0, cap0, rfl⟩ := okWide_slice ht hval
  obtain ⟨fuel, hf⟩ := h
  rcases open_int_rows ht he hq ce cq hf with ⟨hcs, _⟩ | ⟨a, len, cap, A, L, C, Z, hcs, _, hl, hm, hx, hcell⟩
  · simp [Value.cells] at hcs
    obtain ⟨rfl, rfl, rfl⟩ := hcs
    exact ⟨_, _, _, [], rfl, ⟨[], rfl, Holds.nil W, fun i h => by simp at h⟩, rfl, .inl rfl, fun l hl => by cases hl⟩
  · simp [Value.cells] at hcs
    obtain ⟨rfl, rfl, rfl⟩ := hcs
    have hd := (Prod.mk.inj hx).1
    refine ⟨_, _, _, (List.range len0).map (fun r => toBs ((Z r).take (L r))), rfl, ⟨(List.range len0).map (fun r => Value.slice (A r) (L r) (C r)), by simp, ?_, ?_⟩, by simp, .inr ⟨_, _, hd, by simp⟩, ?_⟩
    · have e1 : ((List.range len0).map (fun r => toBs ((Z r).take (L r)))).length = len0 := by simp
      rw [e1]
      refine ⟨_, _, rfl, hl, hm, fun hp => ?_⟩
      have hpos : 0 < cap0 := by simp at hp; omega
      have h0 := (hcell 0 hpos).1
      obtain ⟨b, off, spot⟩ := a
      have hspot : spot = none := by simpa [Addr.add] using World.cell?_spot h0
      subst hspot
      refine ⟨b, off, rfl, fun j u hj => ?_⟩
      have hjl : j < len0 := by
        have := (List.getElem?_eq_some_iff.1 hj).1
        simpa using this
      have hcj := (hcell j (by omega)).1
      rw [Addr.add_lit] at hcj
      rw [hcj, ← hj]
      simp [hjl]
    · intro i hi hi'
      have hil : i < len0 := by simpa using hi
      obtain ⟨_, h2, h3, h4, h5, h6, h7⟩ := hcell i (by omega)
      simp only [List.getElem_map, List.getElem_range]
      exact bytes_row h2 h3 h4 h5 h6 (fun a' ha c hc => (h7 a' ha).2 c hc)
    · intro l hml
      obtain ⟨r, hr, rfl⟩ := List.mem_map.1 hml
      have hrl : r < len0 := List.mem_range.1 hr
      obtain ⟨_, h2, h3, h4, h5, h6, h7⟩ := hcell r (by omega)
      have hll : (toBs ((Z r).take (L r))).length = L r := by simp only [toBs, List.length_map, List.length_take]; omega
      cases hA : A r with
      | none =>
        have := h6 hA
        exact .inl (List.eq_nil_of_length_eq_zero (by rw [hll]; omega))
      | some a' =>
        right
        refine ⟨_, _, lits .u8 ((Z r).take (L r)), lits .u8 ((Z r).drop (L r)), hd, List.mem_map.2 ⟨r, hr, by simp only [intRow, hA]⟩, ?_⟩
        rw [hll, lits, List.length_map, List.length_take]
        omega

theorem weightsAll_mem {H : Type} {P : Program} {e : TypeId} {x : DataW H} : ∀ {l : List (DataW H)}, x ∈ l → ∀ n ∈ x.weights P e, n ∈ DataW.weightsAll P e l
  | d :: r, h, n, hn => by
    simp only [DataW.weightsAll, List.mem_append]
    rcases List.mem_cons.1 h with rfl | h
    · exact .inl hn
    · exact .inr (weightsAll_mem h n hn)
theorem rows_sized {H : Type} {P : Program} {ts : List TypeId} {ds : List (DataW H)} (h : (DataW.weightsEach P ts ds).all (· ≤ reachBytes) = true) {j n : Nat} {t e q : TypeId} {d : DataW H} {ls : List (List UInt8)}
    (ht : ts[j]? = some t) (hd : ds[j]? = some d) (hu : P.underlying t = some (.slice e)) (hu2 : P.underlying e = some (.slice q)) (hb : P.bytesOf e = 24) (hb2 : P.bytesOf q = 1) (hn : n = 0 ∨ ∃ elems spare, d = .slice elems spare ∧ elems.length = n)
    (hl : ∀ l ∈ ls, l = [] ∨ ∃ elems spare es sp, d = .slice elems spare ∧ DataW.slice es sp ∈ elems ∧ es.length = l.length) : n * 24 ≤ 140737488351232 ∧ ∀ l ∈ ls, l.length ≤ 140737488351232 := by
  constructor
  · rcases hn with rfl | ⟨elems, spare, rfl, rfl⟩
    · omega
    · have := sized_slice h ht hd hu
      rw [hb] at this
      simp only [reachBytes] at this
      omega
  · intro l hml
    rcases hl l hml with rfl | ⟨elems, spare, es, sp, rfl, hm, he⟩
    · simp
    · have h1 : (es.length + sp.length) * 1 ∈ (DataW.slice es sp).weights P e := by simp [DataW.weights, hu2, hb2]
      have h2 : (es.length + sp.length) * 1 ∈ (DataW.slice elems spare).weights P t := by
        simp only [DataW.weights, hu, List.mem_cons, List.mem_append]
        exact .inr (.inl (weightsAll_mem hm _ h1))
      have h3 : (es.length + sp.length) * 1 ≤ reachBytes := by simpa using List.all_eq_true.1 h _ (DataW.weights_mem_each ht hd _ h2)
      simp only [reachBytes] at h3
      omega
end Go.Proofs.Ytbbfjnfmfigcfaa
