/-
  S10, Op2: in one text.
-/
import Derived.Test.YtccphnkdnifpfaaBa8
import Derived.Test.YtccphnkdnifpfaaBa7
import Derived.Test.YtccphnkdnifpfaaBa1
import Derived.Deep.Matrix
namespace Go.Proofs.Ytccphnkdnifpfaa
set_option linter.unnecessarySimpa false
open Go.RowKit Go.Shelf
set_option linter.unusedVariables false
set_option linter.unusedSimpArgs false
set_option maxRecDepth 100000

theorem swrites_calls (w : World) (S : Nat → Prop) (base s mp j d m wr : Nat) (th : Bool) (ps : List (List UInt8)) (h : SD w S base s mp j d m wr th ps) :
    Calls Try.prog 14 #[.pointer (some ⟨d, 0, none⟩)] w fun e w' => e = .returned (.int .i64 (wr : Int)) ∧ Chg No w w' := by
  obtain ⟨v, SJ, -, hJ, -⟩ := h
  obtain ⟨A, n, c, AP, np, cp, AF, nf, cf, g1, g2, _⟩ := hJ
  exact writes_calls w d _ _ _ g2
theorem findI_snoc : ∀ {l : List Nat} {i : Nat}, findI i l = none → findI i (l ++ [i]) = some l.length
  | [], i, _ => by rw [List.nil_append, findI, if_pos rfl]; rfl
  | x :: r, i, h => by
    rw [findI] at h
    split at h
    · cases h
    · rename_i hx
      rw [List.cons_append, findI, if_neg hx, findI_snoc (by simpa using h)]
      rfl
theorem getD_snoc (l : List (List UInt8)) (x : List UInt8) : (l ++ [x]).getD l.length [] = x := by
  rw [List.getD, List.getElem?_append_right (Nat.le_refl _)]
  simp
theorem getD_mem (l : List (List UInt8)) (k : Nat) (h : k < l.length) : l.getD k [] ∈ l := by
  rw [List.getD, List.getElem?_eq_getElem h]
  exact List.getElem_mem h
theorem scopy_own {w w1 : World} {vb : Value} {p : List UInt8} {q : Nat} (hown : w1.ownsRow w.heap.size 5 1 vb (0 + q) (u8s [] ++ u8s p)) (hg : (w.alloc (.cells #[] 5)).grownBy w1 (Value.slice (some ⟨w.heap.size, 0, none⟩) 0 0).ownBlock) : OwnB w1 w.heap.size vb p ∧ Chg No w w1 := by
  refine ⟨.of hown (by simp [u8s]), (((Chg.refl No w).alloc _).mono (fun _ _ x => x)).grown hg (fun k hk => ?_)⟩
  simp [Value.ownBlock] at hk
  left; omega
/-- Does a list have a row unlike b? -/
def unlike (b : List UInt8) : List (List UInt8) → Bool
  | [] => false
  | c :: r => decide (c ≠ b) || unlike b r
theorem unlike_app (b : List UInt8) : ∀ (x y : List (List UInt8)), unlike b (x ++ y) = (unlike b x || unlike b y)
  | [], y => rfl
  | c :: x, y => by rw [List.cons_append, unlike, unlike, unlike_app b x y, Bool.or_assoc]
theorem unlike_mem (b : List UInt8) : ∀ {x : List (List UInt8)} {c : List UInt8}, c ∈ x → c ≠ b → unlike b x = true
  | y :: r, c, h, hc => by
    rw [unlike, Bool.or_eq_true]
    rcases List.mem_cons.1 h with rfl | h
    · exact .inl (decide_eq_true hc)
    · exact .inr (unlike_mem b h hc)
theorem neS (a b : List UInt8) : ((mkS a).toList != (mkS b).toList) = decide (a ≠ b) := by
  rw [Lib.toList_data, Lib.toList_data, mkS_list, mkS_list]
  by_cases h : a = b
  · simp [h]
  · simp [h]
end Go.Proofs.Ytccphnkdnifpfaa

namespace Go.Proofs.Ytccphnkdnifpfaa
set_option linter.unnecessarySimpa false
open Go.Deep Go.ChangeShapes Go.WideShapes Go.ChangeAt Go.RowKit
set_option linter.unusedVariables false
set_option linter.unusedSimpArgs false

def toBs (zs : List Int) : List UInt8 := zs.map fun z => UInt8.ofNat z.toNat
theorem bytes_row {w : World} {A : Option Addr} {L C : Nat} {Z : List Int} (hlc : L ≤ C) (hcm : C ≤ maxLen) (hz : Z.length = C) (hw : ∀ n ∈ Z, (Lit.int .u8 n).wf = true) (hn : A = none → C = 0)
    (hc : ∀ a', A = some a' → ∀ c, c < C → w.cell? (a'.add c) = some (.int .u8 (Z.getD c 0))) : Bytes w (.slice A L C) (toBs (Z.take L)) := by
  have hl : (toBs (Z.take L)).length = L := by simp only [toBs, List.length_map, List.length_take]; omega
  refine ⟨A, C, by rw [hl], by rw [hl]; exact hlc, hcm, fun hp => ?_⟩
  have hL : 0 < L := by rw [length_u8s, hl] at hp; exact hp
  cases A with
  | none => have := hn rfl; omega
  | some a =>
    have h0 := hc a rfl 0 (by omega)
    obtain ⟨b, off, spot⟩ := a
    have hspot : spot = none := by simpa [Addr.add] using World.cell?_spot h0
    subst hspot
    refine ⟨b, off, rfl, fun j u hj => ?_⟩
    have hjl : j < L := by
      have := (List.getElem?_eq_some_iff.1 hj).1
      rw [length_u8s, hl] at this; exact this
    have hcj := hc _ rfl j (by omega)
    rw [Addr.add_lit] at hcj
    rw [hcj]
    have hzj : Z.getD j 0 ∈ Z := by
      simp only [List.getD, List.getElem?_eq_getElem (show j < Z.length by omega), Option.getD_some]
      exact List.getElem_mem _
    have hwj := hw _ hzj
    have hb : 0 ≤ Z.getD j 0 ∧ Z.getD j 0 ≤ 255 := by simpa [Lit.wf, IntKind.min, IntKind.max, IntKind.signed, IntKind.bits] using hwj
    rw [u8s_get _ _ (by rw [hl]; exact hjl)] at hj
    simp only [toBs, List.getElem_map, List.getElem_take] at hj
    rw [← hj]
    have hg : Z[j]'(by omega) = Z.getD j 0 := by simp [List.getD, List.getElem?_eq_getElem (show j < Z.length by omega)]
    rw [hg]
    generalize Z.getD j 0 = z at hb
    congr 2
    rw [UInt8.toNat_ofNat']
    omega

theorem open_rows {H : Type} {enc : TypeId × Value → H} {P : Program} {W : World} {t e q : TypeId} {v : Value} {d : DataW H} {p : List MemPlace} {r : Reach} {b0 : Nat}
    (ht : P.underlying t = some (.slice e)) (he : P.underlying e = some (.slice q)) (hq : P.underlying q = some (.int .u8)) (ce : P.cellsOf e = 1) (cq : P.cellsOf q = 1) (hval : Value.okWide P W r b0 t v)
    (h : DataW.Trod enc P W 0 (fun _ => true) true t v d p) :
    ∃ A n c ls, v = .slice A n c ∧ Sl2 W (.slice A n c) ls ∧ ls.length = n ∧ (n = 0 ∨ ∃ elems spare, d = .slice elems spare ∧ elems.length = n) ∧
      ∀ l ∈ ls, l = [] ∨ ∃ elems spare es sp, d = .slice elems spare ∧ DataW.slice es sp ∈ elems ∧ es.length = l.length := by
  obtain ⟨a0, len0, cap0, rfl⟩ := okWide_slice ht hval
  obtain ⟨fuel, hf⟩ := h
  rcases open_int_rows ht he hq ce cq hf with ⟨hcs, _⟩ | ⟨a, len, cap, A, L, C, Z, hcs, _, hl, hm, hx, hcell⟩
  · simp [Value.cells] at hcs
    obtain ⟨rfl, rfl, rfl⟩ := hcs
    exact ⟨_, _, _, [], rfl, ⟨[], rfl, Holds.nil W, fun i h => by simp at h⟩, rfl, .inl rfl, fun l hl => by cases hl⟩
  · simp [Value.cells] at hcs
    obtain ⟨rfl, rfl, rfl⟩ := hcs
    have hd := (Prod.mk.inj hx).1
    refine ⟨_, _, _, (List.range len0).map (fun r => toBs ((Z r).take (L r))), rfl, ⟨(List.range len0).map (fun r => Value.slice (A r) (L r) (C r)), by simp, ?_, ?_⟩, by simp, .inr ⟨_, _, hd, by simp⟩, ?_⟩
    · have e1 : ((List.range len0).map (fun r => toBs ((Z r).take (L r)))).length = len0 := by simp
      rw [e1]
      refine ⟨_, _, rfl, hl, hm, fun hp => ?_⟩
      have hpos : 0 < cap0 := by simp at hp; omega
      have h0 := (hcell 0 hpos).1
      obtain ⟨b, off, spot⟩ := a
      have hspot : spot = none := by simpa [Addr.add] using World.cell?_spot h0
      subst hspot
      refine ⟨b, off, rfl, fun j u hj => ?_⟩
      have hjl : j < len0 := by
        have := (List.getElem?_eq_some_iff.1 hj).1
        simpa using this
      have hcj := (hcell j (by omega)).1
      rw [Addr.add_lit] at hcj
      rw [hcj, ← hj]
      simp [hjl]
    · intro i hi hi'
      have hil : i < len0 := by simpa using hi
      obtain ⟨_, h2, h3, h4, h5, h6, h7⟩ := hcell i (by omega)
      simp only [List.getElem_map, List.getElem_range]
      exact bytes_row h2 h3 h4 h5 h6 (fun a' ha c hc => (h7 a' ha).2 c hc)
    · intro l hml
      obtain ⟨r, hr, rfl⟩ := List.mem_map.1 hml
      have hrl : r < len0 := List.mem_range.1 hr
      obtain ⟨_, h2, h3, h4, h5, h6, h7⟩ := hcell r (by omega)
      have hll : (toBs ((Z r).take (L r))).length = L r := by simp only [toBs, List.length_map, List.length_take]; omega
      cases hA : A r with
      | none =>
        have := h6 hA
        exact .inl (List.eq_nil_of_length_eq_zero (by rw [hll]; omega))
      | some a' =>
        right
        refine ⟨_, _, lits .u8 ((Z r).take (L r)), lits .u8 ((Z r).drop (L r)), hd, List.mem_map.2 ⟨r, hr, by simp only [intRow, hA]⟩, ?_⟩
        rw [hll, lits, List.length_map, List.length_take]
        omega

theorem weightsAll_mem {H : Type} {P : Program} {e : TypeId} {x : DataW H} : ∀ {l : List (DataW H)}, x ∈ l → ∀ n ∈ x.weights P e, n ∈ DataW.weightsAll P e l
  | d :: r, h, n, hn => by
    simp only [DataW.weightsAll, List.mem_append]
    rcases List.mem_cons.1 h with rfl | h
    · exact .inl hn
    · exact .inr (weightsAll_mem h n hn)
theorem rows_sized {H : Type} {P : Program} {ts : List TypeId} {ds : List (DataW H)} (h : (DataW.weightsEach P ts ds).all (· ≤ reachBytes) = true) {j n : Nat} {t e q : TypeId} {d : DataW H} {ls : List (List UInt8)}
    (ht : ts[j]? = some t) (hd : ds[j]? = some d) (hu : P.underlying t = some (.slice e)) (hu2 : P.underlying e = some (.slice q)) (hb : P.bytesOf e = 24) (hb2 : P.bytesOf q = 1) (hn : n = 0 ∨ ∃ elems spare, d = .slice elems spare ∧ elems.length = n)
    (hl : ∀ l ∈ ls, l = [] ∨ ∃ elems spare es sp, d = .slice elems spare ∧ DataW.slice es sp ∈ elems ∧ es.length = l.length) : n * 24 ≤ 140737488351232 ∧ ∀ l ∈ ls, l.length ≤ 140737488351232 := by
  constructor
  · rcases hn with rfl | ⟨elems, spare, rfl, rfl⟩
    · omega
    · have := sized_slice h ht hd hu
      rw [hb] at this
      simp only [reachBytes] at this
      omega
  · intro l hml
    rcases hl l hml with rfl | ⟨elems, spare, es, sp, rfl, hm, he⟩
    · simp
    · have h1 : (es.length + sp.length) * 1 ∈ (DataW.slice es sp).weights P e := by simp [DataW.weights, hu2, hb2]
      have h2 : (es.length + sp.length) * 1 ∈ (DataW.slice elems spare).weights P t := by
        simp only [DataW.weights, hu, List.mem_cons, List.mem_append]
        exact .inr (.inl (weightsAll_mem hm _ h1))
      have h3 : (es.length + sp.length) * 1 ≤ reachBytes := by simpa using List.all_eq_true.1 h _ (DataW.weights_mem_each ht hd _ h2)
      simp only [reachBytes] at h3
      omega
end Go.Proofs.Ytccphnkdnifpfaa

