/-
  Ri, Op2: in one text.
-/
import Derived.Test.YtccphnkdnifpfaaBa13
import Derived.Test.YtccphnkdnifpfaaBa7
import Derived.Test.YtccphnkdnifpfaaBa1
import Derived.Deep.Matrix
namespace Go.Proofs.Ytccphnkdnifpfaa
set_option linter.unnecessarySimpa false
open Go.RowKit
set_option linter.unusedVariables false
set_option linter.unusedSimpArgs false
set_option maxRecDepth 100000

theorem dec_tree {xs : List UInt8} {l : List Ent} (h : decF xs = some (.tree l)) : asTree xs = some l := by
  obtain ⟨h1, h2, h3⟩ := dec_sound h
  have h1 : treeB l = xs := h1
  subst h1
  exact asTree_whole l h2 h3
theorem dec_commit {xs : List UInt8} {t : Nat} {ps : List Nat} {a : List UInt8} {d : Int} {x : List UInt8} (h : decF xs = some (.commit t ps a d x)) : asCommit xs = some (t, ps, a, d, x) := by
  obtain ⟨h1, h2, h3⟩ := dec_sound h
  have h1 : commitB t ps a d x = xs := h1
  have h2 : ((commitF t ps a x : Nat) : Int) = 0 := h2
  subst h1
  exact asCommit_whole t ps a d x (by omega) h3
theorem dec_blobI {xs : List UInt8} {l : List UInt8} (h : decF xs = some (.blob l)) : xs = 98 :: l ∧ l.length ≤ 4096 := by
  obtain ⟨h1, h2, h3⟩ := dec_sound h
  refine ⟨h1.symm, ?_⟩
  have h2 : (if 4096 < l.length then (3 : Int) else 0) = 0 := h2
  split at h2
  · cases h2
  · omega
theorem right_dec (xs : List UInt8) : (decF xs).isSome = ((asTree xs).isSome || (asCommit xs).isSome || (decide (0 < xs.length) && (decide (xs.getD 0 0 = 98) && decide (xs.length ≤ 4097)))) := by
  cases hd : decF xs with
  | none =>
    have h1 : asTree xs = none := by
      cases h : asTree xs with
      | none => rfl
      | some l =>
        obtain ⟨h1, h2, h3⟩ := asTree_sound h
        have := dec_whole (.tree l) h3 h2
        have e : obB (.tree l) = xs := h1.symm
        rw [e, hd] at this; cases this
    have h2 : asCommit xs = none := by
      cases h : asCommit xs with
      | none => rfl
      | some q =>
        obtain ⟨t, ps, a, d, x⟩ := q
        obtain ⟨h1, h2, h3⟩ := asCommit_sound h
        have := dec_whole (.commit t ps a d x) h3 (by show ((commitF t ps a x : Nat) : Int) = 0; rw [h2]; rfl)
        have e : obB (.commit t ps a d x) = xs := h1.symm
        rw [e, hd] at this; cases this
    rw [h1, h2]
    cases xs with
    | nil => rfl
    | cons u l =>
      by_cases hu : u = 98
      · subst hu
        by_cases hl : (98 :: l : List UInt8).length ≤ 4097
        · have := dec_whole (.blob l) trivial (by show (if 4096 < l.length then (3 : Int) else 0) = 0; rw [if_neg]; simp at hl; omega)
          have e : obB (.blob l) = 98 :: l := rfl
          rw [e, hd] at this; cases this
        · simp only [List.length_cons] at hl
          simp [hl]
      · simp [hu]
  | some o =>
    cases o with
    | blob l =>
      obtain ⟨rfl, h2⟩ := dec_blobI hd
      have : (98 :: l : List UInt8).length ≤ 4097 := by simp; omega
      simp; right; omega
    | tree l => rw [dec_tree hd]; rfl
    | commit t ps a d x => rw [dec_commit hd]; cases asTree xs <;> rfl
set_option maxHeartbeats 12800000 in
theorem refright_calls (w : World) (A : Option Addr) (n c : Nat) (xs : List UInt8) (hb : Bytes w (.slice A n c) xs) (hl : xs.length = n) (hn : n ≤ 16384) :
    Calls Try.prog 32 #[.slice A n c] w fun e w' => e = .returned (.bool (decF xs).isSome) ∧ Chg No w w' := by
  have HD := Lib.hid (right_dec xs)
  have HT : Hid (Calls Try.prog 62 #[.slice A n c] w fun e w' => ∃ A' n' c', e = .returned (.tuple #[.slice A' n' c', .bool (asTree xs).isSome]) ∧ Chg No w w') := (astree_ref w A n c xs hb hl hn).mono fun e w' ⟨A', n', c', h1, h2, h3⟩ => ⟨A', n', c', h1, h3⟩
  have HM : Hid (∀ W, Chg No w W → Calls Try.prog 63 #[.slice A n c] W fun e w' => ∃ (T : Nat) (A' : Option Addr) (n' c' : Nat) (a' : ByteArray) (D : Int) (x' : ByteArray), e = .returned (.tuple #[.agg #[.int .u64 (T : Int), .slice A' n' c', .string a', .int .i64 D, .string x'], .bool (asCommit xs).isSome]) ∧ Chg No W w') := fun W hW => (ascommit_ref W A n c xs (hb.no hW) hl hn).mono fun e w' ⟨T, A', n', c', a', D, x', h1, h2, h3⟩ => ⟨T, A', n', c', a', D, x', h1, h3⟩
  generalize (asTree xs).isSome = bt at *
  generalize (asCommit xs).isSome = bc at *
  rw [Hid, hl] at HD
  have HD := Lib.hid HD
  have HB := Lib.hid hb
  have HL := Lib.hid hl
  clear hb hl
  go_enter Try.func32, Try.ntmps32
  go_wp2_with fail
  refine HT.out.mono ?_
  rintro e w1 ⟨A1, n1, c1, rfl, hc1⟩
  have HC1 := Lib.hid hc1
  clear hc1
  go_wp2_with fail
  refine (HM.out w1 HC1.out).mono ?_
  rintro e w2 ⟨T, A2, n2, c2, a2, D, x2, rfl, hc2⟩
  have HC2 := Lib.hid (HC1.out.no hc2)
  have HC3 : Hid (Chg No w (w2.alloc (.cells #[.int .u64 (T : Int), .slice A2 n2 c2, .string a2, .int .i64 D, .string x2] 44))) := HC2.out.alloc _
  clear hc2
  cases bt with
  | true =>
    have HR : Hid ((decF xs).isSome = true) := by rw [Hid, HD.out]; rfl
    go_wp2
    exact bodyPost_ret (v := .bool true) (by simp [results, Try.results32, go_sem]) rfl ⟨by rw [HR.out], HC3.out⟩
  | false =>
    cases bc with
    | true =>
      have HR : Hid ((decF xs).isSome = true) := by rw [Hid, HD.out]; rfl
      go_wp2
      exact bodyPost_ret (v := .bool true) (by simp [results, Try.results32, go_sem]) rfl ⟨by rw [HR.out], HC3.out⟩
    | false =>
      by_cases hn0 : n = 0
      · have HR : Hid ((decF xs).isSome = false) := by rw [Hid, HD.out]; subst hn0; rfl
        have hnb : decide ((0 : Int) < (n : Int)) = false := by rw [decide_eq_false_iff_not]; omega
        go_wp2
        exact bodyPost_ret (v := .bool false) (by simp [results, Try.results32, go_sem]) rfl ⟨by rw [HR.out], HC3.out⟩
      · obtain ⟨b0, o0, rfl, hcell⟩ := HB.out.addr (by rw [HL.out]; omega)
        have hx0 := hcell 0 (by rw [HL.out]; omega)
        rw [Nat.add_zero] at hx0
        have hG0 : xs.getD 0 0 = xs[0]'(by rw [HL.out]; omega) := by simp [List.getD, show 0 < xs.length by rw [HL.out]; omega]
        generalize xs[0]'(by rw [HL.out]; omega) = u at *
        have HG0 := Lib.hid hG0
        have hx1 : (w2.alloc (.cells #[.int .u64 (T : Int), .slice A2 n2 c2, .string a2, .int .i64 D, .string x2] 44)).cell? ⟨b0, o0, none⟩ = some (.int .u8 (u.toNat : Int)) := HC3.out.cell hx0 (fun x => x)
        have hpos : decide ((0 : Int) < (n : Int)) = true := by rw [decide_eq_true_eq]; omega
        have hnn : ¬ (n : Int) ≤ 0 := by omega
        clear hcell hG0 hx0
        have HU : Hid (((u.toNat : Int) == 98) = decide (u = 98)) := by
          rw [Hid, Bool.eq_iff_iff]
          simp only [beq_iff_eq, decide_eq_true_eq]
          constructor
          · intro h; exact UInt8.toNat_inj.1 (by show u.toNat = 98; omega)
          · intro h; subst h; rfl
        have HD2 : Hid ((decF xs).isSome = (((u.toNat : Int) == 98) && decide (n ≤ 4097))) := by
          rw [Hid, HD.out, HG0.out, HU.out]
          simp; omega
        by_cases hu : ((u.toNat : Int) == 98) = true
        · by_cases hm : n ≤ 4097
          · have HR : Hid ((decF xs).isSome = true) := by rw [Hid, HD2.out, hu]; simp [hm]
            have hmb : decide ((n : Int) ≤ 4097) = true := by rw [decide_eq_true_eq]; omega
            clear hn0
            go_wp2
            exact bodyPost_ret (v := .bool true) (by simp [results, Try.results32, go_sem]) rfl ⟨by rw [HR.out], HC3.out⟩
          · have HR : Hid ((decF xs).isSome = false) := by rw [Hid, HD2.out, hu]; simp [hm]
            have hmb : decide ((n : Int) ≤ 4097) = false := by rw [decide_eq_false_iff_not]; omega
            clear hn0
            go_wp2
            exact bodyPost_ret (v := .bool false) (by simp [results, Try.results32, go_sem]) rfl ⟨by rw [HR.out], HC3.out⟩
        · have hu : ((u.toNat : Int) == 98) = false := by simpa using hu
          have HR : Hid ((decF xs).isSome = false) := by rw [Hid, HD2.out, hu]; rfl
          clear hn0
          go_wp2
          exact bodyPost_ret (v := .bool false) (by simp [results, Try.results32, go_sem]) rfl ⟨by rw [HR.out], HC3.out⟩
end Go.Proofs.Ytccphnkdnifpfaa

namespace Go.Proofs.Ytccphnkdnifpfaa
set_option linter.unnecessarySimpa false
open Go.Deep Go.ChangeShapes Go.WideShapes Go.ChangeAt Go.RowKit
set_option linter.unusedVariables false
set_option linter.unusedSimpArgs false

def toBs (zs : List Int) : List UInt8 := zs.map fun z => UInt8.ofNat z.toNat
theorem bytes_row {w : World} {A : Option Addr} {L C : Nat} {Z : List Int} (hlc : L ≤ C) (hcm : C ≤ maxLen) (hz : Z.length = C) (hw : ∀ n ∈ Z, (Lit.int .u8 n).wf = true) (hn : A = none → C = 0)
    (hc : ∀ a', A = some a' → ∀ c, c < C → w.cell? (a'.add c) = some (.int .u8 (Z.getD c 0))) : Bytes w (.slice A L C) (toBs (Z.take L)) := by
  have hl : (toBs (Z.take L)).length = L := by simp only [toBs, List.length_map, List.length_take]; omega
  refine ⟨A, C, by rw [hl], by rw [hl]; exact hlc, hcm, fun hp => ?_⟩
  have hL : 0 < L := by rw [length_u8s, hl] at hp; exact hp
  cases A with
  | none => have := hn rfl; omega
  | some a =>
    have h0 := hc a rfl 0 (by omega)
    obtain ⟨b, off, spot⟩ := a
    have hspot : spot = none := by simpa [Addr.add] using World.cell?_spot h0
    subst hspot
    refine ⟨b, off, rfl, fun j u hj => ?_⟩
    have hjl : j < L := by
      have := (List.getElem?_eq_some_iff.1 hj).1
      rw [length_u8s, hl] at this; exact this
    have hcj := hc _ rfl j (by omega)
    rw [Addr.add_lit] at hcj
    rw [hcj]
    have hzj : Z.getD j 0 ∈ Z := by
      simp only [List.getD, List.getElem?_eq_getElem (show j < Z.length by omega), Option.getD_some]
      exact List.getElem_mem _
    have hwj := hw _ hzj
    have hb : 0 ≤ Z.getD j 0 ∧ Z.getD j 0 ≤ 255 := by simpa [Lit.wf, IntKind.min, IntKind.max, IntKind.signed, IntKind.bits] using hwj
    rw [u8s_get _ _ (by rw [hl]; exact hjl)] at hj
    simp only [toBs, List.getElem_map, List.getElem_take] at hj
    rw [← hj]
    have hg : Z[j]'(by omega) = Z.getD j 0 := by simp [List.getD, List.getElem?_eq_getElem (show j < Z.length by omega)]
    rw [hg]
    generalize Z.getD j 0 = z at hb
    congr 2
    rw [UInt8.toNat_ofNat']
    omega

theorem open_rows {H : Type} {enc : TypeId × Value → H} {P : Program} {W : World} {t e q : TypeId} {v : Value} {d : DataW H} {p : List MemPlace} {r : Reach} {b0 : Nat}
    (ht : P.underlying t = some (.slice e)) (he : P.underlying e = some (.slice q)) (hq : P.underlying q = some (.int .u8)) (ce : P.cellsOf e = 1) (cq : P.cellsOf q = 1) (hval : Value.okWide P W r b0 t v)
    (h : DataW.Trod enc P W 0 (fun _ => true) true t v d p) :
    ∃ A n c ls, v = .slice A n c ∧ Sl2 W (.slice A n c) ls ∧ ls.length = n ∧ (n = 0 ∨ ∃ elems spare, d = .slice elems spare ∧ elems.length = n) ∧
      ∀ l ∈ ls, l = [] ∨ ∃ elems spare es sp, d = .slice elems spare ∧ DataW.slice es sp ∈ elems ∧ es.length = l.length := by
  obtain ⟨a0, len0, cap0, rfl⟩ := okWide_slice ht hval
  obtain ⟨fuel, hf⟩ := h
  rcases open_int_rows ht he hq ce cq hf with ⟨hcs, _⟩ | ⟨a, len, cap, A, L, C, Z, hcs, _, hl, hm, hx, hcell⟩
  · simp [Value.cells] at hcs
    obtain ⟨rfl, rfl, rfl⟩ := hcs
    exact ⟨_, _, _, [], rfl, ⟨[], rfl, Holds.nil W, fun i h => by simp at h⟩, rfl, .inl rfl, fun l hl => by cases hl⟩
  · simp [Value.cells] at hcs
    obtain ⟨rfl, rfl, rfl⟩ := hcs
    have hd := (Prod.mk.inj hx).1
    refine ⟨_, _, _, (List.range len0).map (fun r => toBs ((Z r).take (L r))), rfl, ⟨(List.range len0).map (fun r => Value.slice (A r) (L r) (C r)), by simp, ?_, ?_⟩, by simp, .inr ⟨_, _, hd, by simp⟩, ?_⟩
    · have e1 : ((List.range len0).map (fun r => toBs ((Z r).take (L r)))).length = len0 := by simp
      rw [e1]
      refine ⟨_, _, rfl, hl, hm, fun hp => ?_⟩
      have hpos : 0 < cap0 := by simp at hp; omega
      have h0 := (hcell 0 hpos).1
      obtain ⟨b, off, spot⟩ := a
      have hspot : spot = none := by simpa [Addr.add] using World.cell?_spot h0
      subst hspot
      refine ⟨b, off, rfl, fun j u hj => ?_⟩
      have hjl : j < len0 := by
        have := (List.getElem?_eq_some_iff.1 hj).1
        simpa using this
      have hcj := (hcell j (by omega)).1
      rw [Addr.add_lit] at hcj
      rw [hcj, ← hj]
      simp [hjl]
    · intro i hi hi'
      have hil : i < len0 := by simpa using hi
      obtain ⟨_, h2, h3, h4, h5, h6, h7⟩ := hcell i (by omega)
      simp only [List.getElem_map, List.getElem_range]
      exact bytes_row h2 h3 h4 h5 h6 (fun a' ha c hc => (h7 a' ha).2 c hc)
    · intro l hml
      obtain ⟨r, hr, rfl⟩ := List.mem_map.1 hml
      have hrl : r < len0 := List.mem_range.1 hr
      obtain ⟨_, h2, h3, h4, h5, h6, h7⟩ := hcell r (by omega)
      have hll : (toBs ((Z r).take (L r))).length = L r := by simp only [toBs, List.length_map, List.length_take]; omega
      cases hA : A r with
      | none =>
        have := h6 hA
        exact .inl (List.eq_nil_of_length_eq_zero (by rw [hll]; omega))
      | some a' =>
        right
        refine ⟨_, _, lits .u8 ((Z r).take (L r)), lits .u8 ((Z r).drop (L r)), hd, List.mem_map.2 ⟨r, hr, by simp only [intRow, hA]⟩, ?_⟩
        rw [hll, lits, List.length_map, List.length_take]
        omega

theorem weightsAll_mem {H : Type} {P : Program} {e : TypeId} {x : DataW H} : ∀ {l : List (DataW H)}, x ∈ l → ∀ n ∈ x.weights P e, n ∈ DataW.weightsAll P e l
  | d :: r, h, n, hn => by
    simp only [DataW.weightsAll, List.mem_append]
    rcases List.mem_cons.1 h with rfl | h
    · exact .inl hn
    · exact .inr (weightsAll_mem h n hn)
theorem rows_sized {H : Type} {P : Program} {ts : List TypeId} {ds : List (DataW H)} (h : (DataW.weightsEach P ts ds).all (· ≤ reachBytes) = true) {j n : Nat} {t e q : TypeId} {d : DataW H} {ls : List (List UInt8)}
    (ht : ts[j]? = some t) (hd : ds[j]? = some d) (hu : P.underlying t = some (.slice e)) (hu2 : P.underlying e = some (.slice q)) (hb : P.bytesOf e = 24) (hb2 : P.bytesOf q = 1) (hn : n = 0 ∨ ∃ elems spare, d = .slice elems spare ∧ elems.length = n)
    (hl : ∀ l ∈ ls, l = [] ∨ ∃ elems spare es sp, d = .slice elems spare ∧ DataW.slice es sp ∈ elems ∧ es.length = l.length) : n * 24 ≤ 140737488351232 ∧ ∀ l ∈ ls, l.length ≤ 140737488351232 := by
  constructor
  · rcases hn with rfl | ⟨elems, spare, rfl, rfl⟩
    · omega
    · have := sized_slice h ht hd hu
      rw [hb] at this
      simp only [reachBytes] at this
      omega
  · intro l hml
    rcases hl l hml with rfl | ⟨elems, spare, es, sp, rfl, hm, he⟩
    · simp
    · have h1 : (es.length + sp.length) * 1 ∈ (DataW.slice es sp).weights P e := by simp [DataW.weights, hu2, hb2]
      have h2 : (es.length + sp.length) * 1 ∈ (DataW.slice elems spare).weights P t := by
        simp only [DataW.weights, hu, List.mem_cons, List.mem_append]
        exact .inr (.inl (weightsAll_mem hm _ h1))
      have h3 : (es.length + sp.length) * 1 ≤ reachBytes := by simpa using List.all_eq_true.1 h _ (DataW.weights_mem_each ht hd _ h2)
      simp only [reachBytes] at h3
      omega
end Go.Proofs.Ytccphnkdnifpfaa

