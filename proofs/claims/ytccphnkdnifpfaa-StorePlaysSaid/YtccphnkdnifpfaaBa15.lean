/-
  S18, Th: in one text.
-/
import Derived.Test.YtccphnkdnifpfaaBa10
import Derived.Test.YtccphnkdnifpfaaBa11
import Derived.Test.YtccphnkdnifpfaaBa9
import Derived.Test.YtccphnkdnifpfaaBa8
import Derived.Deep.DeepCutAuto
namespace Go.Proofs.Ytccphnkdnifpfaa
set_option linter.unnecessarySimpa false
open Go.RowKit
set_option linter.unusedVariables false
set_option linter.unusedSimpArgs false
set_option maxRecDepth 100000

/-- What the reference's store is, behind a step. -/
theorem putI_len (ids : List Nat) (rows : List (List UInt8)) (b : List UInt8) (h : ids.length = rows.length) : (putI ids rows b).1.length = (putI ids rows b).2.1.length ∧ (putI ids rows b).1.length ≤ ids.length + 1 := by
  unfold putI
  split
  · exact ⟨h, by show ids.length ≤ _; omega⟩
  · exact ⟨by simp [h], by simp⟩
theorem putI_rows (ids : List Nat) (rows : List (List UInt8)) (b : List UInt8) (m : Nat) (h : ∀ r ∈ rows, r.length ≤ m) (hb : b.length ≤ m) : ∀ r ∈ (putI ids rows b).2.1, r.length ≤ m := by
  unfold putI
  split
  · exact h
  · intro r hr
    rcases List.mem_append.1 hr with h' | h'
    · exact h r h'
    · rw [List.mem_singleton.1 h']; exact hb
theorem putI_same (ids : List Nat) (rows : List (List UInt8)) (b : List UInt8) : ((((putI ids rows b).1.length : Nat) : Int) == (ids.length : Int)) = (findI (idF b) ids).isSome := by
  unfold putI
  split
  · rename_i q hq; simp [hq]
  · rename_i hq; simp [hq]; omega
theorem MVn.form2 {N : Nat → Prop} {w : World} {x y : Value} {ids : List Nat} {rows : List (List UInt8)} (h : MVn N w (.agg #[x, y]) ids rows) : ∃ AI nI cI AR nR cR, x = .slice AI nI cI ∧ y = .slice AR nR cR ∧ ids.length = nI := by
  obtain ⟨AI, nI, cI, AR, nR, cR, he, h1, -⟩ := h
  simp only [Value.agg.injEq, Array.mk.injEq, List.cons.injEq, and_true] at he
  obtain ⟨rfl, rfl⟩ := he
  exact ⟨AI, nI, cI, AR, nR, cR, rfl, rfl, h1.len⟩
end Go.Proofs.Ytccphnkdnifpfaa

namespace Go.Proofs.Ytccphnkdnifpfaa
set_option linter.unnecessarySimpa false
open Go.RowKit
set_option linter.unusedVariables false
set_option linter.unusedSimpArgs false
set_option maxRecDepth 100000

structure Thg where
  kind : Int
  blob : List UInt8
  tree : List Ent
  t : Nat
  ps : List Nat
  a : ByteArray
  d : Int
  x : ByteArray
/-- The object that a thing is, if it is one. -/
def Thg.ob (q : Thg) : Option Ob := if q.kind = 1 then some (.blob q.blob) else if q.kind = 2 then some (.tree q.tree) else if q.kind = 3 then some (.commit q.t q.ps q.a.data.toList q.d q.x.data.toList) else none
def errO : Option Ob → Int
  | none => 160
  | some o => obCheck o
def bytO : Option Ob → List UInt8
  | none => []
  | some o => if obCheck o = 0 then obB o else []
def Thg.ok (q : Thg) : Prop := (∀ x ∈ q.tree, x.1.size ≤ maxLen ∧ x.2.2 < 18446744073709551616) ∧ (∀ p ∈ q.ps, p < 18446744073709551616) ∧ q.t < 18446744073709551616 ∧ -9223372036854775808 ≤ q.d ∧ q.d ≤ 9223372036854775807 ∧ q.a.size ≤ maxLen ∧ q.x.size ≤ maxLen ∧
  q.blob.length ≤ 140737488351232 ∧ q.tree.length * 32 ≤ 140737488351232 ∧ q.ps.length * 8 ≤ 140737488351232
/-- A thing's cells. -/
def ThC (w : World) (q : Thg) (cs : Array Value) : Prop :=
  ∃ AB nb cb AT nt ct AP np cp, cs = #[.int .i64 q.kind, .slice AB nb cb, .slice AT nt ct, .int .u64 (q.t : Int), .slice AP np cp, .string q.a, .int .i64 q.d, .string q.x] ∧ Bytes w (.slice AB nb cb) q.blob ∧ q.blob.length = nb ∧ Es w (.slice AT nt ct) q.tree ∧ Sl u64v w (.slice AP np cp) q.ps
theorem ThC.no {w w' : World} {q : Thg} {cs : Array Value} (h : ThC w q cs) (hc : Chg No w w') : ThC w' q cs := by
  obtain ⟨AB, nb, cb, AT, nt, ct, AP, np, cp, rfl, h1, h2, h3, h4⟩ := h
  exact ⟨AB, nb, cb, AT, nt, ct, AP, np, cp, rfl, h1.no hc, h2, h3.no hc, h4.no hc⟩

theorem refcheckO_blob (w : World) (A : Option Addr) (n c : Nat) : Calls Try.prog 76 #[.slice A n c] w fun e w' => e = .returned (.int .i64 (if 4096 < n then 3 else 0)) ∧ w = w' := by
  by_cases h : 4096 < n
  · have h1 : (4096 : Int) < (n : Int) := by omega
    rw [if_pos h]
    clear h
    go_enter Try.func76, Try.ntmps76
    go_wp2
    go_ret
    exact ⟨rfl, rfl⟩
  · have h1 : ¬ (4096 : Int) < (n : Int) := by omega
    rw [if_neg h]
    clear h
    go_enter Try.func76, Try.ntmps76
    go_wp2
    go_ret
    exact ⟨rfl, rfl⟩
theorem refblobO_calls (w : World) (A : Option Addr) (n c : Nat) (xs : List UInt8) (hb : Bytes w (.slice A n c) xs) (hl : xs.length = n) :
    Calls Try.prog 42 #[.slice A n c] w fun e w' => ∃ A' n' c', e = .returned (.tuple #[.slice A' n' c', .int .i64 (if 4096 < n then 3 else 0)]) ∧ OwnB w' w.heap.size (.slice A' n' c') (if 4096 < n then [] else 98 :: xs) ∧ (if 4096 < n then [] else 98 :: xs).length = n' ∧ Chg No w w' := by
  have HB := Lib.hid hb
  have HL := Lib.hid hl
  clear hb hl
  have hck := refcheckO_blob w A n c
  by_cases h : 4096 < n
  · rw [if_pos h] at hck
    rw [if_pos h, if_pos h]
    have HCK := Lib.hid hck
    clear hck
    go_enter Try.func42, Try.ntmps42
    go_wp2_with fail
    refine HCK.out.mono ?_
    rintro e w' ⟨rfl, rfl⟩
    go_wp2
    go_ret2
    exact ⟨none, 0, 0, rfl, World.ownsRow_nil _ _ _ _, rfl, Chg.refl _ _⟩
  · rw [if_neg h] at hck
    rw [if_neg h, if_neg h]
    have HCK := Lib.hid hck
    clear hck
    go_enter Try.func42, Try.ntmps42
    go_wp2_with fail
    refine HCK.out.mono ?_
    rintro e w' ⟨rfl, rfl⟩
    have own8 : Hid (OwnB (w.alloc (.cells (u8s [98]).toArray 5)) w.heap.size (.slice (some ⟨w.heap.size, 0, none⟩) 1 1) [98]) := OwnB.lit w [98] (by unfold maxLen; decide)
    have src8 : Hid (Src Try.prog 1 30 (.slice A n c) n (u8s xs) (w.alloc (.cells (u8s [98]).toArray 5))) := Src.ofBytes Try.underlying30 (HB.out.no ((Chg.refl No w).alloc _)) HL.out
    go_wp2_with (at_builtin; (refine wpList_app2 rfl (.tmp 10) (.tmp 11) 30 30 rfl w.heap.size 5 (.int .u8 0) 1 1 infoU8 Try.underlying30 rfl (by decide) (.slice (some ⟨w.heap.size, 0, none⟩) 1 1) (.slice A n c) 1 n (u8s [98]) (u8s xs) rfl rfl ?own ?src ?b1 ?b2 ?b3 ?_; (case own => exact own8.out); (case src => exact src8.out); (case b1 => omega); (case b2 => unfold maxLen; omega); (case b3 => simp); intro v8 w8 hown8 hg8 hfrom8; refine Hid.out ?_))
    refine Lib.hid ?_
    have hO := OwnB.of (xs := 98 :: xs) hown8 (by simp [u8s])
    obtain ⟨A4, n4, c4, rfl, HL4, HO4⟩ := hO.form
    have HC : Hid (Chg No w w8) := ((Chg.refl No w).alloc _).grown hg8 (fun q hq => by simp [Value.ownBlock] at hq; omega)
    clear hO hown8 hg8 hfrom8 own8 src8
    go_wp2
    go_ret2
    exact ⟨_, _, _, rfl, HO4.out, HL4.out, HC.out⟩
theorem reftreeO_calls (w : World) (A : Option Addr) (n c : Nat) (xs : List Ent) (h : Es w (.slice A n c) xs) (hb : ∀ x ∈ xs, x.1.size ≤ maxLen ∧ x.2.2 < 18446744073709551616) (hn : n ≤ 9223372036854775807) :
    Calls Try.prog 43 #[.slice A n c] w fun e w' => ∃ A' n' c', e = .returned (.tuple #[.slice A' n' c', .int .i64 (treeF xs)]) ∧ OwnB w' w.heap.size (.slice A' n' c') (if treeF xs = 0 then treeB xs else []) ∧ (if treeF xs = 0 then treeB xs else []).length = n' ∧ Chg No w w' := by
  by_cases hF : treeF xs = 0
  · have := reftreeO_ok w A n c xs h hb hF
    rw [if_pos hF, hF]
    exact this
  · have := reftreeO_no w A n c xs h hb hn hF
    rw [if_neg hF]
    exact this
theorem refcommitO_calls (w : World) (t : Nat) (A : Option Addr) (n c : Nat) (ps : List Nat) (a : ByteArray) (d : Int) (x : ByteArray) (hs : Sl u64v w (.slice A n c) ps) (hp : ∀ q ∈ ps, q < 18446744073709551616) (ht : t < 18446744073709551616) (hn : n ≤ 9223372036854775807) (ha : a.size ≤ 9223372036854775807) (hx : x.size ≤ 9223372036854775807) :
    Calls Try.prog 44 #[.agg #[.int .u64 (t : Int), .slice A n c, .string a, .int .i64 d, .string x]] w fun e w' => ∃ A' n' c', e = .returned (.tuple #[.slice A' n' c', .int .i64 (commitF t ps a.data.toList x.data.toList : Nat)]) ∧ OwnB w' w.heap.size (.slice A' n' c') (if commitF t ps a.data.toList x.data.toList = 0 then commitB t ps a.data.toList d x.data.toList else []) ∧ (if commitF t ps a.data.toList x.data.toList = 0 then commitB t ps a.data.toList d x.data.toList else []).length = n' ∧ Chg No w w' := by
  by_cases hF : commitF t ps a.data.toList x.data.toList = 0
  · have := refcommitO_ok w t A n c ps a d x hs hn ha hx ht hp hF
    rw [if_pos hF, hF]
    exact this
  · have := refcommitO_no w t A n c ps a d x hs hn ha hx hF
    rw [if_neg hF]
    exact this
theorem bytO_blob (l : List UInt8) : errO (some (.blob l)) = (if 4096 < l.length then 3 else 0) ∧ bytO (some (.blob l)) = (if 4096 < l.length then [] else 98 :: l) := by
  refine ⟨rfl, ?_⟩
  show (if (if 4096 < l.length then (3 : Int) else 0) = 0 then 98 :: l else []) = _
  by_cases h : 4096 < l.length
  · rw [if_pos h, if_pos h, if_neg (by decide)]
  · rw [if_neg h, if_neg h, if_pos rfl]
theorem bytO_commit (t : Nat) (ps : List Nat) (a : List UInt8) (d : Int) (x : List UInt8) : bytO (some (.commit t ps a d x)) = (if commitF t ps a x = 0 then commitB t ps a d x else []) := by
  show (if ((commitF t ps a x : Nat) : Int) = 0 then commitB t ps a d x else []) = _
  by_cases h : commitF t ps a x = 0
  · rw [if_pos h, if_pos (by omega)]
  · rw [if_neg h, if_neg (by omega)]
set_option maxHeartbeats 6400000 in
theorem thbytes_calls (w : World) (q : Thg) (cs : Array Value) (h : ThC w q cs) (hok : q.ok) :
    Calls Try.prog 24 #[.agg cs] w fun e w' => ∃ A n c, e = .returned (.tuple #[.slice A n c, .int .i64 (errO q.ob)]) ∧ OwnB w' w.heap.size (.slice A n c) (bytO q.ob) ∧ (bytO q.ob).length = n ∧ Chg No w w' := by
  obtain ⟨kind, blob, tree, t, ps, a, d, x⟩ := q
  obtain ⟨AB, nb, cb, AT, nt, ct, AP, np, cp, rfl, hB, hnb, hT, hP⟩ := h
  obtain ⟨o1, o2, o3, o4, o5, o6, o7, o8, o9, o10⟩ := hok
  simp only at hB hnb hT hP o1 o2 o3 o4 o5 o6 o7 o8 o9 o10 ⊢
  have mx : maxLen ≤ 9223372036854775807 := by unfold maxLen; omega
  have hLT := hT.len
  have hLP := hP.len
  have X1 := (Chg.refl No w).alloc (.cells #[.int .i64 kind, .slice AB nb cb, .slice AT nt ct, .int .u64 (t : Int), .slice AP np cp, .string a, .int .i64 d, .string x] 72)
  have HX := Lib.hid X1
  by_cases k1 : kind = 1
  · have HR := Lib.hid (refblobO_calls _ AB nb cb blob (hB.no X1) hnb)
    have HO : Hid (Thg.ob ⟨kind, blob, tree, t, ps, a, d, x⟩ = some (.blob blob)) := by rw [Hid, Thg.ob, if_pos k1]
    have HE := Lib.hid (bytO_blob blob)
    rw [Hid, hnb] at HE
    have HE := Lib.hid HE
    have b1 : (kind == 1) = true := beq_iff_eq.2 k1
    generalize Thg.ob ⟨kind, blob, tree, t, ps, a, d, x⟩ = ob at *
    generalize (if 4096 < nb then (3 : Int) else 0) = E at *
    generalize (if 4096 < nb then [] else 98 :: blob) = BY at *
    clear X1 hB hT hP o1 o2 k1 hLT hLP hnb
    go_enter Try.func24, Try.ntmps24
    go_wp2_with fail
    refine HR.out.mono ?_
    rintro e w1 ⟨A1, n1, c1, rfl, ho, hl, hc⟩
    have HO1 := Lib.hid ho
    have HL1 := Lib.hid hl
    have HC1 := Lib.hid hc
    clear ho hl hc HR
    go_wp2
    go_ret2
    exact ⟨A1, n1, c1, by rw [HO.out, HE.out.1]; try rfl, by rw [HO.out, HE.out.2]; exact OwnB.mono HO1.out HX.out.size, by rw [HO.out, HE.out.2]; exact HL1.out, HX.out.no HC1.out⟩
  have b1 : (kind == 1) = false := beq_eq_false_iff_ne.2 k1
  by_cases k2 : kind = 2
  · have HR := Lib.hid (reftreeO_calls _ AT nt ct tree (hT.no X1) o1 (by omega))
    have HO : Hid (Thg.ob ⟨kind, blob, tree, t, ps, a, d, x⟩ = some (.tree tree)) := by rw [Hid, Thg.ob, if_neg k1, if_pos k2]
    have b2 : (kind == 2) = true := beq_iff_eq.2 k2
    generalize Thg.ob ⟨kind, blob, tree, t, ps, a, d, x⟩ = ob at *
    clear X1 hB hT hP o1 o2 k1 k2 hLT hLP hnb
    go_enter Try.func24, Try.ntmps24
    go_wp2_with fail
    refine HR.out.mono ?_
    rintro e w1 ⟨A1, n1, c1, rfl, ho, hl, hc⟩
    have HO1 := Lib.hid ho
    have HL1 := Lib.hid hl
    have HC1 := Lib.hid hc
    clear ho hl hc HR
    go_wp2
    go_ret2
    exact ⟨A1, n1, c1, by rw [HO.out]; rfl, by rw [HO.out]; exact OwnB.mono HO1.out HX.out.size, by rw [HO.out]; exact HL1.out, HX.out.no HC1.out⟩
  have b2 : (kind == 2) = false := beq_eq_false_iff_ne.2 k2
  by_cases k3 : kind = 3
  · have HR := Lib.hid (refcommitO_calls _ t AP np cp ps a d x (hP.no X1) o2 o3 (by omega) (by omega) (by omega))
    have HO : Hid (Thg.ob ⟨kind, blob, tree, t, ps, a, d, x⟩ = some (.commit t ps a.data.toList d x.data.toList)) := by rw [Hid, Thg.ob, if_neg k1, if_neg k2, if_pos k3]
    have HE := Lib.hid (bytO_commit t ps a.data.toList d x.data.toList)
    have b3 : (kind == 3) = true := beq_iff_eq.2 k3
    generalize Thg.ob ⟨kind, blob, tree, t, ps, a, d, x⟩ = ob at *
    clear X1 hB hT hP o1 o2 k1 k2 k3 hLT hLP hnb
    go_enter Try.func24, Try.ntmps24
    go_wp2_with fail
    refine HR.out.mono ?_
    rintro e w1 ⟨A1, n1, c1, rfl, ho, hl, hc⟩
    have HO1 := Lib.hid ho
    have HL1 := Lib.hid hl
    have HC1 := Lib.hid hc
    clear ho hl hc HR
    go_wp2
    go_ret2
    exact ⟨A1, n1, c1, by rw [HO.out]; rfl, by rw [HO.out, HE.out]; exact OwnB.mono HO1.out HX.out.size, by rw [HO.out, HE.out]; exact HL1.out, HX.out.no HC1.out⟩
  · have b3 : (kind == 3) = false := beq_eq_false_iff_ne.2 k3
    have HO : Hid (Thg.ob ⟨kind, blob, tree, t, ps, a, d, x⟩ = none) := by rw [Hid, Thg.ob, if_neg k1, if_neg k2, if_neg k3]
    generalize Thg.ob ⟨kind, blob, tree, t, ps, a, d, x⟩ = ob at *
    clear X1 hB hT hP o1 o2 k1 k2 k3 hLT hLP hnb
    go_enter Try.func24, Try.ntmps24
    go_wp2
    go_ret2
    exact ⟨none, 0, 0, by rw [HO.out]; rfl, by rw [HO.out]; exact World.ownsRow_nil _ _ _ _, by rw [HO.out]; rfl, HX.out⟩
set_option maxHeartbeats 6400000 in
theorem thobject_calls (w : World) (q : Thg) (cs : Array Value) (h : ThC w q cs) (hok : q.ok) :
    Calls Try.prog 25 #[.agg cs] w fun e w' => ∃ v, e = .returned v ∧ Encodes w' v (errO q.ob) (bytO q.ob) ∧ Chg No w w' := by
  obtain ⟨kind, blob, tree, t, ps, a, d, x⟩ := q
  obtain ⟨AB, nb, cb, AT, nt, ct, AP, np, cp, rfl, hB, hnb, hT, hP⟩ := h
  obtain ⟨o1, o2, o3, o4, o5, o6, o7, o8, o9, o10⟩ := hok
  simp only at hB hnb hT hP o1 o2 o3 o4 o5 o6 o7 o8 o9 o10 ⊢
  have mx : maxLen ≤ 9223372036854775807 := by unfold maxLen; omega
  have mx2 : maxLen = 9223372036854775807 := by unfold maxLen; rfl
  have hLT := hT.len
  have hLP := hP.len
  have X1 := (Chg.refl No w).alloc (.cells #[.int .i64 kind, .slice AB nb cb, .slice AT nt ct, .int .u64 (t : Int), .slice AP np cp, .string a, .int .i64 d, .string x] 72)
  have HX := Lib.hid X1
  have hz1 : Hid ((w.alloc (.cells #[.int .i64 kind, .slice AB nb cb, .slice AT nt ct, .int .u64 (t : Int), .slice AP np cp, .string a, .int .i64 d, .string x] 72)).heap.size = w.heap.size + 1) := World.size_alloc _ _
  have hw1 := X1.size
  have HQ := Lib.hid (heap_alloc_new w (.cells #[.int .i64 kind, .slice AB nb cb, .slice AT nt ct, .int .u64 (t : Int), .slice AP np cp, .string a, .int .i64 d, .string x] 72))
  by_cases k1 : kind = 1
  · have HO : Hid (Thg.ob ⟨kind, blob, tree, t, ps, a, d, x⟩ = some (.blob blob)) := by rw [Hid, Thg.ob, if_pos k1]
    have HE := Lib.hid (bytO_blob blob)
    rw [Hid, hnb] at HE
    have HE := Lib.hid HE
    have b1 : (kind == 1) = true := beq_iff_eq.2 k1
    have hnb' : nb ≤ 140737488351232 := by omega
    have HB1 := Lib.hid (hB.no X1)
    have HNB := Lib.hid hnb
    generalize Thg.ob ⟨kind, blob, tree, t, ps, a, d, x⟩ = ob at *
    clear X1 hB hT hP o1 o2 k1 hLT hLP hnb mx2 mx
    go_enter Try.func25, Try.ntmps25
    go_upto_region 3 with fail
    generalize w.alloc (.cells #[.int .i64 kind, .slice AB nb cb, .slice AT nt ct, .int .u64 (t : Int), .slice AP np cp, .string a, .int .i64 d, .string x] 72) = w1 at *
    have q1 : w1.cell? ⟨w.heap.size, 1, none⟩ = some (.slice AB nb cb) := cellAt HQ.out 1 _ rfl
    have q1 := ((Chg.refl No w1).alloc (.cells #[] 5)).cell q1 (fun x => x)
    go_wp2_with (at_builtin; (refine wpList_app2 rfl (.tmp 8) (.tmp 10) 30 30 rfl w1.heap.size 5 (.int .u8 0) 1 1 infoU8 Try.underlying30 rfl (by decide) (.slice (some ⟨w1.heap.size, 0, none⟩) 0 0) (.slice AB nb cb) 0 nb (u8s []) (u8s blob) rfl rfl ?own ?src ?b1 ?b2 ?b3 ?_; (case own => exact OwnB.n (OwnB.lit w1 [] (by decide)) rfl); (case src => exact Src.ofBytes Try.underlying30 (HB1.out.no ((Chg.refl No _).alloc _)) HNB.out); (case b1 => omega); (case b2 => unfold maxLen; omega); (case b3 => (rw [World.size_alloc]; omega)); intro vb w6 hown hg hfrom; refine Hid.out ?_))
    refine Lib.hid ?_
    have hO := OwnB.of (xs := blob) hown (by simp [u8s])
    obtain ⟨A4, n4, c4, rfl, HL4, HO4⟩ := hO.form
    have HC : Hid (Chg No w w6) := (HX.out.alloc _).grown hg (fun q hq => by simp [Value.ownBlock] at hq; left; omega)
    have hn4 : n4 = nb := by have := HL4.out; have := HNB.out; omega
    subst hn4
    clear hO hown hg hfrom
    go_wp2
    go_ret
    refine ⟨_, rfl, ?_, HC.out⟩
    rw [HO.out, HE.out.1, HE.out.2]
    exact encodes_blob w6 A4 n4 c4 blob HO4.out.bytes HL4.out
  have b1 : (kind == 1) = false := beq_eq_false_iff_ne.2 k1
  by_cases k2 : kind = 2
  · have HO : Hid (Thg.ob ⟨kind, blob, tree, t, ps, a, d, x⟩ = some (.tree tree)) := by rw [Hid, Thg.ob, if_neg k1, if_pos k2]
    have b2 : (kind == 2) = true := beq_iff_eq.2 k2
    have HT1 := Lib.hid (hT.no X1)
    have HLT := Lib.hid hLT
    have hnt : nt * 32 ≤ 140737488351232 := by rw [← hLT]; exact o9
    have HO1 := Lib.hid o1
    generalize Thg.ob ⟨kind, blob, tree, t, ps, a, d, x⟩ = ob at *
    clear X1 hB hT hP o1 o2 k1 k2 hLT hLP hnb mx2 o9
    go_enter Try.func25, Try.ntmps25
    go_upto_region 5 with fail
    generalize w.alloc (.cells #[.int .i64 kind, .slice AB nb cb, .slice AT nt ct, .int .u64 (t : Int), .slice AP np cp, .string a, .int .i64 d, .string x] 72) = w1 at *
    have HSR : Hid (Src Try.prog 3 53 (.slice AT nt ct) nt (tree.flatMap encE) (w1.alloc (.cells #[] 130))) := by
      have h := HT1.out.no ((Chg.refl No w1).alloc (.cells #[] 130))
      rw [Es, HLT.out] at h
      refine Src.ofHolds _ Try.underlying53 h (by rw [encE_len, HLT.out]) (by decide) ?_
      intro u hu
      obtain ⟨e, -, he⟩ := List.mem_flatMap.1 hu
      simp only [encE, List.mem_cons, List.not_mem_nil, or_false] at he
      rcases he with rfl | rfl | rfl <;> rfl
    have HOR : Hid ((w1.alloc (.cells #[] 130)).ownsRow w1.heap.size 130 3 (.slice (some ⟨w1.heap.size, 0, none⟩) 0 0) 0 []) := ⟨rfl, .inr ⟨w1.heap.size, 0, #[], rfl, Nat.le_refl _, heap_alloc_new w1 _, Nat.le_refl _, (by unfold maxLen; omega), rfl, rfl⟩⟩
    have q1 : w1.cell? ⟨w.heap.size, 2, none⟩ = some (.slice AT nt ct) := cellAt HQ.out 2 _ rfl
    have q1 := ((Chg.refl No w1).alloc (.cells #[] 130)).cell q1 (fun x => x)
    go_wp2_with (at_builtin; (refine wpList_app2 rfl (.tmp 16) (.tmp 18) 53 53 rfl w1.heap.size 130 (.agg #[.string ⟨#[]⟩, .bool false, .int .u64 0]) 3 32 infoEnt Try.underlying53 rfl (by decide) (.slice (some ⟨w1.heap.size, 0, none⟩) 0 0) (.slice AT nt ct) 0 nt [] (tree.flatMap encE) rfl rfl ?own ?src ?b1 ?b2 ?b3 ?_; (case own => exact HOR.out); (case src => exact HSR.out); (case b1 => omega); (case b2 => unfold maxLen; omega); (case b3 => (rw [World.size_alloc]; omega)); intro vb w6 hown hg hfrom; refine Hid.out ?_))
    refine Lib.hid ?_
    have HC : Hid (Chg No w w6) := (HX.out.alloc _).grown hg (fun q hq => by simp [Value.ownBlock] at hq; left; omega)
    rw [List.nil_append, Nat.zero_add] at hown
    obtain ⟨A4, c4, rfl⟩ := ownsRow_form hown
    have HT6 : Hid (Es w6 (.slice A4 nt c4) tree) := by
      have h := Holds.ofOwn hown
      rw [Hid, Es, HLT.out]
      exact h
    clear hown hg hfrom
    go_wp2
    go_ret
    refine ⟨_, rfl, ?_, HC.out⟩
    rw [HO.out]
    exact encodes_tree w6 A4 nt c4 tree HT6.out (fun x hx => Nat.le_trans (HO1.out x hx).1 mx) (fun x hx => (HO1.out x hx).2)
  have b2 : (kind == 2) = false := beq_eq_false_iff_ne.2 k2
  by_cases k3 : kind = 3
  · have HO : Hid (Thg.ob ⟨kind, blob, tree, t, ps, a, d, x⟩ = some (.commit t ps a.data.toList d x.data.toList)) := by rw [Hid, Thg.ob, if_neg k1, if_neg k2, if_pos k3]
    have HE := Lib.hid (bytO_commit t ps a.data.toList d x.data.toList)
    have b3 : (kind == 3) = true := beq_iff_eq.2 k3
    generalize Thg.ob ⟨kind, blob, tree, t, ps, a, d, x⟩ = ob at *
    have HP1 := Lib.hid (hP.no X1)
    have HLP := Lib.hid hLP
    have hnp : np * 8 ≤ 140737488351232 := by rw [← hLP]; exact o10
    have HO2 := Lib.hid o2
    clear X1 hB hT hP o1 o2 k1 k2 k3 hLT hLP hnb mx2 o9 o10
    go_enter Try.func25, Try.ntmps25
    go_upto_region 7 with fail
    generalize w.alloc (.cells #[.int .i64 kind, .slice AB nb cb, .slice AT nt ct, .int .u64 (t : Int), .slice AP np cp, .string a, .int .i64 d, .string x] 72) = w1 at *
    have q3 : w1.cell? ⟨w.heap.size, 3, none⟩ = some (.int .u64 (t : Int)) := cellAt HQ.out 3 _ rfl
    have q4 : w1.cell? ⟨w.heap.size, 4, none⟩ = some (.slice AP np cp) := cellAt HQ.out 4 _ rfl
    have q5 : w1.cell? ⟨w.heap.size, 5, none⟩ = some (.string a) := cellAt HQ.out 5 _ rfl
    have q6 : w1.cell? ⟨w.heap.size, 6, none⟩ = some (.int .i64 d) := cellAt HQ.out 6 _ rfl
    have q7 : w1.cell? ⟨w.heap.size, 7, none⟩ = some (.string x) := cellAt HQ.out 7 _ rfl
    have HQ2 := Lib.hid (heap_alloc_new w1 (.cells #[.int .u64 (t : Int), .slice AP np cp, .string a, .int .i64 d, .string x] 44))
    go_upto_region 8 with fail
    have HX2 := Lib.hid ((Chg.refl No w1).alloc (.cells #[.int .u64 (t : Int), .slice AP np cp, .string a, .int .i64 d, .string x] 44))
    have hz2 : Hid ((w1.alloc (.cells #[.int .u64 (t : Int), .slice AP np cp, .string a, .int .i64 d, .string x] 44)).heap.size = w1.heap.size + 1) := World.size_alloc _ _
    generalize w1.alloc (.cells #[.int .u64 (t : Int), .slice AP np cp, .string a, .int .i64 d, .string x] 44) = w2 at *
    generalize w1.heap.size = g at *
    have HSR : Hid (Src Try.prog 1 42 (.slice AP np cp) np (ps.map u64v) (w2.alloc (.cells #[] 32))) := by
      have h := (HP1.out.no HX2.out).no ((Chg.refl No w2).alloc (.cells #[] 32))
      rw [Sl, HLP.out] at h
      refine Src.ofHolds _ Try.underlying42 h (by rw [List.length_map, HLP.out, Nat.mul_one]) (by decide) ?_
      intro u hu
      obtain ⟨e, -, rfl⟩ := List.mem_map.1 hu
      rfl
    have HOR : Hid ((w2.alloc (.cells #[] 32)).ownsRow w2.heap.size 32 1 (.slice (some ⟨w2.heap.size, 0, none⟩) 0 0) 0 []) := ⟨rfl, .inr ⟨w2.heap.size, 0, #[], rfl, Nat.le_refl _, heap_alloc_new w2 _, Nat.le_refl _, (by unfold maxLen; omega), rfl, rfl⟩⟩
    have q2 : w2.cell? ⟨g, 1, none⟩ = some (.slice AP np cp) := cellAt HQ2.out 1 _ rfl
    have q2 := ((Chg.refl No w2).alloc (.cells #[] 32)).cell q2 (fun x => x)
    go_wp2_with (at_builtin; (refine wpList_app2 rfl (.tmp 26) (.tmp 28) 42 42 rfl w2.heap.size 32 (.int .u64 0) 1 8 infoId Try.underlying42 rfl (by decide) (.slice (some ⟨w2.heap.size, 0, none⟩) 0 0) (.slice AP np cp) 0 np [] (ps.map u64v) rfl rfl ?own ?src ?b1 ?b2 ?b3 ?_; (case own => exact HOR.out); (case src => exact HSR.out); (case b1 => omega); (case b2 => unfold maxLen; omega); (case b3 => (rw [World.size_alloc]; omega)); intro vb w6 hown hg hfrom; rw [List.nil_append, Nat.zero_add] at hown; obtain ⟨A4, c4', rfl⟩ := ownsRow_form hown; have hc6 : Chg No w2 w6 := ((Chg.refl No w2).alloc _).grown hg (fun q hq => by simp [Value.ownBlock] at hq; left; omega); have HQ6 := Lib.hid (hc6.heap HQ2.out (fun x => x)); have c0 : w6.cell? ⟨g, 0, none⟩ = some (.int .u64 (t : Int)) := cellAt HQ6.out 0 _ rfl; have c1 : w6.cell? ⟨g, 1, none⟩ = some (.slice AP np cp) := cellAt HQ6.out 1 _ rfl; have c2 : w6.cell? ⟨g, 2, none⟩ = some (.string a) := cellAt HQ6.out 2 _ rfl; have c3 : w6.cell? ⟨g, 3, none⟩ = some (.int .i64 d) := cellAt HQ6.out 3 _ rfl; have c4 : w6.cell? ⟨g, 4, none⟩ = some (.string x) := cellAt HQ6.out 4 _ rfl; have f1 := frzAt HQ6.out 1; have HOW := Lib.hid hown; have HC6 := Lib.hid hc6; clear hown hg hfrom hc6; refine Hid.out ?_))
    refine Lib.hid ?_
    go_wp2
    go_ret
    have hcs : Chg (One g) w6 (w6.setCell ⟨g, 1, none⟩ (.slice A4 np c4')) := (Chg.refl (One g) w6).setCell (p := ⟨g, 1, none⟩) (.inr rfl) _
    have hgw : g < w2.heap.size := by have := hz2.out; omega
    have hno : w6.ownsRow w2.heap.size 32 1 (.slice A4 np c4') np (ps.map u64v) := HOW.out
    have ho2 := ownsRow_chg hno hcs (fun b hb e => by have := (World.ownsRow.lt hno b hb).1; have e : b = g := e; omega)
    refine ⟨_, rfl, ?_, ((HX.out.no HX2.out).no HC6.out).setCell (p := ⟨g, 1, none⟩) (.inl (by show w.heap.size ≤ g; omega)) _⟩
    rw [HO.out, HE.out]
    refine encodes_commit _ t A4 np c4' ps a d x ?_ (by omega) (by omega) (by omega) o3 HO2.out
    have h := Holds.ofOwn ho2
    rw [Sl, HLP.out]
    exact h
  · have b3 : (kind == 3) = false := beq_eq_false_iff_ne.2 k3
    have HO : Hid (Thg.ob ⟨kind, blob, tree, t, ps, a, d, x⟩ = none) := by rw [Hid, Thg.ob, if_neg k1, if_neg k2, if_neg k3]
    generalize Thg.ob ⟨kind, blob, tree, t, ps, a, d, x⟩ = ob at *
    clear X1 hB hT hP o1 o2 k1 k2 k3 hLT hLP hnb
    go_enter Try.func25, Try.ntmps25
    go_wp2
    go_ret
    refine ⟨_, rfl, ?_, HX.out⟩
    rw [HO.out]
    exact encodes_odd _ _ odd_nil
end Go.Proofs.Ytccphnkdnifpfaa

