/-
  Rc, Cu1, Cu2: in one text.
-/
import Derived.Test.YtccphnkdnifpfaaBa10
import Derived.Test.YtccphnkdnifpfaaBa4
import Derived.Test.YtccphnkdnifpfaaBa8
namespace Go.Proofs.Ytccphnkdnifpfaa
set_option linter.unnecessarySimpa false
open Go.RowKit
set_option linter.unusedVariables false
set_option linter.unusedSimpArgs false
set_option maxRecDepth 100000

theorem cells5b {W : World} {g : Nat} {a b c d e : Value} {t : TypeId} {fz : Nat × Nat} (h : W.heap[g]? = some (.cells #[a, b, c, d, e] t fz)) :
    W.cell? ⟨g, 0, none⟩ = some a ∧ W.cell? ⟨g, 1, none⟩ = some b ∧ W.cell? ⟨g, 2, none⟩ = some c ∧ W.cell? ⟨g, 3, none⟩ = some d ∧ W.cell? ⟨g, 4, none⟩ = some e :=
  ⟨cellAt h 0 a rfl, cellAt h 1 b rfl, cellAt h 2 c rfl, cellAt h 3 d rfl, cellAt h 4 e rfl⟩
set_option maxHeartbeats 3200000 in
theorem refcheck_commit (w : World) (t : Nat) (A : Option Addr) (n c : Nat) (ps : List Nat) (a : ByteArray) (d : Int) (x : ByteArray) (h : Sl u64v w (.slice A n c) ps) (hn : n ≤ 9223372036854775807) (ha : a.size ≤ 9223372036854775807) (hx : x.size ≤ 9223372036854775807) :
    Calls Try.prog 79 #[.agg #[.int .u64 (t : Int), .slice A n c, .string a, .int .i64 d, .string x]] w fun e w' => e = .returned (.int .i64 (commitF t ps a.data.toList x.data.toList : Nat)) ∧ Chg No w w' := by
  have HL := Lib.hid h.len
  have H := Lib.hid h
  have HA := Lib.hid (size_list a)
  have HX := Lib.hid (size_list x)
  have hF : commitF t ps a.data.toList x.data.toList = if t = 0 then 2 else if 8 < n then 3 else if 0 ∈ ps then 2 else if 64 < a.size then 3 else if rightF a.data.toList = false then 162 else if 1024 < x.size then 3 else if rightF x.data.toList = false then 162 else 0 := by
    unfold commitF
    rw [HL.out, HA.out, HX.out]
  have HF := Lib.hid hF
  have HRA : Hid (∀ w1, Calls Try.prog 97 #[.string a] w1 fun e w' => e = .returned (.bool (rightF a.data.toList)) ∧ Chg No w1 w') := fun w1 => reftext6_calls w1 a ha
  have HRX : Hid (∀ w1, Calls Try.prog 97 #[.string x] w1 fun e w' => e = .returned (.bool (rightF x.data.toList)) ∧ Chg No w1 w') := fun w1 => reftext6_calls w1 x hx
  clear h hF
  generalize hra : rightF a.data.toList = ra at *
  generalize hrx : rightF x.data.toList = rx at *
  generalize commitF t ps a.data.toList x.data.toList = F at *
  clear hra hrx HA HX
  have HQ := Lib.hid (heap_alloc_new w (.cells #[.int .u64 (t : Int), .slice A n c, .string a, .int .i64 d, .string x] 44))
  by_cases h1 : t = 0
  · subst h1
    go_enter Try.func79, Try.ntmps79
    go_wp2
    go_ret
    exact ⟨by rw [HF.out]; rfl, (Chg.refl No w).alloc _⟩
  · have b1 : ((t : Int) == 0) = false := by simp; omega
    by_cases h2 : 8 < n
    · have b2 : (8 : Int) < (n : Int) := by omega
      have HF2 : Hid (F = 3) := by rw [Hid, HF.out, if_neg h1, if_pos h2]
      clear h1
      go_enter Try.func79, Try.ntmps79
      go_wp2
      go_ret
      exact ⟨by rw [HF2.out]; rfl, (Chg.refl No w).alloc _⟩
    · have b2 : ¬ (8 : Int) < (n : Int) := by omega
      have HF2 := Lib.hid (show F = _ by rw [HF.out, if_neg h1, if_neg h2])
      clear h1 HF
      go_enter Try.func79, Try.ntmps79
      go_wp2
      go_loopw [17] (fun i wr => ∃ k : Nat, k ≤ n ∧ i = .int .i64 (k : Int) ∧ Hid (0 ∉ ps.take k) ∧ Hid (wr.heap[w.heap.size]? = some (.cells #[.int .u64 (t : Int), .slice A n c, .string a, .int .i64 d, .string x] 44)) ∧ Hid (Chg No w wr)) (fun i _ => n - (intOf i).toNat)
      case atStart => exact ⟨0, Nat.zero_le _, rfl, by rw [Hid]; simp, HQ.out, (Chg.refl No w).alloc _⟩
      case round =>
        obtain ⟨k, hk, rfl, HN, HQr, HCr⟩ := hrel
        by_cases hlt : k < n
        · obtain ⟨b, o, rfl, hcell⟩ := (H.out.no HCr.out).addr (by rw [HL.out]; omega)
          have hc := hcell k (by rw [HL.out]; exact hlt)
          have hT : ps.take (k + 1) = ps.take k ++ [ps[k]'(by rw [HL.out]; exact hlt)] := by rw [List.take_succ_eq_append_getElem]
          have hM : ps[k]'(by rw [HL.out]; exact hlt) ∈ ps := List.getElem_mem _
          generalize ps[k]'(by rw [HL.out]; exact hlt) = q at *
          have HT := Lib.hid hT
          have HMM := Lib.hid hM
          unfold u64v at hc
          clear hcell hT hM
          by_cases hq : q = 0
          · subst hq
            have HF3 : Hid (F = 2) := by rw [Hid, HF2.out, if_pos HMM.out]
            go_wp2
            go_ret
            exact ⟨by rw [HF3.out]; rfl, HCr.out⟩
          · have hqb : ((q : Int) == 0) = false := by simp; omega
            have HN2 : Hid (0 ∉ ps.take (k + 1)) := by
              rw [Hid, HT.out, List.mem_append, List.mem_singleton]
              rintro (h | h)
              · exact HN.out h
              · exact hq h.symm
            clear hq
            go_wp2
            go_roundw
            case rel => exact ⟨k + 1, by omega, by simp, HN2.out, HQr.out, HCr.out⟩
            case measure => simp [intOf]; omega
        · have hkn : k = n := by omega
          subst hkn
          have HF3 : Hid (F = if 64 < a.size then 3 else if ra = false then 162 else if 1024 < x.size then 3 else if rx = false then 162 else 0) := by
            have hnn := HN.out
            rw [List.take_of_length_le (by rw [HL.out]; exact Nat.le_refl _)] at hnn
            rw [Hid, HF2.out, if_neg hnn]
          have q2 := cellAt HQr.out 2 _ rfl
          have q4 := cellAt HQr.out 4 _ rfl
          clear HF2 HN
          go_wp2
          clear q2 q4
          have i0 : ∀ W, Sem.run Try.prog (Instr.index 157 (.agg #[.string a, .string x]) (.int .i64 0)) W = .ok (.string a) W := fun W => rfl
          have i1 : ∀ W, Sem.run Try.prog (Instr.index 157 (.agg #[.string a, .string x]) (.int .i64 1)) W = .ok (.string x) W := fun W => rfl
          go_loopw [29] (fun i wr => ∃ k : Nat, k ≤ 2 ∧ i = .int .i64 (k : Int) ∧ Hid (k = 0 → F = if 64 < a.size then 3 else if ra = false then 162 else if 1024 < x.size then 3 else if rx = false then 162 else 0) ∧ Hid (k = 1 → F = if 1024 < x.size then 3 else if rx = false then 162 else 0) ∧ Hid (k = 2 → F = 0) ∧ Hid (Chg No w wr)) (fun i _ => 2 - (intOf i).toNat)
          case atStart => exact ⟨0, by omega, rfl, fun _ => HF3.out, fun h => by omega, fun h => by omega, HCr.out⟩
          case round =>
            obtain ⟨j, hj, rfl, HJ0, HJ1, HJ2, HC⟩ := hrel
            rcases (show j = 0 ∨ j = 1 ∨ j = 2 by omega) with rfl | rfl | rfl
            · have HF4 := Lib.hid (HJ0.out rfl)
              clear HJ0 HJ1 HJ2 HF3
              by_cases h3 : 64 < a.size
              · have b3 : (64 : Int) < (a.size : Int) := by omega
                have HF5 : Hid (F = 3) := by rw [Hid, HF4.out, if_pos h3]
                go_wp2
                go_ret
                exact ⟨by rw [HF5.out]; rfl, HC.out⟩
              · have b3 : ¬ (64 : Int) < (a.size : Int) := by omega
                have b4 : ¬ (1024 : Int) < (a.size : Int) := by omega
                have HF5 := Lib.hid (show F = _ by rw [HF4.out, if_neg h3])
                go_wp2_with fail
                refine (HRA.out _).mono ?_
                rintro e w1 ⟨rfl, hc1⟩
                have HC1 := Lib.hid (HC.out.no hc1)
                clear hc1
                cases ra with
                | false =>
                  have HF6 : Hid (F = 162) := by rw [Hid, HF5.out]; rfl
                  go_wp2
                  go_ret
                  exact ⟨by rw [HF6.out]; rfl, HC1.out⟩
                | true =>
                  have HF6 : Hid (F = if 1024 < x.size then 3 else if rx = false then 162 else 0) := by rw [Hid, HF5.out]; rfl
                  go_wp2
                  go_roundw
                  case rel => exact ⟨1, by omega, by rfl, fun h => by omega, fun _ => HF6.out, fun h => by omega, HC1.out⟩
                  case measure => simp [intOf]
            · have HF4 := Lib.hid (HJ1.out rfl)
              clear HJ0 HJ1 HJ2 HF3
              by_cases h3 : 1024 < x.size
              · have b3 : (1024 : Int) < (x.size : Int) := by omega
                have HF5 : Hid (F = 3) := by rw [Hid, HF4.out, if_pos h3]
                go_wp2
                go_ret
                exact ⟨by rw [HF5.out]; rfl, HC.out⟩
              · have b3 : ¬ (1024 : Int) < (x.size : Int) := by omega
                have HF5 := Lib.hid (show F = _ by rw [HF4.out, if_neg h3])
                go_wp2_with fail
                refine (HRX.out _).mono ?_
                rintro e w1 ⟨rfl, hc1⟩
                have HC1 := Lib.hid (HC.out.no hc1)
                clear hc1
                cases rx with
                | false =>
                  have HF6 : Hid (F = 162) := by rw [Hid, HF5.out]; rfl
                  go_wp2
                  go_ret
                  exact ⟨by rw [HF6.out]; rfl, HC1.out⟩
                | true =>
                  have HF6 : Hid (F = 0) := by rw [Hid, HF5.out]; rfl
                  go_wp2
                  go_roundw
                  case rel => exact ⟨2, by omega, by rfl, fun h => by omega, fun h => by omega, fun _ => HF6.out, HC1.out⟩
                  case measure => simp [intOf]
            · have HF4 := Lib.hid (HJ2.out rfl)
              clear HJ0 HJ1 HJ2 HF3
              go_wp2
              go_ret
              exact ⟨by rw [HF4.out]; rfl, HC.out⟩
theorem refcommitO_no (w : World) (t : Nat) (A : Option Addr) (n c : Nat) (ps : List Nat) (a : ByteArray) (d : Int) (x : ByteArray) (h : Sl u64v w (.slice A n c) ps) (hn : n ≤ 9223372036854775807) (ha : a.size ≤ 9223372036854775807) (hx : x.size ≤ 9223372036854775807) (hF : commitF t ps a.data.toList x.data.toList ≠ 0) :
    Calls Try.prog 44 #[.agg #[.int .u64 (t : Int), .slice A n c, .string a, .int .i64 d, .string x]] w fun e w' => ∃ A' n' c', e = .returned (.tuple #[.slice A' n' c', .int .i64 (commitF t ps a.data.toList x.data.toList : Nat)]) ∧ OwnB w' w.heap.size (.slice A' n' c') [] ∧ ([] : List UInt8).length = n' ∧ Chg No w w' := by
  have hck := fun W hW => refcheck_commit W t A n c ps a d x (h.no hW) hn ha hx
  have hkb : ((commitF t ps a.data.toList x.data.toList : Int) != 0) = true := by simp; exact hF
  generalize commitF t ps a.data.toList x.data.toList = k at *
  have HCK := Lib.hid hck
  clear hck h
  go_enter Try.func44, Try.ntmps44
  go_wp2_with fail
  refine (HCK.out _ ((Chg.refl No w).alloc _)).mono ?_
  rintro e w1 ⟨rfl, hc1⟩
  go_wp2
  go_ret2
  exact ⟨none, 0, 0, rfl, World.ownsRow_nil _ _ _ _, rfl, ((Chg.refl No w).alloc _).no hc1⟩
theorem refcommit_no (w : World) (t : Nat) (A : Option Addr) (n c : Nat) (ps : List Nat) (a : ByteArray) (d : Int) (x : ByteArray) (h : Sl u64v w (.slice A n c) ps) (hn : n ≤ 9223372036854775807) (ha : a.size ≤ 9223372036854775807) (hx : x.size ≤ 9223372036854775807) (hF : commitF t ps a.data.toList x.data.toList ≠ 0) :
    Calls Try.prog 44 #[.agg #[.int .u64 (t : Int), .slice A n c, .string a, .int .i64 d, .string x]] w fun e w' => ∃ A' n' c', e = .returned (.tuple #[.slice A' n' c', .int .i64 (commitF t ps a.data.toList x.data.toList : Nat)]) ∧ Bytes w' (.slice A' n' c') [] ∧ ([] : List UInt8).length = n' ∧ Chg No w w' :=
  (refcommitO_no w t A n c ps a d x h hn ha hx hF).mono fun e w' ⟨A', n', c', h1, h2, h3, h4⟩ => ⟨A', n', c', h1, h2.bytes, h3, h4⟩

set_option maxHeartbeats 6400000 in
theorem refcommitO_ok (w : World) (t : Nat) (A : Option Addr) (n c : Nat) (ps : List Nat) (a : ByteArray) (d : Int) (x : ByteArray) (h : Sl u64v w (.slice A n c) ps) (hn : n ≤ 9223372036854775807) (ha : a.size ≤ 9223372036854775807) (hx : x.size ≤ 9223372036854775807) (ht : t < 18446744073709551616) (hp : ∀ q ∈ ps, q < 18446744073709551616) (hF : commitF t ps a.data.toList x.data.toList = 0) :
    Calls Try.prog 44 #[.agg #[.int .u64 (t : Int), .slice A n c, .string a, .int .i64 d, .string x]] w fun e w' => ∃ A' n' c', e = .returned (.tuple #[.slice A' n' c', .int .i64 0]) ∧ OwnB w' w.heap.size (.slice A' n' c') (commitB t ps a.data.toList d x.data.toList) ∧ (commitB t ps a.data.toList d x.data.toList).length = n' ∧ Chg No w w' := by
  obtain ⟨-, z2, -, z4, -, z6, -⟩ := commitF_zero hF
  have hn8 : n ≤ 8 := by have := h.len; omega
  have ha64 : a.size ≤ 64 := by have := size_list a; omega
  have hx1k : x.size ≤ 1024 := by have := size_list x; omega
  have HCK : Hid (∀ W, Chg No w W → Calls Try.prog 79 #[.agg #[.int .u64 (t : Int), .slice A n c, .string a, .int .i64 d, .string x]] W fun e w' => e = .returned (.int .i64 0) ∧ Chg No W w') := by
    intro W hW
    have := refcheck_commit W t A n c ps a d x (h.no hW) hn ha hx
    rwa [hF] at this
  have HL := Lib.hid h.len
  have H := Lib.hid h
  have HPB := Lib.hid hp
  have HCB : Hid (commitB t ps a.data.toList d x.data.toList = [99] ++ wide t ++ leb n ++ ps.flatMap wide ++ (leb a.size ++ a.data.toList) ++ wide (du d) ++ (leb x.size ++ x.data.toList)) := by
    rw [Hid, commitB, HL.out, size_list, size_list]
  clear h hF z2 z4 z6 hp
  have HQ := Lib.hid (heap_alloc_new w (.cells #[.int .u64 (t : Int), .slice A n c, .string a, .int .i64 d, .string x] 44))
  go_enter Try.func44, Try.ntmps44
  go_wp2_with fail
  refine (HCK.out _ ((Chg.refl No w).alloc _)).mono ?_
  rintro e w1 ⟨rfl, hc1⟩
  have HQ1 := Lib.hid (hc1.heap HQ.out (fun x => x))
  have HC1 := Lib.hid (((Chg.refl No w).alloc _).no hc1)
  clear hc1 HCK HQ
  generalize hg : w.heap.size = g at *
  have hw1 : g ≤ w1.heap.size := by have := HC1.out.size; omega
  have HC2 : Hid (Chg No w (w1.alloc (.cells (u8s [99]).toArray 5))) := HC1.out.alloc _
  have HQ2 := Lib.hid (((Chg.refl No w1).alloc (.cells (u8s [99]).toArray 5)).heap HQ1.out (fun x => x))
  have HO2 : Hid (OwnB (w1.alloc (.cells (u8s [99]).toArray 5)) g (.slice (some ⟨w1.heap.size, 0, none⟩) 1 1) [99]) := OwnB.mono (OwnB.lit w1 [99] (by unfold maxLen; decide)) hw1
  have HL2 : Hid (([99] : List UInt8).length = 1) := rfl
  have q0 : (w1.alloc (.cells #[.int .u8 99] 5)).cell? ⟨g, 0, none⟩ = some (.int .u64 (t : Int)) := cellAt HQ2.out 0 _ rfl
  go_wp2_with fail
  refine (refword_calls _ t (t : Int) rfl ht).mono ?_
  rintro e w20 ⟨v20, rfl, ho20, hc20⟩
  obtain ⟨A20, n20, c20, rfl, HL20, HO20⟩ := ho20.form
  have hn20 : n20 ≤ 8 := by have hh := HL20.out; rw [wide_len] at hh; omega
  have HC20 := Lib.hid (HC2.out.no hc20)
  have HQ20 := Lib.hid (hc20.heap HQ2.out (fun x => x))
  have HOx20 := Lib.hid (HO2.out.chg hc20 (fun _ _ x => x))
  have hw20 : g ≤ w20.heap.size := by have := HC20.out.size; omega
  clear ho20 hc20 HC2 HQ2 HO2
  go_wp2_with (at_builtin; (refine wpList_appB rfl (.tmp 13) (.tmp 16) rfl g (some ⟨w1.heap.size, 0, none⟩) 1 1 [99] A20 n20 c20 (wide t) rfl rfl ?own1 ?len1 ?src1 ?len2 ?bnd1 ?bas1 ?_; (case own1 => exact HOx20.out); (case len1 => exact HL2.out); (case src1 => exact HO20.out.bytes); (case len2 => exact HL20.out); (case bnd1 => omega); (case bas1 => omega); intro A3 c3 w3 hO3 hl3 hC3 hB3 hs3; refine Hid.out ?_))
  refine Lib.hid ?_
  have HC3 : Hid (Chg No w w3) := hC3 w (by omega) HC20.out
  have HQ3 := Lib.hid (hB3 _ _ _ HQ20.out (by decide))
  have HO3 := Lib.hid hO3
  have HL3 := Lib.hid hl3
  clear hO3 hl3 hC3 hB3 hs3 HC20 HQ20 HOx20 HO20 HL20 HL2
  have hm3 : 1 + n20 ≤ 9 := by omega
  generalize hmm3 : 1 + n20 = m3 at *
  clear hmm3
  generalize hyy3 : [99] ++ (wide t) = y3 at *
  have HY3 := Lib.hid hyy3
  clear hyy3
  have q1 := cellAt HQ3.out 1 _ rfl
  have hcv : IntKind.u64.wrap (n : Int) = (n : Int) := by rw [IntKind.wrap_u64]; omega
  go_wp2_with fail
  refine (refuint_calls _ n (n : Int) rfl (by omega)).mono ?_
  rintro e w30 ⟨v30, rfl, ho30, hc30⟩
  obtain ⟨A30, n30, c30, rfl, HL30, HO30⟩ := ho30.form
  have hn30 : n30 ≤ 10 := by have hh := HL30.out; have := leb_len10 n (by omega); omega
  have HC30 := Lib.hid (HC3.out.no hc30)
  have HQ30 := Lib.hid (hc30.heap HQ3.out (fun x => x))
  have HOx30 := Lib.hid (HO3.out.chg hc30 (fun _ _ x => x))
  have hw30 : g ≤ w30.heap.size := by have := HC30.out.size; omega
  clear ho30 hc30 HC3 HQ3 HO3
  go_wp2_with (at_builtin; (refine wpList_appB rfl (.tmp 18) (.tmp 23) rfl g A3 m3 c3 y3 A30 n30 c30 (leb n) rfl rfl ?own1 ?len1 ?src1 ?len2 ?bnd1 ?bas1 ?_; (case own1 => exact HOx30.out); (case len1 => exact HL3.out); (case src1 => exact HO30.out.bytes); (case len2 => exact HL30.out); (case bnd1 => omega); (case bas1 => omega); intro A4 c4 w4 hO4 hl4 hC4 hB4 hs4; refine Hid.out ?_))
  refine Lib.hid ?_
  have HC4 : Hid (Chg No w w4) := hC4 w (by omega) HC30.out
  have HQ4 := Lib.hid (hB4 _ _ _ HQ30.out (by decide))
  have HO4 := Lib.hid hO4
  have HL4 := Lib.hid hl4
  clear hO4 hl4 hC4 hB4 hs4 HC30 HQ30 HOx30 HO30 HL30 HL3
  have hm4 : m3 + n30 ≤ 19 := by omega
  generalize hmm4 : m3 + n30 = m4 at *
  clear hmm4
  generalize hyy4 : y3 ++ (leb n) = y4 at *
  have HY4 := Lib.hid hyy4
  clear hyy4
  have q1 := cellAt HQ4.out 1 _ rfl
  have HY4' : Hid (y4 ++ (ps.take 0).flatMap wide = y4) := by rw [Hid]; simp
  go_wp2
  go_loopw [5, 28] (fun l i wr => ∃ (k m : Nat) (Ak : Option Addr) (ck : Nat), k ≤ n ∧ Hid (m = m4 + 8 * k) ∧ m ≤ 83 ∧ i = .int .i64 (k : Int) ∧ l = .slice Ak m ck ∧ Hid (OwnB wr g (.slice Ak m ck) (y4 ++ (ps.take k).flatMap wide)) ∧ Hid ((y4 ++ (ps.take k).flatMap wide).length = m) ∧ Hid (wr.heap[g]? = some (.cells #[.int .u64 (t : Int), .slice A n c, .string a, .int .i64 d, .string x] 44)) ∧ Hid (Chg No w wr)) (fun _ i _ => n - (intOf i).toNat)
  case atStart => exact ⟨0, m4, _, _, Nat.zero_le _, by rw [Hid]; omega, by omega, rfl, rfl, by rw [HY4'.out]; exact HO4.out, by rw [HY4'.out]; exact HL4.out, HQ4.out, HC4.out⟩
  case round =>
    obtain ⟨k, mk, Ak, ck, hk, HMK, hmk83, rfl, rfl, HO, HM, HQr, HC⟩ := hrel
    clear HO4 HL4 HQ4 HC4
    by_cases hlt : k < n
    · obtain ⟨b, o, rfl, hcell⟩ := (H.out.no HC.out).addr (by rw [HL.out]; omega)
      have hc := hcell k (by rw [HL.out]; exact hlt)
      have HT : Hid (ps.take (k + 1) = ps.take k ++ [ps[k]'(by rw [HL.out]; exact hlt)]) := by rw [Hid, List.take_succ_eq_append_getElem]
      have hqb := HPB.out _ (List.getElem_mem (show k < ps.length by rw [HL.out]; exact hlt))
      generalize ps[k]'(by rw [HL.out]; exact hlt) = q at *
      unfold u64v at hc
      clear hcell
      have HNX : Hid (y4 ++ (ps.take (k + 1)).flatMap wide = y4 ++ (ps.take k).flatMap wide ++ wide q) := by rw [Hid, HT.out, List.flatMap_append, ← List.append_assoc]; simp
      generalize y4 ++ (ps.take k).flatMap wide = yk at *
      go_wp2_with fail
      refine (refword_calls _ q (q : Int) rfl hqb).mono ?_
      rintro e w90 ⟨v90, rfl, ho90, hc90⟩
      obtain ⟨A90, n90, c90, rfl, HL90, HO90⟩ := ho90.form
      have hn90 : n90 = 8 := by have hh := HL90.out; rw [wide_len] at hh; omega
      subst hn90
      have HC90 := Lib.hid (HC.out.no hc90)
      have HQ90 := Lib.hid (hc90.heap HQr.out (fun x => x))
      have HOx90 := Lib.hid (HO.out.chg hc90 (fun _ _ x => x))
      have hw90 : g ≤ w90.heap.size := by have := HC90.out.size; omega
      clear ho90 hc90 HC HQr HO hc
      go_wp2_with (at_builtin; (refine wpList_appB rfl (.tmp 32) (.tmp 34) rfl g Ak mk ck yk A90 8 c90 (wide q) rfl rfl ?own1 ?len1 ?src1 ?len2 ?bnd1 ?bas1 ?_; (case own1 => exact HOx90.out); (case len1 => exact HM.out); (case src1 => exact HO90.out.bytes); (case len2 => exact HL90.out); (case bnd1 => omega); (case bas1 => omega); intro A91 c91 w91 hO91 hl91 hC91 hB91 hs91; refine Hid.out ?_))
      refine Lib.hid ?_
      have HC91 : Hid (Chg No w w91) := hC91 w (by omega) HC90.out
      have HQ91 := Lib.hid (hB91 _ _ _ HQ90.out (by decide))
      have HO91 := Lib.hid hO91
      have HL91 := Lib.hid hl91
      clear hO91 hl91 hC91 hB91 hs91 HC90 HQ90 HOx90 HO90 HL90 HM
      go_wp2
      go_roundw
      case rel => exact ⟨k + 1, mk + 8, _, _, by omega, by have := HMK.out; rw [Hid]; omega, by have := HMK.out; omega, by simp, rfl, by rw [HNX.out]; exact HO91.out, by rw [HNX.out]; exact HL91.out, HQ91.out, HC91.out⟩
      case measure => simp [intOf]; omega
    · have hkn : k = n := by omega
      subst hkn
      have HYP : Hid (y4 ++ (ps.take k).flatMap wide = y4 ++ ps.flatMap wide) := by rw [Hid, List.take_of_length_le (by rw [HL.out]; exact Nat.le_refl _)]
      have HO5 := Lib.hid HO.out
      have HL5 := Lib.hid HM.out
      have HQ5 := Lib.hid HQr.out
      have HC5 := Lib.hid HC.out
      clear HO HM HQr HC
      generalize y4 ++ (ps.take k).flatMap wide = y5 at *
      generalize wr = w5 at *
      have hmk5 : mk ≤ 83 := hmk83
      have q2 := cellAt HQ5.out 2 _ rfl
      go_wp2_with fail
      refine (reftext_calls _ a (by omega)).mono ?_
      rintro e w50 ⟨v50, rfl, ho50, hc50⟩
      obtain ⟨A50, n50, c50, rfl, HL50, HO50⟩ := ho50.form
      have hn50 : n50 ≤ 80 := by have hh := HL50.out; have := leb_len10 a.size (by omega); rw [List.length_append, size_list] at hh; omega
      have HC50 := Lib.hid (HC5.out.no hc50)
      have HQ50 := Lib.hid (hc50.heap HQ5.out (fun x => x))
      have HOx50 := Lib.hid (HO5.out.chg hc50 (fun _ _ x => x))
      have hw50 : g ≤ w50.heap.size := by have := HC50.out.size; omega
      clear ho50 hc50 HC5 HQ5 HO5
      go_wp2_with (at_builtin; (refine wpList_appB rfl (.tmp 37) (.tmp 40) rfl g Ak mk ck y5 A50 n50 c50 (leb a.size ++ a.data.toList) rfl rfl ?own1 ?len1 ?src1 ?len2 ?bnd1 ?bas1 ?_; (case own1 => exact HOx50.out); (case len1 => exact HL5.out); (case src1 => exact HO50.out.bytes); (case len2 => exact HL50.out); (case bnd1 => omega); (case bas1 => omega); intro A6 c6 w6 hO6 hl6 hC6 hB6 hs6; refine Hid.out ?_))
      refine Lib.hid ?_
      have HC6 : Hid (Chg No w w6) := hC6 w (by omega) HC50.out
      have HQ6 := Lib.hid (hB6 _ _ _ HQ50.out (by decide))
      have HO6 := Lib.hid hO6
      have HL6 := Lib.hid hl6
      clear hO6 hl6 hC6 hB6 hs6 HC50 HQ50 HOx50 HO50 HL50 HL5
      have hm6 : mk + n50 ≤ 163 := by omega
      generalize hmm6 : mk + n50 = m6 at *
      clear hmm6
      generalize hyy6 : y5 ++ (leb a.size ++ a.data.toList) = y6 at *
      have HY6 := Lib.hid hyy6
      clear hyy6
      have q3 := cellAt HQ6.out 3 _ rfl
      have hdu : IntKind.u64.wrap d = (du d : Int) := wrap_du d
      go_wp2_with fail
      refine (refword_calls _ (du d) (du d : Int) rfl (du_lt d)).mono ?_
      rintro e w60 ⟨v60, rfl, ho60, hc60⟩
      obtain ⟨A60, n60, c60, rfl, HL60, HO60⟩ := ho60.form
      have hn60 : n60 ≤ 8 := by have hh := HL60.out; rw [wide_len] at hh; omega
      have HC60 := Lib.hid (HC6.out.no hc60)
      have HQ60 := Lib.hid (hc60.heap HQ6.out (fun x => x))
      have HOx60 := Lib.hid (HO6.out.chg hc60 (fun _ _ x => x))
      have hw60 : g ≤ w60.heap.size := by have := HC60.out.size; omega
      clear ho60 hc60 HC6 HQ6 HO6
      go_wp2_with (at_builtin; (refine wpList_appB rfl (.tmp 42) (.tmp 46) rfl g A6 m6 c6 y6 A60 n60 c60 (wide (du d)) rfl rfl ?own1 ?len1 ?src1 ?len2 ?bnd1 ?bas1 ?_; (case own1 => exact HOx60.out); (case len1 => exact HL6.out); (case src1 => exact HO60.out.bytes); (case len2 => exact HL60.out); (case bnd1 => omega); (case bas1 => omega); intro A7 c7 w7 hO7 hl7 hC7 hB7 hs7; refine Hid.out ?_))
      refine Lib.hid ?_
      have HC7 : Hid (Chg No w w7) := hC7 w (by omega) HC60.out
      have HQ7 := Lib.hid (hB7 _ _ _ HQ60.out (by decide))
      have HO7 := Lib.hid hO7
      have HL7 := Lib.hid hl7
      clear hO7 hl7 hC7 hB7 hs7 HC60 HQ60 HOx60 HO60 HL60 HL6
      have hm7 : m6 + n60 ≤ 171 := by omega
      generalize hmm7 : m6 + n60 = m7 at *
      clear hmm7
      generalize hyy7 : y6 ++ (wide (du d)) = y7 at *
      have HY7 := Lib.hid hyy7
      clear hyy7
      have q4 := cellAt HQ7.out 4 _ rfl
      go_wp2_with fail
      refine (reftext_calls _ x (by omega)).mono ?_
      rintro e w70 ⟨v70, rfl, ho70, hc70⟩
      obtain ⟨A70, n70, c70, rfl, HL70, HO70⟩ := ho70.form
      have hn70 : n70 ≤ 1040 := by have hh := HL70.out; have := leb_len10 x.size (by omega); rw [List.length_append, size_list] at hh; omega
      have HC70 := Lib.hid (HC7.out.no hc70)
      have HQ70 := Lib.hid (hc70.heap HQ7.out (fun x => x))
      have HOx70 := Lib.hid (HO7.out.chg hc70 (fun _ _ x => x))
      have hw70 : g ≤ w70.heap.size := by have := HC70.out.size; omega
      clear ho70 hc70 HC7 HQ7 HO7
      go_wp2_with (at_builtin; (refine wpList_appB rfl (.tmp 48) (.tmp 51) rfl g A7 m7 c7 y7 A70 n70 c70 (leb x.size ++ x.data.toList) rfl rfl ?own1 ?len1 ?src1 ?len2 ?bnd1 ?bas1 ?_; (case own1 => exact HOx70.out); (case len1 => exact HL7.out); (case src1 => exact HO70.out.bytes); (case len2 => exact HL70.out); (case bnd1 => omega); (case bas1 => omega); intro A8 c8 w8 hO8 hl8 hC8 hB8 hs8; refine Hid.out ?_))
      refine Lib.hid ?_
      have HC8 : Hid (Chg No w w8) := hC8 w (by omega) HC70.out
      have HQ8 := Lib.hid (hB8 _ _ _ HQ70.out (by decide))
      have HO8 := Lib.hid hO8
      have HL8 := Lib.hid hl8
      clear hO8 hl8 hC8 hB8 hs8 HC70 HQ70 HOx70 HO70 HL70 HL7
      have hm8 : m7 + n70 ≤ 1211 := by omega
      generalize hmm8 : m7 + n70 = m8 at *
      clear hmm8
      generalize hyy8 : y7 ++ (leb x.size ++ x.data.toList) = y8 at *
      have HY8 := Lib.hid hyy8
      clear hyy8
      have HE : Hid (y8 = commitB t ps a.data.toList d x.data.toList) := by rw [Hid, HCB.out, ← HY8.out, ← HY7.out, ← HY6.out, HYP.out, ← HY4.out, ← HY3.out]
      go_wp2
      go_ret2
      exact ⟨_, _, _, rfl, by rw [hg, ← HE.out]; exact HO8.out, by rw [← HE.out]; exact HL8.out, HC8.out⟩
theorem refcommit_ok (w : World) (t : Nat) (A : Option Addr) (n c : Nat) (ps : List Nat) (a : ByteArray) (d : Int) (x : ByteArray) (h : Sl u64v w (.slice A n c) ps) (hn : n ≤ 9223372036854775807) (ha : a.size ≤ 9223372036854775807) (hx : x.size ≤ 9223372036854775807) (ht : t < 18446744073709551616) (hp : ∀ q ∈ ps, q < 18446744073709551616) (hF : commitF t ps a.data.toList x.data.toList = 0) :
    Calls Try.prog 44 #[.agg #[.int .u64 (t : Int), .slice A n c, .string a, .int .i64 d, .string x]] w fun e w' => ∃ A' n' c', e = .returned (.tuple #[.slice A' n' c', .int .i64 0]) ∧ Bytes w' (.slice A' n' c') (commitB t ps a.data.toList d x.data.toList) ∧ (commitB t ps a.data.toList d x.data.toList).length = n' ∧ Chg No w w' :=
  (refcommitO_ok w t A n c ps a d x h hn ha hx ht hp hF).mono fun e w' ⟨A', n', c', h1, h2, h3, h4⟩ => ⟨A', n', c', h1, h2.bytes, h3, h4⟩
end Go.Proofs.Ytccphnkdnifpfaa

namespace Go.Proofs.Ytccphnkdnifpfaa
set_option linter.unnecessarySimpa false
open Go.RowKit
set_option linter.unusedVariables false
set_option linter.unusedSimpArgs false
set_option maxRecDepth 100000

structure Cu where
  rest : List UInt8
  wrong : Bool
def cTake (n : Nat) (c : Cu) : List UInt8 × Cu := if c.wrong = true ∨ c.rest.length < n then ([], ⟨c.rest, true⟩) else (c.rest.take n, ⟨c.rest.drop n, false⟩)
def cWord (c : Cu) : Nat × Cu := (beF 0 (cTake 8 c).1, (cTake 8 c).2)
/-- The second byte of a number. -/
def cNum2 (n : Nat) (c : Cu) : Nat × Cu :=
  if (cTake 1 c).2.wrong = true then (0, (cTake 1 c).2)
  else if ((cTake 1 c).1.getD 0 0).toNat < 128 then (n + ((cTake 1 c).1.getD 0 0).toNat % 128 * 128, ⟨(cTake 1 c).2.rest, ((cTake 1 c).1.getD 0 0).toNat == 0⟩)
  else (0, ⟨(cTake 1 c).2.rest, true⟩)
def cNum (c : Cu) : Nat × Cu :=
  if (cTake 1 c).2.wrong = true then (0, (cTake 1 c).2)
  else if ((cTake 1 c).1.getD 0 0).toNat < 128 then (((cTake 1 c).1.getD 0 0).toNat % 128, ⟨(cTake 1 c).2.rest, false⟩)
  else cNum2 (((cTake 1 c).1.getD 0 0).toNat % 128) (cTake 1 c).2
def cText (c : Cu) : List UInt8 × Cu := cTake (cNum c).1 (cNum c).2

/-- A cursor's cells. -/
def CU (w : World) (g d : Nat) (c : Cu) : Prop :=
  ∃ A n cap, w.heap[g]? = some (.cells #[.slice A n cap, .bool c.wrong] 152 (0, 0)) ∧ Bytes w (.slice A n cap) c.rest ∧ c.rest.length = n ∧ (∀ p, A = some p → p.block = d) ∧ d ≠ g
theorem CU.chg {S : Nat → Prop} {w w' : World} {g d : Nat} {c : Cu} (h : CU w g d c) (hc : Chg S w w') (hg : ¬ S g) (hd : ¬ S d) : CU w' g d c := by
  obtain ⟨A, n, cap, h1, h2, h3, h4, h5⟩ := h
  refine ⟨A, n, cap, hc.heap h1 hg, h2.chg hc ?_, h3, h4, h5⟩
  intro b hb
  cases A with
  | none => simp [Value.ownBlock] at hb
  | some p => simp [Value.ownBlock] at hb; rw [← hb, h4 p rfl]; exact hd
theorem CU.no {w w' : World} {g d : Nat} {c : Cu} (h : CU w g d c) (hc : Chg No w w') : CU w' g d c := h.chg hc (fun x => x) (fun x => x)
theorem CU.lt {w : World} {g d : Nat} {c : Cu} (h : CU w g d c) : g < w.heap.size := by obtain ⟨A, n, cap, h1, _⟩ := h; exact (Array.getElem?_eq_some_iff.1 h1).1
theorem CU.flag {w : World} {g d : Nat} {c : Cu} (h : CU w g d c) (b : Bool) : CU (w.setCell ⟨g, 1, none⟩ (.bool b)) g d ⟨c.rest, b⟩ := by
  obtain ⟨A, n, cap, h1, h2, h3, h4, h5⟩ := h
  refine ⟨A, n, cap, heap_set h1 1 _, h2.chg (Chg.put w g 1 _) ?_, h3, h4, h5⟩
  intro b hb
  cases A with
  | none => simp [Value.ownBlock] at hb
  | some p =>
    simp [Value.ownBlock] at hb
    intro h
    have h : b = g := h
    exact h5 ((h4 p rfl).symm.trans (hb.trans h))
theorem CU.wrongCell {w : World} {g d : Nat} {c : Cu} (h : CU w g d c) : w.cell? ⟨g, 1, none⟩ = some (.bool c.wrong) ∧ w.frozen? ⟨g, 1, none⟩ = false := by
  obtain ⟨A, n, cap, h1, _⟩ := h
  exact ⟨cellAt h1 1 _ rfl, frzAt h1 1⟩

set_option maxHeartbeats 1600000 in
theorem take_cu (w : World) (g d : Nat) (c : Cu) (n : Nat) (h : CU w g d c) (hn : n ≤ 1000000) (hl : c.rest.length ≤ 1000000) :
    Calls Try.prog 92 #[.pointer (some ⟨g, 0, none⟩), .int .i64 (n : Int)] w fun e w' => ∃ A m c', e = .returned (.slice A m c') ∧ Bytes w' (.slice A m c') (cTake n c).1 ∧ (cTake n c).1.length = m ∧ CU w' g d (cTake n c).2 ∧ Chg (One g) w w' ∧ (∀ p, A = some p → p.block = d) := by
  have H := Lib.hid h
  obtain ⟨A, m, cap, h1, h2, h3, h4, h5⟩ := h
  obtain ⟨xs, wr⟩ := c
  simp only at h1 h2 h3 hl
  have k0 := cellAt h1 0 _ rfl
  have k1 := cellAt h1 1 _ rfl
  have f0 := frzAt h1 0
  have f1 := frzAt h1 1
  have hmc : m ≤ cap := by
    obtain ⟨A', c', he, hq, -⟩ := h2.form
    simp only [Value.slice.injEq] at he
    omega
  have H1 := Lib.hid h1
  have H2 := Lib.hid h2
  have H3 := Lib.hid h3
  have H4 := Lib.hid h4
  clear h1 h2 h4
  cases wr with
  | true =>
    have HT : Hid (cTake n ⟨xs, true⟩ = ([], ⟨xs, true⟩)) := by rw [Hid, cTake, if_pos (.inl rfl)]
    have HF := Lib.hid (H.out.flag true)
    go_enter Try.func92, Try.ntmps92
    go_wp2
    go_ret
    exact ⟨none, 0, 0, rfl, by rw [HT.out]; exact Bytes.nil _, by rw [HT.out]; rfl, by rw [HT.out]; exact HF.out, Chg.put w g 1 _, (fun p hp => by cases hp)⟩
  | false =>
    by_cases hlt : m < n
    · have HT : Hid (cTake n ⟨xs, false⟩ = ([], ⟨xs, true⟩)) := by rw [Hid, cTake, if_pos (.inr (by show xs.length < n; omega))]
      have HF := Lib.hid (H.out.flag true)
      have hb : (m : Int) < (n : Int) := by omega
      clear h3
      go_enter Try.func92, Try.ntmps92
      go_wp2
      go_ret
      exact ⟨none, 0, 0, rfl, by rw [HT.out]; exact Bytes.nil _, by rw [HT.out]; rfl, by rw [HT.out]; exact HF.out, Chg.put w g 1 _, (fun p hp => by cases hp)⟩
    · have HT : Hid (cTake n ⟨xs, false⟩ = (xs.take n, ⟨xs.drop n, false⟩)) := by
        rw [Hid, cTake, if_neg]
        rintro (h | h)
        · cases h
        · have h : xs.length < n := h; omega
      have hb : ¬ (m : Int) < (n : Int) := by omega
      have hnc : (n : Int) ≤ (cap : Int) := by omega
      have hnm : (n : Int) ≤ (m : Int) := by omega
      subst h3
      have HD := Lib.hid (H2.out.drop (k := n) (by omega))
      have HTK := Lib.hid (H2.out.take (k := n) (m := cap) (by omega) (by omega) (Nat.le_refl _))
      have hblk : ∀ (v : Value) (b : Nat), (Value.slice A xs.length cap).ownBlock = some b → b = d := by
        intro v b hb
        cases A with
        | none => simp [Value.ownBlock] at hb
        | some p => simp [Value.ownBlock] at hb; rw [← hb]; exact H4.out p rfl
      have HFIN : Hid (∀ A', (∀ p, A' = some p → p.block = d) → Bytes w (.slice A' (xs.length - n) (cap - n)) (xs.drop n) → CU (w.setCell ⟨g, 0, none⟩ (.slice A' (xs.length - n) (cap - n))) g d ⟨xs.drop n, false⟩) := by
        intro A' hA hB
        refine ⟨A', _, _, heap_set H1.out 0 _, hB.chg (Chg.put w g 0 _) ?_, by rw [List.length_drop], hA, h5⟩
        intro b hb h
        have h : b = g := h
        cases A' with
        | none => simp [Value.ownBlock] at hb
        | some p => simp [Value.ownBlock] at hb; exact h5 ((hA p rfl).symm.trans (hb.trans h))
      have HTB : Hid (∀ u, Bytes (w.setCell ⟨g, 0, none⟩ u) (.slice A n cap) (xs.take n)) := by
        intro u
        refine HTK.out.chg (Chg.put w g 0 _) ?_
        intro b hb h
        have h : b = g := h
        cases A with
        | none => simp [Value.ownBlock] at hb
        | some p => simp [Value.ownBlock] at hb; exact h5 ((H4.out p rfl).symm.trans (hb.trans h))
      have HLT : Hid ((xs.take n).length = n) := by rw [Hid, List.length_take]; omega
      clear hblk
      by_cases hcn : cap = n
      · have HD2 := HD.out
        rw [if_pos hcn] at HD2
        have HD3 := Lib.hid HD2
        clear HD HD2
        subst hcn
        have hfin := HFIN.out A H4.out HD3.out
        rw [Nat.sub_self, show xs.length - cap = 0 by omega] at hfin
        have HFN := Lib.hid hfin
        clear hfin HFIN HD3
        generalize hxl : xs.length = xl at *
        clear hxl
        go_enter Try.func92, Try.ntmps92
        go_wp2
        go_ret
        exact ⟨A, _, _, rfl, by rw [HT.out]; exact HTB.out _, by rw [HT.out]; exact HLT.out, by rw [HT.out]; exact HFN.out, Chg.put w g 0 _, H4.out⟩
      · have HD2 := HD.out
        rw [if_neg hcn] at HD2
        have HD3 := Lib.hid HD2
        have HAM : Hid (∀ p, A.map (·.add n) = some p → p.block = d) := by
          intro p hp
          cases A with
          | none => cases hp
          | some q =>
            cases hp
            unfold Addr.add
            split <;> exact H4.out q rfl
        clear HD HD2
        generalize hxl : xs.length = xl at *
        clear hxl
        go_enter Try.func92, Try.ntmps92
        go_wp2
        go_ret
        exact ⟨A, n, cap, rfl, by rw [HT.out]; exact HTB.out _, by rw [HT.out]; exact HLT.out, by rw [HT.out]; exact HFIN.out _ HAM.out HD3.out, Chg.put w g 0 _, H4.out⟩

set_option maxHeartbeats 1600000 in
theorem word_cu (w : World) (g d : Nat) (c : Cu) (h : CU w g d c) (hl : c.rest.length ≤ 1000000) :
    Calls Try.prog 93 #[.pointer (some ⟨g, 0, none⟩)] w fun e w' => e = .returned (.int .u64 ((cWord c).1 : Int)) ∧ CU w' g d (cWord c).2 ∧ Chg (One g) w w' := by
  unfold cWord
  have H := Lib.hid h
  clear h
  go_enter Try.func93, Try.ntmps93
  go_wp2_with fail
  refine (take_cu w g d c 8 H.out (by omega) hl).mono ?_
  rintro e w1 ⟨A, m, c', rfl, hb, hbl, hcu, hc, -⟩
  have HCU := Lib.hid hcu
  have HC := Lib.hid hc
  have HB := Lib.hid hb
  have HL := Lib.hid hbl
  have hm8 : m ≤ 8 := by
    have : (cTake 8 c).1.length ≤ 8 := by
      unfold cTake
      split
      · simp
      · rw [List.length_take]; omega
    omega
  clear hb hbl hcu hc
  generalize hys : (cTake 8 c).1 = ys at *
  generalize hc2 : (cTake 8 c).2 = c2 at *
  have HYS := Lib.hid hys
  have HC2 := Lib.hid hc2
  clear hys hc2
  go_wp2
  go_loop [3, 9] (fun x i => ∃ k : Nat, k ≤ m ∧ i = .int .i64 (k : Int) ∧ x = .int .u64 ((beF 0 (ys.take k) : Nat) : Int)) (fun _ i => m - (intOf i).toNat)
  case atStart => exact ⟨0, by omega, rfl, rfl⟩
  case round =>
    obtain ⟨k, hk, rfl, rfl⟩ := hrel
    by_cases hlt : k < m
    · obtain ⟨b, o, rfl, hcell⟩ := HB.out.addr (by rw [HL.out]; omega)
      have hc := hcell k (by rw [HL.out]; exact hlt)
      have HT := Lib.hid (beF_take ys 0 k (by rw [HL.out]; exact hlt))
      generalize ys[k]'(by rw [HL.out]; exact hlt) = u at hc HT
      have hu : u.toNat < 256 := u.toNat_lt
      have hbl : beF 0 (ys.take k) < 72057594037927936 := by
        have h1 := beF_lt (ys.take k) 0
        have h2 : (ys.take k).length ≤ 7 := by rw [List.length_take]; omega
        have h3 := Nat.pow_le_pow_right (n := 256) (by decide) h2
        have h4 : (256 : Nat) ^ 7 = 72057594037927936 := by decide
        omega
      have HO := Lib.hid (shl8_or _ u.toNat hbl hu)
      clear hbl hcell
      generalize hy : beF 0 (ys.take k) = y at *
      have HY := Lib.hid hy
      clear hy
      go_wp2
      go_round
      case rel => exact ⟨k + 1, by omega, by go_num, by rw [HT.out]; exact congrArg (Value.int .u64) HO.out⟩
      case measure => simp [intOf]; omega
    · have hk8 : k = m := by omega
      subst hk8
      go_wp2
      go_ret
      exact ⟨by rw [HYS.out, List.take_of_length_le (by rw [HL.out]; exact Nat.le_refl _)]; rfl, by rw [HC2.out]; exact HCU.out, HC.out⟩

theorem num_len (c : Cu) : (cNum c).2.rest.length ≤ c.rest.length ∧ (cNum c).1 < 16384 := by
  have h1 : ∀ (n : Nat) (c : Cu), (cTake n c).2.rest.length ≤ c.rest.length := by
    intro n c
    unfold cTake
    split
    · exact Nat.le_refl _
    · simp only [List.length_drop]; omega
  have h2 : ∀ u : UInt8, u.toNat % 128 < 128 := fun u => Nat.mod_lt _ (by decide)
  unfold cNum
  split
  · exact ⟨h1 _ _, by show 0 < 16384; decide⟩
  · split
    · exact ⟨h1 _ _, by have := h2 ((cTake 1 c).1.getD 0 0); simp only; omega⟩
    · have h3 := h1 1 (cTake 1 c).2
      have h4 := h1 1 c
      have h5 := h2 ((cTake 1 c).1.getD 0 0)
      unfold cNum2
      split
      · exact ⟨by simp only; omega, by show 0 < 16384; decide⟩
      · split
        · have h6 := h2 ((cTake 1 (cTake 1 c).2).1.getD 0 0)
          exact ⟨by simp only; omega, by simp only; omega⟩
        · exact ⟨by simp only; omega, by show 0 < 16384; decide⟩
theorem take_one_form (c : Cu) (h : (cTake 1 c).2.wrong = false) : ∃ u t, c.rest = u :: t ∧ c.wrong = false ∧ cTake 1 c = ([u], ⟨t, false⟩) := by
  obtain ⟨xs, wr⟩ := c
  unfold cTake at h ⊢
  split at h
  · cases h
  · rename_i hn
    simp only [not_or] at hn
    cases xs with
    | nil => exact absurd (by simp) hn.2
    | cons u t =>
      cases wr with
      | true => exact absurd rfl hn.1
      | false => exact ⟨u, t, rfl, rfl, by rw [if_neg (by simpa using hn.2)]; rfl⟩
theorem w64 (x : Int) (h0 : 0 ≤ x) (h1 : x < 9223372036854775808) : wrap64 x = x := by
  unfold wrap64; omega
theorem shl0 (u : Nat) (h : u < 256) : wrap64 (wrap64 (wrap64 (bits .and .u8 (u : Int) 127))) = ((u % 128 : Nat) : Int) := by
  have e := w64 ((u % 128 : Nat) : Int) (by omega) (by omega)
  rw [and127 u h, e, e, e]
theorem shl7 (n u : Nat) (hn : n < 128) (h : u < 256) : wrap64 ((n : Int) + wrap64 (wrap64 (bits .and .u8 (u : Int) 127) * 128)) = ((n + u % 128 * 128 : Nat) : Int) := by
  rw [and127 u h, w64 ((u % 128 : Nat) : Int) (by omega) (by omega), w64 (((u % 128 : Nat) : Int) * 128) (by omega) (by omega), w64 ((n : Int) + ((u % 128 : Nat) : Int) * 128) (by omega) (by omega)]
  simp
set_option maxHeartbeats 3200000 in
theorem num_cu (w : World) (g d : Nat) (c : Cu) (h : CU w g d c) (hl : c.rest.length ≤ 1000000) :
    Calls Try.prog 90 #[.pointer (some ⟨g, 0, none⟩)] w fun e w' => e = .returned (.int .i64 ((cNum c).1 : Int)) ∧ CU w' g d (cNum c).2 ∧ Chg (One g) w w' := by
  have H := Lib.hid h
  have HLN := Lib.hid hl
  clear h
  go_enter Try.func90, Try.ntmps90
  go_wp2
  go_loopw [3, 4] (fun a i wr => ∃ (k n : Nat) (c2 : Cu), k ≤ 2 ∧ (k ≤ 1 → n < 128) ∧ a = .int .i64 (n : Int) ∧ i = .int .i64 ((7 * k : Nat) : Int) ∧ c2.rest.length ≤ 1000000 ∧ Hid (k = 0 → c2 = c ∧ n = 0) ∧ Hid (k = 1 → cNum c = cNum2 n c2) ∧ Hid (k = 2 → cNum c = (0, ⟨c2.rest, true⟩)) ∧ Hid (CU wr g d c2) ∧ Hid (Chg (One g) w wr)) (fun _ i _ => 14 - (intOf i).toNat)
  case atStart => exact ⟨0, 0, c, by omega, fun _ => by omega, rfl, rfl, HLN.out, fun _ => ⟨rfl, rfl⟩, (fun h => by cases h), (fun h => by cases h), H.out, Chg.refl _ _⟩
  case round =>
    obtain ⟨k, n, c2, hk, hn, rfl, rfl, hl2, HK0, HK1, HK2, HCU, HC⟩ := hrel
    have HDONE : Hid (∀ wx, Chg (One g) wr wx → Chg (One g) w wx) := fun wx hx => HC.out.one hx (.inr rfl)
    rcases (show k = 0 ∨ k = 1 ∨ k = 2 by omega) with rfl | rfl | rfl
    · obtain ⟨he, hn0⟩ := HK0.out rfl
      subst he
      subst hn0
      clear HK0 HK1 HK2
      go_wp2_with fail
      refine (take_cu wr g d c2 1 HCU.out (by omega) hl2).mono ?_
      rintro e w1 ⟨A, m, c', rfl, hb, hbl, hcu, hc, -⟩
      have HC1 := Lib.hid (HDONE.out _ hc)
      have k1 := hcu.wrongCell.1
      have f1 := hcu.wrongCell.2
      have HCU1 := Lib.hid hcu
      cases hw : (cTake 1 c2).2.wrong with
      | true =>
        have HN : Hid (cNum c2 = (0, (cTake 1 c2).2)) := by rw [Hid, cNum, if_pos hw]
        rw [hw] at k1
        clear hb hbl hcu hc hw
        go_wp2
        go_ret
        exact ⟨by rw [HN.out]; rfl, by rw [HN.out]; exact HCU1.out, HC1.out⟩
      | false =>
        obtain ⟨u, t, hr, hwf, ht⟩ := take_one_form c2 hw
        rw [hw] at k1
        rw [ht] at hb hbl
        obtain ⟨b, o, rfl, hcell⟩ := hb.addr (by simp)
        have hu0 := hcell 0 (by simp)
        simp only [Nat.add_zero, List.getElem_cons_zero] at hu0
        have hm : m = 1 := hbl.symm
        subst hm
        have hu := u.toNat_lt
        have e1 := Lib.hid (shl0 u.toNat hu)
        have HTT := Lib.hid ht
        have HR : Hid (t.length ≤ 1000000) := by have := HLN.out; rw [hr] at this; simp at this; rw [Hid]; omega
        clear hb hbl hcu hc hw hcell ht hr hwf
        by_cases h128 : u.toNat < 128
        · have HN : Hid (cNum c2 = (u.toNat % 128, ⟨t, false⟩)) := by
            rw [Hid, cNum, HTT.out]
            simp [h128]
          have HF1 : Hid (CU (w1.setCell ⟨g, 1, none⟩ (.bool false)) g d ⟨t, false⟩) := by have := HCU1.out.flag false; rw [HTT.out] at this; exact this
          have hb128 : (u.toNat : Int) < 128 := by omega
          by_cases hz : u.toNat = 0
          · have hzb : ((u.toNat : Int) == 0) = true := by rw [hz]; rfl
            have EX := Lib.hid e1.out
            clear h128 hz
            go_wp2
            go_ret
            exact ⟨by rw [HN.out]; exact congrArg Ending.returned (congrArg (Value.int .i64) EX.out), by rw [HN.out]; exact HF1.out, HC1.out.one (Chg.put w1 g 1 _) (.inr rfl)⟩
          · have hzb : ((u.toNat : Int) == 0) = false := by simp; omega
            clear h128 hz
            go_wp2
            go_ret
            exact ⟨by rw [HN.out]; exact congrArg Ending.returned (congrArg (Value.int .i64) e1.out), by rw [HN.out]; exact HF1.out, HC1.out.one (Chg.put w1 g 1 _) (.inr rfl)⟩
        · have HN : Hid (cNum c2 = cNum2 (u.toNat % 128) ⟨t, false⟩) := by
            rw [Hid, cNum, HTT.out]
            simp [h128]
          have hb128 : ¬ (u.toNat : Int) < 128 := by omega
          have HCU2 : Hid (CU w1 g d ⟨t, false⟩) := by have := HCU1.out; rw [HTT.out] at this; exact this
          have hum : u.toNat % 128 < 128 := Nat.mod_lt _ (by decide)
          clear h128
          go_wp2
          go_roundw
          case rel => exact ⟨1, u.toNat % 128, ⟨t, false⟩, by omega, fun _ => hum, by rw [e1.out], rfl, HR.out, (fun h => by cases h), (fun _ => HN.out), (fun h => by cases h), HCU2.out, HC1.out⟩
          case measure => simp [intOf]
    · have HCN := Lib.hid (HK1.out rfl)
      have hn := hn (by omega)
      clear HK0 HK1 HK2
      go_wp2_with fail
      refine (take_cu wr g d c2 1 HCU.out (by omega) hl2).mono ?_
      rintro e w1 ⟨A, m, c', rfl, hb, hbl, hcu, hc, -⟩
      have HC1 := Lib.hid (HDONE.out _ hc)
      have k1 := hcu.wrongCell.1
      have f1 := hcu.wrongCell.2
      have HCU1 := Lib.hid hcu
      cases hw : (cTake 1 c2).2.wrong with
      | true =>
        have HN : Hid (cNum c = (0, (cTake 1 c2).2)) := by rw [Hid, HCN.out, cNum2, if_pos hw]
        rw [hw] at k1
        clear hb hbl hcu hc hw
        go_wp2
        go_ret
        exact ⟨by rw [HN.out]; rfl, by rw [HN.out]; exact HCU1.out, HC1.out⟩
      | false =>
        obtain ⟨u, t, hr, hwf, ht⟩ := take_one_form c2 hw
        rw [hw] at k1
        rw [ht] at hb hbl
        obtain ⟨b, o, rfl, hcell⟩ := hb.addr (by simp)
        have hu0 := hcell 0 (by simp)
        simp only [Nat.add_zero, List.getElem_cons_zero] at hu0
        have hm : m = 1 := hbl.symm
        subst hm
        have hu := u.toNat_lt
        have e1 := Lib.hid (shl7 n u.toNat hn hu)
        have HTT := Lib.hid ht
        clear hb hbl hcu hc hw hcell ht hwf
        have HR : Hid (t.length ≤ 1000000) := by rw [hr] at hl2; simp at hl2; rw [Hid]; omega
        clear hr
        by_cases h128 : u.toNat < 128
        · have HN : Hid (cNum c = (n + u.toNat % 128 * 128, ⟨t, u.toNat == 0⟩)) := by
            rw [Hid, HCN.out, cNum2, HTT.out]
            simp [h128]
          have hb128 : (u.toNat : Int) < 128 := by omega
          by_cases hz : u.toNat = 0
          · have hzb : ((u.toNat : Int) == 0) = true := by rw [hz]; rfl
            have HZ : Hid ((u.toNat == 0) = true) := by rw [Hid, hz]; rfl
            have HF1 : Hid (CU (w1.setCell ⟨g, 1, none⟩ (.bool true)) g d ⟨t, true⟩) := by have := HCU1.out.flag true; rw [HTT.out] at this; exact this
            clear h128 hz
            go_wp2
            go_ret
            exact ⟨by rw [HN.out]; exact congrArg Ending.returned (congrArg (Value.int .i64) e1.out), by rw [HN.out, HZ.out]; exact HF1.out, HC1.out.one (Chg.put w1 g 1 _) (.inr rfl)⟩
          · have hzb : ((u.toNat : Int) == 0) = false := by simp; omega
            have HZ : Hid ((u.toNat == 0) = false) := by rw [Hid, beq_eq_false_iff_ne]; exact hz
            have HF1 : Hid (CU (w1.setCell ⟨g, 1, none⟩ (.bool false)) g d ⟨t, false⟩) := by have := HCU1.out.flag false; rw [HTT.out] at this; exact this
            clear h128 hz
            go_wp2
            go_ret
            exact ⟨by rw [HN.out]; exact congrArg Ending.returned (congrArg (Value.int .i64) e1.out), by rw [HN.out, HZ.out]; exact HF1.out, HC1.out.one (Chg.put w1 g 1 _) (.inr rfl)⟩
        · have HN : Hid (cNum c = (0, ⟨t, true⟩)) := by
            rw [Hid, HCN.out, cNum2, HTT.out]
            simp [h128]
          have hb128 : ¬ (u.toNat : Int) < 128 := by omega
          have HCU2 : Hid (CU w1 g d ⟨t, false⟩) := by have := HCU1.out; rw [HTT.out] at this; exact this
          clear h128
          go_wp2
          go_roundw
          case rel => exact ⟨2, n + u.toNat % 128 * 128, ⟨t, false⟩, by omega, (fun h => by omega), by rw [e1.out], rfl, HR.out, (fun h => by cases h), (fun h => by cases h), (fun _ => HN.out), HCU2.out, HC1.out⟩
          case measure => simp [intOf]
    · have HCN := Lib.hid (HK2.out rfl)
      have HF1 : Hid (CU (wr.setCell ⟨g, 1, none⟩ (.bool true)) g d ⟨c2.rest, true⟩) := HCU.out.flag true
      have k1 := HCU.out.wrongCell.1
      have f1 := HCU.out.wrongCell.2
      clear HK0 HK1 HK2
      go_wp2
      go_ret
      exact ⟨by rw [HCN.out]; rfl, by rw [HCN.out]; exact HF1.out, HC.out.one (Chg.put wr g 1 _) (.inr rfl)⟩

set_option maxHeartbeats 1600000 in
theorem text_cu (w : World) (g d : Nat) (c : Cu) (h : CU w g d c) (hl : c.rest.length ≤ 1000000) :
    Calls Try.prog 91 #[.pointer (some ⟨g, 0, none⟩)] w fun e w' => e = .returned (.string (mkS (cText c).1)) ∧ CU w' g d (cText c).2 ∧ Chg (One g) w w' := by
  have H := Lib.hid h
  obtain ⟨hnl, hn16⟩ := num_len c
  clear h
  go_enter Try.func91, Try.ntmps91
  go_wp2_with fail
  refine (num_cu w g d c H.out hl).mono ?_
  rintro e w1 ⟨rfl, hcu, hc⟩
  have HCU := Lib.hid hcu
  have HC := Lib.hid hc
  clear hcu hc
  have HTX : Hid (cText c = cTake (cNum c).1 (cNum c).2) := rfl
  generalize (cNum c).1 = n at *
  generalize (cNum c).2 = c2 at *
  go_wp2_with fail
  refine (take_cu w1 g d c2 n HCU.out (by omega) (by omega)).mono ?_
  rintro e w2 ⟨A, m, c', rfl, hb, hbl, hcu, hc, -⟩
  have HCU2 := Lib.hid hcu
  have HC2 := Lib.hid (HC.out.one hc (.inr rfl))
  have hcv := hb.text (P := Try.prog) (src := 30) (dst := 9) (e := 5) Try.underlying30 Try.underlying5 Try.underlying9
  have HTT : Hid (cText c = ((cTake n c2).1, (cTake n c2).2)) := HTX.out
  generalize (cTake n c2).1 = ys at *
  generalize (cTake n c2).2 = c3 at *
  clear hb hbl hcu hc
  go_wp2
  go_ret
  exact ⟨by rw [HTT.out]; rfl, by rw [HTT.out]; exact HCU2.out, HC2.out⟩
end Go.Proofs.Ytccphnkdnifpfaa

namespace Go.Proofs.Ytccphnkdnifpfaa
set_option linter.unnecessarySimpa false
open Go.RowKit
set_option linter.unusedVariables false
set_option linter.unusedSimpArgs false
set_option maxRecDepth 100000

/-- What is read behind a folder's byte. -/
def cFold (c : Cu) : Bool × Cu :=
  if (cTake 1 c).2.wrong = true then (false, (cTake 1 c).2)
  else (((cTake 1 c).1.getD 0 0).toNat == 1, ⟨(cTake 1 c).2.rest, decide (1 < ((cTake 1 c).1.getD 0 0).toNat)⟩)
def cEnt (c : Cu) : Ent × Cu :=
  ((mkS (cText c).1, (cFold (cText c).2).1, (cWord (cFold (cText c).2).2).1), (cWord (cFold (cText c).2).2).2)
def cEnts : Nat → Cu → List Ent → List Ent × Cu
  | 0, c, acc => (acc, c)
  | n + 1, c, acc => if c.wrong = true then (acc, c) else cEnts n (cEnt c).2 (acc ++ [(cEnt c).1])
def cIds : Nat → Cu → List Nat → List Nat × Cu
  | 0, c, acc => (acc, c)
  | n + 1, c, acc => if c.wrong = true then (acc, c) else cIds n (cWord c).2 (acc ++ [(cWord c).1])

/-- Read right: what was there, and what is left. -/
theorem cTake_ok {n : Nat} {c : Cu} (h : (cTake n c).2.wrong = false) : c.wrong = false ∧ c.rest = (cTake n c).1 ++ (cTake n c).2.rest ∧ (cTake n c).1.length = n := by
  unfold cTake at h ⊢
  split at h
  · cases h
  · rename_i hn
    simp only [not_or, Nat.not_lt] at hn
    rw [if_neg (by simp only [not_or, Nat.not_lt]; exact hn)]
    exact ⟨by simpa using hn.1, (List.take_append_drop n c.rest).symm, by rw [List.length_take]; omega⟩
theorem cTake_app (a r : List UInt8) : cTake a.length ⟨a ++ r, false⟩ = (a, ⟨r, false⟩) := by
  unfold cTake
  rw [if_neg (by simp)]
  simp
theorem cWord_ok {c : Cu} (h : (cWord c).2.wrong = false) : c.wrong = false ∧ c.rest = wide (cWord c).1 ++ (cWord c).2.rest ∧ (cWord c).1 < 18446744073709551616 := by
  obtain ⟨h1, h2, h3⟩ := cTake_ok (n := 8) (c := c) h
  exact ⟨h1, by rw [cWord, wide_beF _ h3]; exact h2, beF8_lt _ h3⟩
theorem cWord_app (x : Nat) (hx : x < 18446744073709551616) (r : List UInt8) : cWord ⟨wide x ++ r, false⟩ = (x, ⟨r, false⟩) := by
  have := cTake_app (wide x) r
  rw [wide_len] at this
  rw [cWord, this, beF_wide x hx]
theorem u8_back (u : UInt8) (n : Nat) (h : n = u.toNat) : UInt8.ofNat n = u := by
  subst h; simp
theorem cNum_ok {c : Cu} (h : (cNum c).2.wrong = false) : c.wrong = false ∧ c.rest = leb (cNum c).1 ++ (cNum c).2.rest := by
  unfold cNum at h ⊢
  split at h
  · rename_i hw; rw [hw] at h; cases h
  · rename_i hw
    obtain ⟨u, t, hr, hwf, ht⟩ := take_one_form c (by simpa using hw)
    rw [if_neg hw]
    rw [ht] at h ⊢
    have hu := u.toNat_lt
    simp only [List.getD_cons_zero] at h ⊢
    by_cases h128 : u.toNat < 128
    · rw [if_pos h128] at h ⊢
      refine ⟨hwf, ?_⟩
      rw [hr, leb_small _ (by omega), u8_back u _ (by omega)]
      rfl
    · rw [if_neg h128] at h ⊢
      unfold cNum2 at h ⊢
      split at h
      · rename_i hw2; rw [hw2] at h; cases h
      · rename_i hw2
        obtain ⟨v, t2, hr2, hwf2, ht2⟩ := take_one_form ⟨t, false⟩ (by simpa using hw2)
        rw [if_neg hw2]
        rw [ht2] at h ⊢
        have hv := v.toNat_lt
        simp only [List.getD_cons_zero] at h ⊢
        by_cases h2 : v.toNat < 128
        · rw [if_pos h2] at h ⊢
          simp only [beq_eq_false_iff_ne] at h
          refine ⟨hwf, ?_⟩
          have hr2 : t = v :: t2 := hr2
          rw [hr, hr2, leb_big _ (by omega), leb_small _ (by omega), u8_back u _ (by omega), u8_back v _ (by omega)]
          rfl
        · rw [if_neg h2] at h; cases h
theorem cNum_app (n : Nat) (hn : n < 16384) (r : List UInt8) : cNum ⟨leb n ++ r, false⟩ = (n, ⟨r, false⟩) := by
  by_cases h : n < 128
  · rw [leb_small n h]
    have ht := cTake_app [UInt8.ofNat n] r
    have hu : (UInt8.ofNat n).toNat = n := by simp; omega
    unfold cNum
    simp only [List.length_cons, List.length_nil] at ht
    rw [ht]
    simp only [List.getD_cons_zero, hu]
    rw [if_neg (by simp), if_pos h]
    simp only [Prod.mk.injEq, and_true]
    omega
  · rw [leb_big n h, leb_small _ (by omega)]
    have ht := cTake_app [UInt8.ofNat (n % 128 + 128)] (UInt8.ofNat (n / 128) :: r)
    have ht2 := cTake_app [UInt8.ofNat (n / 128)] r
    have hu : (UInt8.ofNat (n % 128 + 128)).toNat = n % 128 + 128 := by simp; omega
    have hv : (UInt8.ofNat (n / 128)).toNat = n / 128 := by simp; omega
    simp only [List.length_cons, List.length_nil] at ht ht2
    unfold cNum
    have e : (UInt8.ofNat (n % 128 + 128) :: [UInt8.ofNat (n / 128)]) ++ r = [UInt8.ofNat (n % 128 + 128)] ++ (UInt8.ofNat (n / 128) :: r) := rfl
    rw [e, ht]
    simp only [List.getD_cons_zero, hu]
    rw [if_neg (by simp), if_neg (by omega)]
    unfold cNum2
    have e2 : (⟨UInt8.ofNat (n / 128) :: r, false⟩ : Cu) = ⟨[UInt8.ofNat (n / 128)] ++ r, false⟩ := rfl
    rw [e2, ht2]
    simp only [List.getD_cons_zero, hv]
    rw [if_neg (by simp), if_pos (by omega)]
    have e3 : (n / 128 == 0) = false := by rw [beq_eq_false_iff_ne]; omega
    rw [e3]
    simp only [Prod.mk.injEq, and_true]
    omega
theorem cText_ok {c : Cu} (h : (cText c).2.wrong = false) : c.wrong = false ∧ c.rest = leb (cText c).1.length ++ (cText c).1 ++ (cText c).2.rest := by
  obtain ⟨h1, h2, h3⟩ := cTake_ok (n := (cNum c).1) (c := (cNum c).2) h
  obtain ⟨h4, h5⟩ := cNum_ok h1
  refine ⟨h4, ?_⟩
  have e : (cText c).1.length = (cNum c).1 := h3
  rw [e, h5, h2, List.append_assoc]
  rfl
theorem cText_app (s r : List UInt8) (hs : s.length < 16384) : cText ⟨leb s.length ++ s ++ r, false⟩ = (s, ⟨r, false⟩) := by
  rw [cText, List.append_assoc, cNum_app _ hs, cTake_app]
theorem cFold_ok {c : Cu} (h : (cFold c).2.wrong = false) : c.wrong = false ∧ c.rest = [if (cFold c).1 = true then 1 else 0] ++ (cFold c).2.rest := by
  unfold cFold at h ⊢
  split at h
  · rename_i hw; rw [hw] at h; cases h
  · rename_i hw
    obtain ⟨u, t, hr, hwf, ht⟩ := take_one_form c (by simpa using hw)
    rw [if_neg hw]
    rw [ht] at h ⊢
    simp only [List.getD_cons_zero, decide_eq_false_iff_not] at h ⊢
    refine ⟨hwf, ?_⟩
    rw [hr]
    by_cases h1 : u.toNat = 1
    · have e : u = 1 := UInt8.toNat_inj.1 h1
      rw [e]; rfl
    · have h0 : u.toNat = 0 := by omega
      have e : u = 0 := UInt8.toNat_inj.1 h0
      rw [e]; rfl
theorem cFold_app (f : Bool) (r : List UInt8) : cFold ⟨[if f = true then 1 else 0] ++ r, false⟩ = (f, ⟨r, false⟩) := by
  have ht := cTake_app [if f = true then (1 : UInt8) else 0] r
  simp only [List.length_cons, List.length_nil] at ht
  unfold cFold
  rw [ht]
  cases f <;> rfl
theorem cEnt_ok {c : Cu} (h : (cEnt c).2.wrong = false) : c.wrong = false ∧ c.rest = entB (cEnt c).1 ++ (cEnt c).2.rest ∧ (cEnt c).1.2.2 < 18446744073709551616 := by
  obtain ⟨h1, h2, h3⟩ := cWord_ok (c := (cFold (cText c).2).2) h
  obtain ⟨h4, h5⟩ := cFold_ok h1
  obtain ⟨h6, h7⟩ := cText_ok h4
  refine ⟨h6, ?_, h3⟩
  rw [h7, h5, h2]
  simp [cEnt, entB, mkS_size]
  try rfl
theorem cEnt_app (x : Ent) (hx : x.1.size < 16384) (hi : x.2.2 < 18446744073709551616) (r : List UInt8) : cEnt ⟨entB x ++ r, false⟩ = (x, ⟨r, false⟩) := by
  have e : entB x ++ r = leb x.1.data.toList.length ++ x.1.data.toList ++ ([if x.2.1 = true then 1 else 0] ++ (wide x.2.2 ++ r)) := by
    simp [entB, size_list]
  rw [cEnt, e, cText_app _ _ (by rw [size_list]; exact hx), cFold_app, cWord_app _ hi]
  simp [mkS_self]
theorem cEnts_ok : ∀ (n : Nat) (c : Cu) (acc : List Ent), (cEnts n c acc).2.wrong = false → c.wrong = false ∧ ∃ es, (cEnts n c acc).1 = acc ++ es ∧ es.length = n ∧ c.rest = es.flatMap entB ++ (cEnts n c acc).2.rest ∧ ∀ x ∈ es, x.2.2 < 18446744073709551616 := by
  intro n
  induction n with
  | zero => intro c acc h; exact ⟨h, [], by simp [cEnts], rfl, by simp [cEnts], fun _ h => by cases h⟩
  | succ n ih =>
    intro c acc h
    unfold cEnts at h ⊢
    split at h
    · rename_i hw; rw [hw] at h; cases h
    · rename_i hw
      rw [if_neg hw]
      obtain ⟨h1, es, h2, h3, h4, h5⟩ := ih _ _ h
      obtain ⟨h6, h7, h8⟩ := cEnt_ok h1
      refine ⟨h6, (cEnt c).1 :: es, by rw [h2]; simp, by simp [h3], by rw [h7, h4]; simp, ?_⟩
      intro x hx
      rcases List.mem_cons.1 hx with rfl | hx
      · exact h8
      · exact h5 x hx
theorem cEnts_app : ∀ (es : List Ent) (r : List UInt8) (acc : List Ent), (∀ x ∈ es, x.1.size < 16384 ∧ x.2.2 < 18446744073709551616) → cEnts es.length ⟨es.flatMap entB ++ r, false⟩ acc = (acc ++ es, ⟨r, false⟩) := by
  intro es
  induction es with
  | nil => intro r acc _; simp [cEnts]
  | cons x es ih =>
    intro r acc h
    have e : (x :: es).flatMap entB ++ r = entB x ++ (es.flatMap entB ++ r) := by simp
    rw [List.length_cons, cEnts, if_neg (by simp), e, cEnt_app x (h x (by simp)).1 (h x (by simp)).2, ih r _ (fun y hy => h y (by simp [hy]))]
    simp
theorem cIds_ok : ∀ (n : Nat) (c : Cu) (acc : List Nat), (cIds n c acc).2.wrong = false → c.wrong = false ∧ ∃ es, (cIds n c acc).1 = acc ++ es ∧ es.length = n ∧ c.rest = es.flatMap wide ++ (cIds n c acc).2.rest ∧ ∀ x ∈ es, x < 18446744073709551616 := by
  intro n
  induction n with
  | zero => intro c acc h; exact ⟨h, [], by simp [cIds], rfl, by simp [cIds], fun _ h => by cases h⟩
  | succ n ih =>
    intro c acc h
    unfold cIds at h ⊢
    split at h
    · rename_i hw; rw [hw] at h; cases h
    · rename_i hw
      rw [if_neg hw]
      obtain ⟨h1, es, h2, h3, h4, h5⟩ := ih _ _ h
      obtain ⟨h6, h7, h8⟩ := cWord_ok h1
      refine ⟨h6, (cWord c).1 :: es, by rw [h2]; simp, by simp [h3], by rw [h7, h4]; simp, ?_⟩
      intro x hx
      rcases List.mem_cons.1 hx with rfl | hx
      · exact h8
      · exact h5 x hx
theorem cIds_app : ∀ (es : List Nat) (r : List UInt8) (acc : List Nat), (∀ x ∈ es, x < 18446744073709551616) → cIds es.length ⟨es.flatMap wide ++ r, false⟩ acc = (acc ++ es, ⟨r, false⟩) := by
  intro es
  induction es with
  | nil => intro r acc _; simp [cIds]
  | cons x es ih =>
    intro r acc h
    have e : (x :: es).flatMap wide ++ r = wide x ++ (es.flatMap wide ++ r) := by simp
    rw [List.length_cons, cIds, if_neg (by simp), e, cWord_app x (h x (by simp)), ih r _ (fun y hy => h y (by simp [hy]))]
    simp
/-- The reference's tree. -/
def preT (b : List UInt8) : List Ent × Cu := cEnts (cNum ⟨b.drop 1, false⟩).1 (cNum ⟨b.drop 1, false⟩).2 []
def asTree (b : List UInt8) : Option (List Ent) :=
  if b.getD 0 0 ≠ 116 then none
  else if (preT b).2.wrong = true ∨ (preT b).2.rest ≠ [] ∨ treeF (preT b).1 ≠ 0 then none else some (preT b).1
theorem asTree_sound {b : List UInt8} {l : List Ent} (h : asTree b = some l) : b = treeB l ∧ treeF l = 0 ∧ ∀ x ∈ l, x.2.2 < 18446744073709551616 := by
  unfold asTree at h
  split at h
  · cases h
  · rename_i h1
    split at h
    · cases h
    · rename_i h2
      simp only [not_or] at h2
      obtain ⟨h3, h4, h5⟩ := h2
      cases h
      obtain ⟨h6, es, h7, h8, h9, h10⟩ := cEnts_ok _ _ _ (show (preT b).2.wrong = false by simpa using h3)
      have e : (preT b).1 = es := by rw [preT, h7]; simp
      obtain ⟨-, h11⟩ := cNum_ok h6
      have h4' : (cEnts (cNum ⟨b.drop 1, false⟩).1 (cNum ⟨b.drop 1, false⟩).2 []).2.rest = [] := by have : ¬ ¬ (preT b).2.rest = [] := h4; exact Decidable.not_not.1 this
      rw [h4', List.append_nil] at h9
      refine ⟨?_, by simpa using h5, by rw [e]; exact h10⟩
      have hb : b ≠ [] := by intro h0; rw [h0] at h1; exact h1 (by decide)
      have h1' : b.getD 0 0 = 116 := Decidable.not_not.1 h1
      cases b with
      | nil => exact absurd rfl hb
      | cons u t =>
        have hu : u = 116 := by simpa using h1'
        have ht : t = leb (cNum ⟨t, false⟩).1 ++ (cNum ⟨t, false⟩).2.rest := h11
        rw [e, treeB, h8, hu]
        have h9' : (cNum ⟨t, false⟩).2.rest = es.flatMap entB := h9
        rw [← h9']
        show 116 :: t = [116] ++ leb (cNum ⟨t, false⟩).1 ++ (cNum ⟨t, false⟩).2.rest
        rw [List.append_assoc, ← ht]
        rfl
theorem asTree_whole (l : List Ent) (h : treeF l = 0) (hi : ∀ x ∈ l, x.2.2 < 18446744073709551616) : asTree (treeB l) = some l := by
  have hz := treeF_zero h
  have e : preT (treeB l) = (l, ⟨[], false⟩) := by
    have e1 : (treeB l).drop 1 = leb l.length ++ l.flatMap entB := by simp [treeB]
    have e2 := cEnts_app l [] [] (fun x hx => ⟨by have := (hz.2 x hx).1; omega, hi x hx⟩)
    rw [List.append_nil] at e2
    rw [preT, e1, cNum_app _ (by omega), e2]
    simp
  unfold asTree
  rw [if_neg (by simp [treeB]), e, if_neg (by simp [h])]
/-- The reference's commit. -/
def preC (b : List UInt8) : (Nat × List Nat × List UInt8 × Int × List UInt8) × Cu :=
  (((cWord ⟨b.drop 1, false⟩).1, (cIds (cNum (cWord ⟨b.drop 1, false⟩).2).1 (cNum (cWord ⟨b.drop 1, false⟩).2).2 []).1,
    (cText (cIds (cNum (cWord ⟨b.drop 1, false⟩).2).1 (cNum (cWord ⟨b.drop 1, false⟩).2).2 []).2).1,
    sd (cWord (cText (cIds (cNum (cWord ⟨b.drop 1, false⟩).2).1 (cNum (cWord ⟨b.drop 1, false⟩).2).2 []).2).2).1,
    (cText (cWord (cText (cIds (cNum (cWord ⟨b.drop 1, false⟩).2).1 (cNum (cWord ⟨b.drop 1, false⟩).2).2 []).2).2).2).1),
   (cText (cWord (cText (cIds (cNum (cWord ⟨b.drop 1, false⟩).2).1 (cNum (cWord ⟨b.drop 1, false⟩).2).2 []).2).2).2).2)
def asCommit (b : List UInt8) : Option (Nat × List Nat × List UInt8 × Int × List UInt8) :=
  if b.getD 0 0 ≠ 99 then none
  else if (preC b).2.wrong = true ∨ (preC b).2.rest ≠ [] ∨ commitF (preC b).1.1 (preC b).1.2.1 (preC b).1.2.2.1 (preC b).1.2.2.2.2 ≠ 0 then none else some (preC b).1
theorem asCommit_sound {b : List UInt8} {t : Nat} {ps : List Nat} {a : List UInt8} {d : Int} {x : List UInt8} (h : asCommit b = some (t, ps, a, d, x)) : b = commitB t ps a d x ∧ commitF t ps a x = 0 ∧ Wf (.commit t ps a d x) := by
  unfold asCommit at h
  split at h
  · cases h
  · rename_i h1
    split at h
    · cases h
    · rename_i h2
      simp only [not_or] at h2
      obtain ⟨h3, h4, h5⟩ := h2
      have hp := Option.some.inj h
      rw [hp] at h5
      obtain ⟨q1, q2⟩ := cText_ok (show (preC b).2.wrong = false by simpa using h3)
      obtain ⟨q3, q4, q5⟩ := cWord_ok q1
      obtain ⟨q6, q7⟩ := cText_ok q3
      obtain ⟨q8, es, q9, q10, q11, q12⟩ := cIds_ok _ _ _ q6
      obtain ⟨q13, q14⟩ := cNum_ok q8
      obtain ⟨-, q15, q16⟩ := cWord_ok q13
      have h4' : (preC b).2.rest = [] := Decidable.not_not.1 h4
      simp only [preC, Prod.mk.injEq] at hp h4'
      obtain ⟨p1, p2, p3, p4, p5⟩ := hp
      rw [List.nil_append] at q9
      have e9 : es = ps := by rw [← q9]; exact p2
      subst e9
      rw [h4', List.append_nil] at q2
      rw [p1] at q15 q16
      rw [p3] at q7
      rw [p5] at q2
      have e4 : (cWord (cText (cIds (cNum (cWord ⟨b.drop 1, false⟩).2).1 (cNum (cWord ⟨b.drop 1, false⟩).2).2 []).2).2).1 = du d := by rw [← p4, du_sd _ q5]
      rw [e4] at q4
      rw [← q10] at q14
      refine ⟨?_, by simpa using h5, q16, q12, ?_⟩
      · cases b with
        | nil => exact absurd (by decide) h1
        | cons u r =>
          have h1' : (u :: r).getD 0 0 = 99 := Decidable.not_not.1 h1
          have hu : u = 99 := by simpa using h1'
          simp only [List.drop_succ_cons, List.drop_zero] at q2 q4 q7 q11 q14 q15
          have q15' : u :: r = 99 :: (wide t ++ (cWord ⟨r, false⟩).2.rest) := by rw [hu]; exact congrArg (List.cons 99) q15
          rw [commitB, q15', q14, q11, q7, q4, q2]
          simp
      · have := sd_range _ q5
        rw [p4] at this
        exact this
theorem asCommit_whole (t : Nat) (ps : List Nat) (a : List UInt8) (d : Int) (x : List UInt8) (h : commitF t ps a x = 0) (hw : Wf (.commit t ps a d x)) : asCommit (commitB t ps a d x) = some (t, ps, a, d, x) := by
  obtain ⟨-, z2, -, z4, -, z6, -⟩ := commitF_zero h
  obtain ⟨w1, w2, w3⟩ := hw
  have e : preC (commitB t ps a d x) = ((t, ps, a, d, x), ⟨[], false⟩) := by
    have e1 : (commitB t ps a d x).drop 1 = wide t ++ (leb ps.length ++ (ps.flatMap wide ++ (leb a.length ++ a ++ (wide (du d) ++ (leb x.length ++ x ++ []))))) := by simp [commitB]
    rw [preC, e1, cWord_app t w1, cNum_app _ (by omega), cIds_app ps _ [] w2]
    simp only [List.nil_append]
    rw [cText_app _ _ (by omega), cWord_app _ (du_lt d), cText_app _ _ (by omega)]
    simp [sd_du d w3]
  unfold asCommit
  rw [if_neg (by simp [commitB]), e, if_neg (by simp [h])]
end Go.Proofs.Ytccphnkdnifpfaa

