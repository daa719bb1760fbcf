/-
  The reference's CheckCommit and Commit.
-/
import Derived.Test.YtkmnkbmmgopldaaRt
namespace Go.Proofs.Ytkmnkbmmgopldaa
open Go.RowKit
set_option linter.unusedVariables false
set_option linter.unusedSimpArgs false
set_option maxRecDepth 100000

theorem cells5b {W : World} {g : Nat} {a b c d e : Value} {t : TypeId} {fz : Nat × Nat} (h : W.heap[g]? = some (.cells #[a, b, c, d, e] t fz)) :
    W.cell? ⟨g, 0, none⟩ = some a ∧ W.cell? ⟨g, 1, none⟩ = some b ∧ W.cell? ⟨g, 2, none⟩ = some c ∧ W.cell? ⟨g, 3, none⟩ = some d ∧ W.cell? ⟨g, 4, none⟩ = some e :=
  ⟨cellAt h 0 a rfl, cellAt h 1 b rfl, cellAt h 2 c rfl, cellAt h 3 d rfl, cellAt h 4 e rfl⟩
set_option maxHeartbeats 3200000 in
theorem refcheck_commit (w : World) (t : Nat) (A : Option Addr) (n c : Nat) (ps : List Nat) (a : ByteArray) (d : Int) (x : ByteArray) (h : Sl u64v w (.slice A n c) ps) (hn : n ≤ 9223372036854775807) (ha : a.size ≤ 9223372036854775807) (hx : x.size ≤ 9223372036854775807) :
    Calls Try.prog 64 #[.agg #[.int .u64 (t : Int), .slice A n c, .string a, .int .i64 d, .string x]] w fun e w' => e = .returned (.int .i64 (commitF t ps a.data.toList x.data.toList : Nat)) ∧ Chg No w w' := by
  have HL := Lib.hid h.len
  have H := Lib.hid h
  have HA := Lib.hid (size_list a)
  have HX := Lib.hid (size_list x)
  have hF : commitF t ps a.data.toList x.data.toList = if t = 0 then 2 else if 8 < n then 3 else if 0 ∈ ps then 2 else if 64 < a.size then 3 else if rightF a.data.toList = false then 162 else if 1024 < x.size then 3 else if rightF x.data.toList = false then 162 else 0 := by
    unfold commitF
    rw [HL.out, HA.out, HX.out]
  have HF := Lib.hid hF
  have HRA : Hid (∀ w1, Calls Try.prog 80 #[.string a] w1 fun e w' => e = .returned (.bool (rightF a.data.toList)) ∧ Chg No w1 w') := fun w1 => reftext6_calls w1 a ha
  have HRX : Hid (∀ w1, Calls Try.prog 80 #[.string x] w1 fun e w' => e = .returned (.bool (rightF x.data.toList)) ∧ Chg No w1 w') := fun w1 => reftext6_calls w1 x hx
  clear h hF
  generalize hra : rightF a.data.toList = ra at *
  generalize hrx : rightF x.data.toList = rx at *
  generalize commitF t ps a.data.toList x.data.toList = F at *
  clear hra hrx HA HX
  have HQ := Lib.hid (heap_alloc_new w (.cells #[.int .u64 (t : Int), .slice A n c, .string a, .int .i64 d, .string x] 27))
  by_cases h1 : t = 0
  · subst h1
    go_enter Try.func64, Try.ntmps64
    go_wp2
    go_ret
    exact ⟨by rw [HF.out]; rfl, (Chg.refl No w).alloc _⟩
  · have b1 : ((t : Int) == 0) = false := by simp; omega
    by_cases h2 : 8 < n
    · have b2 : (8 : Int) < (n : Int) := by omega
      have HF2 : Hid (F = 3) := by rw [Hid, HF.out, if_neg h1, if_pos h2]
      clear h1
      go_enter Try.func64, Try.ntmps64
      go_wp2
      go_ret
      exact ⟨by rw [HF2.out]; rfl, (Chg.refl No w).alloc _⟩
    · have b2 : ¬ (8 : Int) < (n : Int) := by omega
      have HF2 := Lib.hid (show F = _ by rw [HF.out, if_neg h1, if_neg h2])
      clear h1 HF
      go_enter Try.func64, Try.ntmps64
      go_wp2
      go_loopw [17] (fun i wr => ∃ k : Nat, k ≤ n ∧ i = .int .i64 (k : Int) ∧ Hid (0 ∉ ps.take k) ∧ Hid (wr.heap[w.heap.size]? = some (.cells #[.int .u64 (t : Int), .slice A n c, .string a, .int .i64 d, .string x] 27)) ∧ Hid (Chg No w wr)) (fun i _ => n - (intOf i).toNat)
      case atStart => exact ⟨0, Nat.zero_le _, rfl, by rw [Hid]; simp, HQ.out, (Chg.refl No w).alloc _⟩
      case round =>
        obtain ⟨k, hk, rfl, HN, HQr, HCr⟩ := hrel
        by_cases hlt : k < n
        · obtain ⟨b, o, rfl, hcell⟩ := (H.out.no HCr.out).addr (by rw [HL.out]; omega)
          have hc := hcell k (by rw [HL.out]; exact hlt)
          have hT : ps.take (k + 1) = ps.take k ++ [ps[k]'(by rw [HL.out]; exact hlt)] := by rw [List.take_succ_eq_append_getElem]
          have hM : ps[k]'(by rw [HL.out]; exact hlt) ∈ ps := List.getElem_mem _
          generalize ps[k]'(by rw [HL.out]; exact hlt) = q at *
          have HT := Lib.hid hT
          have HMM := Lib.hid hM
          unfold u64v at hc
          clear hcell hT hM
          by_cases hq : q = 0
          · subst hq
            have HF3 : Hid (F = 2) := by rw [Hid, HF2.out, if_pos HMM.out]
            go_wp2
            go_ret
            exact ⟨by rw [HF3.out]; rfl, HCr.out⟩
          · have hqb : ((q : Int) == 0) = false := by simp; omega
            have HN2 : Hid (0 ∉ ps.take (k + 1)) := by
              rw [Hid, HT.out, List.mem_append, List.mem_singleton]
              rintro (h | h)
              · exact HN.out h
              · exact hq h.symm
            clear hq
            go_wp2
            go_roundw
            case rel => exact ⟨k + 1, by omega, by simp, HN2.out, HQr.out, HCr.out⟩
            case measure => simp [intOf]; omega
        · have hkn : k = n := by omega
          subst hkn
          have HF3 : Hid (F = if 64 < a.size then 3 else if ra = false then 162 else if 1024 < x.size then 3 else if rx = false then 162 else 0) := by
            have hnn := HN.out
            rw [List.take_of_length_le (by rw [HL.out]; exact Nat.le_refl _)] at hnn
            rw [Hid, HF2.out, if_neg hnn]
          have q2 := cellAt HQr.out 2 _ rfl
          have q4 := cellAt HQr.out 4 _ rfl
          clear HF2 HN
          go_wp2
          clear q2 q4
          have i0 : ∀ W, Sem.run Try.prog (Instr.index 123 (.agg #[.string a, .string x]) (.int .i64 0)) W = .ok (.string a) W := fun W => rfl
          have i1 : ∀ W, Sem.run Try.prog (Instr.index 123 (.agg #[.string a, .string x]) (.int .i64 1)) W = .ok (.string x) W := fun W => rfl
          go_loopw [29] (fun i wr => ∃ k : Nat, k ≤ 2 ∧ i = .int .i64 (k : Int) ∧ Hid (k = 0 → F = if 64 < a.size then 3 else if ra = false then 162 else if 1024 < x.size then 3 else if rx = false then 162 else 0) ∧ Hid (k = 1 → F = if 1024 < x.size then 3 else if rx = false then 162 else 0) ∧ Hid (k = 2 → F = 0) ∧ Hid (Chg No w wr)) (fun i _ => 2 - (intOf i).toNat)
          case atStart => exact ⟨0, by omega, rfl, fun _ => HF3.out, fun h => by omega, fun h => by omega, HCr.out⟩
          case round =>
            obtain ⟨j, hj, rfl, HJ0, HJ1, HJ2, HC⟩ := hrel
            rcases (show j = 0 ∨ j = 1 ∨ j = 2 by omega) with rfl | rfl | rfl
            · have HF4 := Lib.hid (HJ0.out rfl)
              clear HJ0 HJ1 HJ2 HF3
              by_cases h3 : 64 < a.size
              · have b3 : (64 : Int) < (a.size : Int) := by omega
                have HF5 : Hid (F = 3) := by rw [Hid, HF4.out, if_pos h3]
                go_wp2
                go_ret
                exact ⟨by rw [HF5.out]; rfl, HC.out⟩
              · have b3 : ¬ (64 : Int) < (a.size : Int) := by omega
                have b4 : ¬ (1024 : Int) < (a.size : Int) := by omega
                have HF5 := Lib.hid (show F = _ by rw [HF4.out, if_neg h3])
                go_wp2_with fail
                refine (HRA.out _).mono ?_
                rintro e w1 ⟨rfl, hc1⟩
                have HC1 := Lib.hid (HC.out.no hc1)
                clear hc1
                cases ra with
                | false =>
                  have HF6 : Hid (F = 162) := by rw [Hid, HF5.out]; rfl
                  go_wp2
                  go_ret
                  exact ⟨by rw [HF6.out]; rfl, HC1.out⟩
                | true =>
                  have HF6 : Hid (F = if 1024 < x.size then 3 else if rx = false then 162 else 0) := by rw [Hid, HF5.out]; rfl
                  go_wp2
                  go_roundw
                  case rel => exact ⟨1, by omega, by rfl, fun h => by omega, fun _ => HF6.out, fun h => by omega, HC1.out⟩
                  case measure => simp [intOf]
            · have HF4 := Lib.hid (HJ1.out rfl)
              clear HJ0 HJ1 HJ2 HF3
              by_cases h3 : 1024 < x.size
              · have b3 : (1024 : Int) < (x.size : Int) := by omega
                have HF5 : Hid (F = 3) := by rw [Hid, HF4.out, if_pos h3]
                go_wp2
                go_ret
                exact ⟨by rw [HF5.out]; rfl, HC.out⟩
              · have b3 : ¬ (1024 : Int) < (x.size : Int) := by omega
                have HF5 := Lib.hid (show F = _ by rw [HF4.out, if_neg h3])
                go_wp2_with fail
                refine (HRX.out _).mono ?_
                rintro e w1 ⟨rfl, hc1⟩
                have HC1 := Lib.hid (HC.out.no hc1)
                clear hc1
                cases rx with
                | false =>
                  have HF6 : Hid (F = 162) := by rw [Hid, HF5.out]; rfl
                  go_wp2
                  go_ret
                  exact ⟨by rw [HF6.out]; rfl, HC1.out⟩
                | true =>
                  have HF6 : Hid (F = 0) := by rw [Hid, HF5.out]; rfl
                  go_wp2
                  go_roundw
                  case rel => exact ⟨2, by omega, by rfl, fun h => by omega, fun h => by omega, fun _ => HF6.out, HC1.out⟩
                  case measure => simp [intOf]
            · have HF4 := Lib.hid (HJ2.out rfl)
              clear HJ0 HJ1 HJ2 HF3
              go_wp2
              go_ret
              exact ⟨by rw [HF4.out]; rfl, HC.out⟩
theorem refcommit_no (w : World) (t : Nat) (A : Option Addr) (n c : Nat) (ps : List Nat) (a : ByteArray) (d : Int) (x : ByteArray) (h : Sl u64v w (.slice A n c) ps) (hn : n ≤ 9223372036854775807) (ha : a.size ≤ 9223372036854775807) (hx : x.size ≤ 9223372036854775807) (hF : commitF t ps a.data.toList x.data.toList ≠ 0) :
    Calls Try.prog 39 #[.agg #[.int .u64 (t : Int), .slice A n c, .string a, .int .i64 d, .string x]] w fun e w' => ∃ A' n' c', e = .returned (.tuple #[.slice A' n' c', .int .i64 (commitF t ps a.data.toList x.data.toList : Nat)]) ∧ Bytes w' (.slice A' n' c') [] ∧ ([] : List UInt8).length = n' ∧ Chg No w w' := by
  have hck := fun W hW => refcheck_commit W t A n c ps a d x (h.no hW) hn ha hx
  have hkb : ((commitF t ps a.data.toList x.data.toList : Int) != 0) = true := by simp; exact hF
  generalize commitF t ps a.data.toList x.data.toList = k at *
  have HCK := Lib.hid hck
  clear hck h
  go_enter Try.func39, Try.ntmps39
  go_wp2_with fail
  refine (HCK.out _ ((Chg.refl No w).alloc _)).mono ?_
  rintro e w1 ⟨rfl, hc1⟩
  go_wp2
  go_ret2
  exact ⟨none, 0, 0, rfl, Holds.nil w1, rfl, ((Chg.refl No w).alloc _).no hc1⟩

set_option maxHeartbeats 6400000 in
theorem refcommit_ok (w : World) (t : Nat) (A : Option Addr) (n c : Nat) (ps : List Nat) (a : ByteArray) (d : Int) (x : ByteArray) (h : Sl u64v w (.slice A n c) ps) (hn : n ≤ 9223372036854775807) (ha : a.size ≤ 9223372036854775807) (hx : x.size ≤ 9223372036854775807) (ht : t < 18446744073709551616) (hp : ∀ q ∈ ps, q < 18446744073709551616) (hF : commitF t ps a.data.toList x.data.toList = 0) :
    Calls Try.prog 39 #[.agg #[.int .u64 (t : Int), .slice A n c, .string a, .int .i64 d, .string x]] w fun e w' => ∃ A' n' c', e = .returned (.tuple #[.slice A' n' c', .int .i64 0]) ∧ Bytes w' (.slice A' n' c') (commitB t ps a.data.toList d x.data.toList) ∧ (commitB t ps a.data.toList d x.data.toList).length = n' ∧ Chg No w w' := by
  obtain ⟨-, z2, -, z4, -, z6, -⟩ := commitF_zero hF
  have hn8 : n ≤ 8 := by have := h.len; omega
  have ha64 : a.size ≤ 64 := by have := size_list a; omega
  have hx1k : x.size ≤ 1024 := by have := size_list x; omega
  have HCK : Hid (∀ W, Chg No w W → Calls Try.prog 64 #[.agg #[.int .u64 (t : Int), .slice A n c, .string a, .int .i64 d, .string x]] W fun e w' => e = .returned (.int .i64 0) ∧ Chg No W w') := by
    intro W hW
    have := refcheck_commit W t A n c ps a d x (h.no hW) hn ha hx
    rwa [hF] at this
  have HL := Lib.hid h.len
  have H := Lib.hid h
  have HPB := Lib.hid hp
  have HCB : Hid (commitB t ps a.data.toList d x.data.toList = [99] ++ wide t ++ leb n ++ ps.flatMap wide ++ (leb a.size ++ a.data.toList) ++ wide (du d) ++ (leb x.size ++ x.data.toList)) := by
    rw [Hid, commitB, HL.out, size_list, size_list]
  clear h hF z2 z4 z6 hp
  have HQ := Lib.hid (heap_alloc_new w (.cells #[.int .u64 (t : Int), .slice A n c, .string a, .int .i64 d, .string x] 27))
  go_enter Try.func39, Try.ntmps39
  go_wp2_with fail
  refine (HCK.out _ ((Chg.refl No w).alloc _)).mono ?_
  rintro e w1 ⟨rfl, hc1⟩
  have HQ1 := Lib.hid (hc1.heap HQ.out (fun x => x))
  have HC1 := Lib.hid (((Chg.refl No w).alloc _).no hc1)
  clear hc1 HCK HQ
  generalize hg : w.heap.size = g at *
  have hw1 : g ≤ w1.heap.size := by have := HC1.out.size; omega
  have HC2 : Hid (Chg No w (w1.alloc (.cells (u8s [99]).toArray 5))) := HC1.out.alloc _
  have HQ2 := Lib.hid (((Chg.refl No w1).alloc (.cells (u8s [99]).toArray 5)).heap HQ1.out (fun x => x))
  have HO2 : Hid (OwnB (w1.alloc (.cells (u8s [99]).toArray 5)) g (.slice (some ⟨w1.heap.size, 0, none⟩) 1 1) [99]) := OwnB.mono (OwnB.lit w1 [99] (by unfold maxLen; decide)) hw1
  have HL2 : Hid (([99] : List UInt8).length = 1) := rfl
  have q0 : (w1.alloc (.cells #[.int .u8 99] 5)).cell? ⟨g, 0, none⟩ = some (.int .u64 (t : Int)) := cellAt HQ2.out 0 _ rfl
  go_wp2_with fail
  refine (refword_calls _ t (t : Int) rfl ht).mono ?_
  rintro e w20 ⟨v20, rfl, ho20, hc20⟩
  obtain ⟨A20, n20, c20, rfl, HL20, HO20⟩ := ho20.form
  have hn20 : n20 ≤ 8 := by have hh := HL20.out; rw [wide_len] at hh; omega
  have HC20 := Lib.hid (HC2.out.no hc20)
  have HQ20 := Lib.hid (hc20.heap HQ2.out (fun x => x))
  have HOx20 := Lib.hid (HO2.out.chg hc20 (fun _ _ x => x))
  have hw20 : g ≤ w20.heap.size := by have := HC20.out.size; omega
  clear ho20 hc20 HC2 HQ2 HO2
  go_wp2_with (at_builtin; (refine wpList_appB rfl (.tmp 13) (.tmp 16) rfl g (some ⟨w1.heap.size, 0, none⟩) 1 1 [99] A20 n20 c20 (wide t) rfl rfl ?own1 ?len1 ?src1 ?len2 ?bnd1 ?bas1 ?_; (case own1 => exact HOx20.out); (case len1 => exact HL2.out); (case src1 => exact HO20.out.bytes); (case len2 => exact HL20.out); (case bnd1 => omega); (case bas1 => omega); intro A3 c3 w3 hO3 hl3 hC3 hB3 hs3; refine Hid.out ?_))
  refine Lib.hid ?_
  have HC3 : Hid (Chg No w w3) := hC3 w (by omega) HC20.out
  have HQ3 := Lib.hid (hB3 _ _ _ HQ20.out (by decide))
  have HO3 := Lib.hid hO3
  have HL3 := Lib.hid hl3
  clear hO3 hl3 hC3 hB3 hs3 HC20 HQ20 HOx20 HO20 HL20 HL2
  have hm3 : 1 + n20 ≤ 9 := by omega
  generalize hmm3 : 1 + n20 = m3 at *
  clear hmm3
  generalize hyy3 : [99] ++ (wide t) = y3 at *
  have HY3 := Lib.hid hyy3
  clear hyy3
  have q1 := cellAt HQ3.out 1 _ rfl
  have hcv : IntKind.u64.wrap (n : Int) = (n : Int) := by rw [IntKind.wrap_u64]; omega
  go_wp2_with fail
  refine (refuint_calls _ n (n : Int) rfl (by omega)).mono ?_
  rintro e w30 ⟨v30, rfl, ho30, hc30⟩
  obtain ⟨A30, n30, c30, rfl, HL30, HO30⟩ := ho30.form
  have hn30 : n30 ≤ 10 := by have hh := HL30.out; have := leb_len10 n (by omega); omega
  have HC30 := Lib.hid (HC3.out.no hc30)
  have HQ30 := Lib.hid (hc30.heap HQ3.out (fun x => x))
  have HOx30 := Lib.hid (HO3.out.chg hc30 (fun _ _ x => x))
  have hw30 : g ≤ w30.heap.size := by have := HC30.out.size; omega
  clear ho30 hc30 HC3 HQ3 HO3
  go_wp2_with (at_builtin; (refine wpList_appB rfl (.tmp 18) (.tmp 23) rfl g A3 m3 c3 y3 A30 n30 c30 (leb n) rfl rfl ?own1 ?len1 ?src1 ?len2 ?bnd1 ?bas1 ?_; (case own1 => exact HOx30.out); (case len1 => exact HL3.out); (case src1 => exact HO30.out.bytes); (case len2 => exact HL30.out); (case bnd1 => omega); (case bas1 => omega); intro A4 c4 w4 hO4 hl4 hC4 hB4 hs4; refine Hid.out ?_))
  refine Lib.hid ?_
  have HC4 : Hid (Chg No w w4) := hC4 w (by omega) HC30.out
  have HQ4 := Lib.hid (hB4 _ _ _ HQ30.out (by decide))
  have HO4 := Lib.hid hO4
  have HL4 := Lib.hid hl4
  clear hO4 hl4 hC4 hB4 hs4 HC30 HQ30 HOx30 HO30 HL30 HL3
  have hm4 : m3 + n30 ≤ 19 := by omega
  generalize hmm4 : m3 + n30 = m4 at *
  clear hmm4
  generalize hyy4 : y3 ++ (leb n) = y4 at *
  have HY4 := Lib.hid hyy4
  clear hyy4
  have q1 := cellAt HQ4.out 1 _ rfl
  have HY4' : Hid (y4 ++ (ps.take 0).flatMap wide = y4) := by rw [Hid]; simp
  go_wp2
  go_loopw [5, 28] (fun l i wr => ∃ (k m : Nat) (Ak : Option Addr) (ck : Nat), k ≤ n ∧ Hid (m = m4 + 8 * k) ∧ m ≤ 83 ∧ i = .int .i64 (k : Int) ∧ l = .slice Ak m ck ∧ Hid (OwnB wr g (.slice Ak m ck) (y4 ++ (ps.take k).flatMap wide)) ∧ Hid ((y4 ++ (ps.take k).flatMap wide).length = m) ∧ Hid (wr.heap[g]? = some (.cells #[.int .u64 (t : Int), .slice A n c, .string a, .int .i64 d, .string x] 27)) ∧ Hid (Chg No w wr)) (fun _ i _ => n - (intOf i).toNat)
  case atStart => exact ⟨0, m4, _, _, Nat.zero_le _, by rw [Hid]; omega, by omega, rfl, rfl, by rw [HY4'.out]; exact HO4.out, by rw [HY4'.out]; exact HL4.out, HQ4.out, HC4.out⟩
  case round =>
    obtain ⟨k, mk, Ak, ck, hk, HMK, hmk83, rfl, rfl, HO, HM, HQr, HC⟩ := hrel
    clear HO4 HL4 HQ4 HC4
    by_cases hlt : k < n
    · obtain ⟨b, o, rfl, hcell⟩ := (H.out.no HC.out).addr (by rw [HL.out]; omega)
      have hc := hcell k (by rw [HL.out]; exact hlt)
      have HT : Hid (ps.take (k + 1) = ps.take k ++ [ps[k]'(by rw [HL.out]; exact hlt)]) := by rw [Hid, List.take_succ_eq_append_getElem]
      have hqb := HPB.out _ (List.getElem_mem (show k < ps.length by rw [HL.out]; exact hlt))
      generalize ps[k]'(by rw [HL.out]; exact hlt) = q at *
      unfold u64v at hc
      clear hcell
      have HNX : Hid (y4 ++ (ps.take (k + 1)).flatMap wide = y4 ++ (ps.take k).flatMap wide ++ wide q) := by rw [Hid, HT.out, List.flatMap_append, ← List.append_assoc]; simp
      generalize y4 ++ (ps.take k).flatMap wide = yk at *
      go_wp2_with fail
      refine (refword_calls _ q (q : Int) rfl hqb).mono ?_
      rintro e w90 ⟨v90, rfl, ho90, hc90⟩
      obtain ⟨A90, n90, c90, rfl, HL90, HO90⟩ := ho90.form
      have hn90 : n90 = 8 := by have hh := HL90.out; rw [wide_len] at hh; omega
      subst hn90
      have HC90 := Lib.hid (HC.out.no hc90)
      have HQ90 := Lib.hid (hc90.heap HQr.out (fun x => x))
      have HOx90 := Lib.hid (HO.out.chg hc90 (fun _ _ x => x))
      have hw90 : g ≤ w90.heap.size := by have := HC90.out.size; omega
      clear ho90 hc90 HC HQr HO hc
      go_wp2_with (at_builtin; (refine wpList_appB rfl (.tmp 32) (.tmp 34) rfl g Ak mk ck yk A90 8 c90 (wide q) rfl rfl ?own1 ?len1 ?src1 ?len2 ?bnd1 ?bas1 ?_; (case own1 => exact HOx90.out); (case len1 => exact HM.out); (case src1 => exact HO90.out.bytes); (case len2 => exact HL90.out); (case bnd1 => omega); (case bas1 => omega); intro A91 c91 w91 hO91 hl91 hC91 hB91 hs91; refine Hid.out ?_))
      refine Lib.hid ?_
      have HC91 : Hid (Chg No w w91) := hC91 w (by omega) HC90.out
      have HQ91 := Lib.hid (hB91 _ _ _ HQ90.out (by decide))
      have HO91 := Lib.hid hO91
      have HL91 := Lib.hid hl91
      clear hO91 hl91 hC91 hB91 hs91 HC90 HQ90 HOx90 HO90 HL90 HM
      go_wp2
      go_roundw
      case rel => exact ⟨k + 1, mk + 8, _, _, by omega, by have := HMK.out; rw [Hid]; omega, by have := HMK.out; omega, by simp, rfl, by rw [HNX.out]; exact HO91.out, by rw [HNX.out]; exact HL91.out, HQ91.out, HC91.out⟩
      case measure => simp [intOf]; omega
    · have hkn : k = n := by omega
      subst hkn
      have HYP : Hid (y4 ++ (ps.take k).flatMap wide = y4 ++ ps.flatMap wide) := by rw [Hid, List.take_of_length_le (by rw [HL.out]; exact Nat.le_refl _)]
      have HO5 := Lib.hid HO.out
      have HL5 := Lib.hid HM.out
      have HQ5 := Lib.hid HQr.out
      have HC5 := Lib.hid HC.out
      clear HO HM HQr HC
      generalize y4 ++ (ps.take k).flatMap wide = y5 at *
      generalize wr = w5 at *
      have hmk5 : mk ≤ 83 := hmk83
      have q2 := cellAt HQ5.out 2 _ rfl
      go_wp2_with fail
      refine (reftext_calls _ a (by omega)).mono ?_
      rintro e w50 ⟨v50, rfl, ho50, hc50⟩
      obtain ⟨A50, n50, c50, rfl, HL50, HO50⟩ := ho50.form
      have hn50 : n50 ≤ 80 := by have hh := HL50.out; have := leb_len10 a.size (by omega); rw [List.length_append, size_list] at hh; omega
      have HC50 := Lib.hid (HC5.out.no hc50)
      have HQ50 := Lib.hid (hc50.heap HQ5.out (fun x => x))
      have HOx50 := Lib.hid (HO5.out.chg hc50 (fun _ _ x => x))
      have hw50 : g ≤ w50.heap.size := by have := HC50.out.size; omega
      clear ho50 hc50 HC5 HQ5 HO5
      go_wp2_with (at_builtin; (refine wpList_appB rfl (.tmp 37) (.tmp 40) rfl g Ak mk ck y5 A50 n50 c50 (leb a.size ++ a.data.toList) rfl rfl ?own1 ?len1 ?src1 ?len2 ?bnd1 ?bas1 ?_; (case own1 => exact HOx50.out); (case len1 => exact HL5.out); (case src1 => exact HO50.out.bytes); (case len2 => exact HL50.out); (case bnd1 => omega); (case bas1 => omega); intro A6 c6 w6 hO6 hl6 hC6 hB6 hs6; refine Hid.out ?_))
      refine Lib.hid ?_
      have HC6 : Hid (Chg No w w6) := hC6 w (by omega) HC50.out
      have HQ6 := Lib.hid (hB6 _ _ _ HQ50.out (by decide))
      have HO6 := Lib.hid hO6
      have HL6 := Lib.hid hl6
      clear hO6 hl6 hC6 hB6 hs6 HC50 HQ50 HOx50 HO50 HL50 HL5
      have hm6 : mk + n50 ≤ 163 := by omega
      generalize hmm6 : mk + n50 = m6 at *
      clear hmm6
      generalize hyy6 : y5 ++ (leb a.size ++ a.data.toList) = y6 at *
      have HY6 := Lib.hid hyy6
      clear hyy6
      have q3 := cellAt HQ6.out 3 _ rfl
      have hdu : IntKind.u64.wrap d = (du d : Int) := wrap_du d
      go_wp2_with fail
      refine (refword_calls _ (du d) (du d : Int) rfl (du_lt d)).mono ?_
      rintro e w60 ⟨v60, rfl, ho60, hc60⟩
      obtain ⟨A60, n60, c60, rfl, HL60, HO60⟩ := ho60.form
      have hn60 : n60 ≤ 8 := by have hh := HL60.out; rw [wide_len] at hh; omega
      have HC60 := Lib.hid (HC6.out.no hc60)
      have HQ60 := Lib.hid (hc60.heap HQ6.out (fun x => x))
      have HOx60 := Lib.hid (HO6.out.chg hc60 (fun _ _ x => x))
      have hw60 : g ≤ w60.heap.size := by have := HC60.out.size; omega
      clear ho60 hc60 HC6 HQ6 HO6
      go_wp2_with (at_builtin; (refine wpList_appB rfl (.tmp 42) (.tmp 46) rfl g A6 m6 c6 y6 A60 n60 c60 (wide (du d)) rfl rfl ?own1 ?len1 ?src1 ?len2 ?bnd1 ?bas1 ?_; (case own1 => exact HOx60.out); (case len1 => exact HL6.out); (case src1 => exact HO60.out.bytes); (case len2 => exact HL60.out); (case bnd1 => omega); (case bas1 => omega); intro A7 c7 w7 hO7 hl7 hC7 hB7 hs7; refine Hid.out ?_))
      refine Lib.hid ?_
      have HC7 : Hid (Chg No w w7) := hC7 w (by omega) HC60.out
      have HQ7 := Lib.hid (hB7 _ _ _ HQ60.out (by decide))
      have HO7 := Lib.hid hO7
      have HL7 := Lib.hid hl7
      clear hO7 hl7 hC7 hB7 hs7 HC60 HQ60 HOx60 HO60 HL60 HL6
      have hm7 : m6 + n60 ≤ 171 := by omega
      generalize hmm7 : m6 + n60 = m7 at *
      clear hmm7
      generalize hyy7 : y6 ++ (wide (du d)) = y7 at *
      have HY7 := Lib.hid hyy7
      clear hyy7
      have q4 := cellAt HQ7.out 4 _ rfl
      go_wp2_with fail
      refine (reftext_calls _ x (by omega)).mono ?_
      rintro e w70 ⟨v70, rfl, ho70, hc70⟩
      obtain ⟨A70, n70, c70, rfl, HL70, HO70⟩ := ho70.form
      have hn70 : n70 ≤ 1040 := by have hh := HL70.out; have := leb_len10 x.size (by omega); rw [List.length_append, size_list] at hh; omega
      have HC70 := Lib.hid (HC7.out.no hc70)
      have HQ70 := Lib.hid (hc70.heap HQ7.out (fun x => x))
      have HOx70 := Lib.hid (HO7.out.chg hc70 (fun _ _ x => x))
      have hw70 : g ≤ w70.heap.size := by have := HC70.out.size; omega
      clear ho70 hc70 HC7 HQ7 HO7
      go_wp2_with (at_builtin; (refine wpList_appB rfl (.tmp 48) (.tmp 51) rfl g A7 m7 c7 y7 A70 n70 c70 (leb x.size ++ x.data.toList) rfl rfl ?own1 ?len1 ?src1 ?len2 ?bnd1 ?bas1 ?_; (case own1 => exact HOx70.out); (case len1 => exact HL7.out); (case src1 => exact HO70.out.bytes); (case len2 => exact HL70.out); (case bnd1 => omega); (case bas1 => omega); intro A8 c8 w8 hO8 hl8 hC8 hB8 hs8; refine Hid.out ?_))
      refine Lib.hid ?_
      have HC8 : Hid (Chg No w w8) := hC8 w (by omega) HC70.out
      have HQ8 := Lib.hid (hB8 _ _ _ HQ70.out (by decide))
      have HO8 := Lib.hid hO8
      have HL8 := Lib.hid hl8
      clear hO8 hl8 hC8 hB8 hs8 HC70 HQ70 HOx70 HO70 HL70 HL7
      have hm8 : m7 + n70 ≤ 1211 := by omega
      generalize hmm8 : m7 + n70 = m8 at *
      clear hmm8
      generalize hyy8 : y7 ++ (leb x.size ++ x.data.toList) = y8 at *
      have HY8 := Lib.hid hyy8
      clear hyy8
      have HE : Hid (y8 = commitB t ps a.data.toList d x.data.toList) := by rw [Hid, HCB.out, ← HY8.out, ← HY7.out, ← HY6.out, HYP.out, ← HY4.out, ← HY3.out]
      go_wp2
      go_ret2
      exact ⟨_, _, _, rfl, by rw [← HE.out]; exact HO8.out.bytes, by rw [← HE.out]; exact HL8.out, HC8.out⟩
end Go.Proofs.Ytkmnkbmmgopldaa
