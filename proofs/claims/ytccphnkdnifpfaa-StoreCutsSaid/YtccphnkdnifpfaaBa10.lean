/-
  Rt, S14, Sn, S15, S16, S17: in one text.
-/
import Derived.Test.YtccphnkdnifpfaaBa9
import Derived.Test.YtccphnkdnifpfaaBa3
import Derived.BigQuiet
import Derived.Test.YtccphnkdnifpfaaBa8
import Derived.Test.YtccphnkdnifpfaaBa7
import Derived.Sort.BigQuietIn
namespace Go.Proofs.Ytccphnkdnifpfaa
set_option linter.unnecessarySimpa false
open Go.RowKit
set_option linter.unusedVariables false
set_option linter.unusedSimpArgs false
set_option maxRecDepth 100000

/-- append of bytes onto a row of one's own: the new row; what lay below the row's base is as it was; boxes of other types are. -/
theorem wpList_appB {ops : Array Oper} {rest : List Oper} {o : Oper} {a : Act} {Q : Exit → Act → World → Prop} {w : World} (hgd : o.guard = none) (s x : Operand)
    (ho : o.op = .call { callee := .builtin .append, args := #[s, x], argTypes := #[30, 30] })
    (base : Nat) (A : Option Addr) (n c : Nat) (ys : List UInt8) (A' : Option Addr) (n' c' : Nat) (zs : List UInt8) (hs : a.eval s = .slice A n c) (hx : a.eval x = .slice A' n' c')
    (hO : OwnB w base (.slice A n c) ys) (hl : ys.length = n) (hZ : Bytes w (.slice A' n' c') zs) (hl' : zs.length = n') (hb : n + n' ≤ 1000000) (hbase : base ≤ w.heap.size)
    (h : ∀ A2 c2 w', OwnB w' base (.slice A2 (n + n') c2) (ys ++ zs) → (ys ++ zs).length = n + n' → (∀ W0 : World, W0.heap.size ≤ base → Chg No W0 w → Chg No W0 w') → (∀ (g : Nat) (cs : Array Value) (t : TypeId), w.heap[g]? = some (Obj.cells cs t (0, 0)) → t ≠ 5 → w'.heap[g]? = some (Obj.cells cs t (0, 0))) → w.heap.size ≤ w'.heap.size → wpList Try.prog ops Q rest (a.put o.dst (.slice A2 (n + n') c2)) w') : wpList Try.prog ops Q (o :: rest) a w := by
  refine wpList_app2 hgd s x 30 30 ho base 5 (.int .u8 0) 1 1 infoU8 Try.underlying30 rfl (by decide) (.slice A n c) (.slice A' n' c') n n' (u8s ys) (u8s zs) hs hx (OwnB.n hO hl) (Src.ofBytes Try.underlying30 hZ hl') (by omega) (by unfold maxLen; omega) hbase ?_
  intro v' w' hown hg hfrom
  obtain ⟨A2, c2, rfl⟩ := ownsRow_form hown
  have hlen : (ys ++ zs).length = n + n' := by rw [List.length_append, hl, hl']
  refine h A2 c2 w' ?_ hlen (fun W0 h0 hc => hc.grown hg (fun q hq => .inl (Nat.le_trans h0 (World.ownsRow.lt hO q hq).1))) (fun g cs t hh ht => app_keep hO hg hh ht) (Chg.ofGrown (S := fun k => (Value.slice A n c).ownBlock = some k) hg (fun k hk => hk)).size
  have := OwnB.of (xs := ys ++ zs) hown (by rw [u8s_append])
  exact this
theorem leS_nil (s : ByteArray) (h : (spotF s.data.toList).1 = 0) : leS s ⟨#[]⟩ = false := by
  have hne : s.data.toList ≠ [] := by
    intro h0
    rw [spotF, if_pos (.inl h0)] at h
    cases h
  have h2 : s.toList ≠ [] := by rw [Lib.toList_data]; exact hne
  unfold leS
  rw [show (⟨#[]⟩ : ByteArray).toList = [] by rw [Lib.toList_data]]
  generalize s.toList = l at *
  cases l with
  | nil => exact absurd rfl h2
  | cons a t => rfl
def prevN (xs : List Ent) : Nat → ByteArray
  | 0 => ⟨#[]⟩
  | k + 1 => (xs.getD k (⟨#[]⟩, false, 0)).1
set_option maxHeartbeats 3200000 in
theorem refcheck_tree (w : World) (A : Option Addr) (n c : Nat) (xs : List Ent) (h : Es w (.slice A n c) xs) (hx : ∀ x ∈ xs, x.1.size ≤ 9223372036854775807) (hnm : n ≤ 9223372036854775807) :
    Calls Try.prog 77 #[.slice A n c] w fun e w' => e = .returned (.int .i64 (treeF xs)) ∧ Chg No w w' := by
  have HL := Lib.hid h.len
  have H := Lib.hid h
  have HX := Lib.hid hx
  clear h hx
  by_cases h256 : 256 < n
  · have HF : Hid (treeF xs = 3) := by rw [Hid, treeF, if_pos (by rw [HL.out]; exact h256)]
    have b0 : (256 : Int) < (n : Int) := by omega
    go_enter Try.func77, Try.ntmps77
    go_wp2
    go_ret
    exact ⟨by rw [HF.out]; rfl, Chg.refl _ _⟩
  · have HF : Hid (treeF xs = treeG ⟨#[]⟩ xs) := by rw [Hid, treeF, if_neg (by rw [HL.out]; exact h256)]
    have b0 : ¬ (256 : Int) < (n : Int) := by omega
    go_enter Try.func77, Try.ntmps77
    go_wp2
    go_loopw [11] (fun i wr => ∃ k : Nat, k ≤ n ∧ i = .int .i64 (k : Int) ∧ Hid (treeF xs = treeG (prevN xs k) (xs.drop k)) ∧ Hid (Chg No w wr)) (fun i _ => n - (intOf i).toNat)
    case atStart => exact ⟨0, Nat.zero_le _, rfl, HF.out, Chg.refl _ _⟩
    case round =>
      obtain ⟨k, hk, rfl, HU, HC⟩ := hrel
      by_cases hlt : k < n
      · have hkl : k < xs.length := by rw [HL.out]; exact hlt
        obtain ⟨b, o, rfl, hcell⟩ := (H.out.no HC.out).addr (by rw [HL.out]; omega)
        obtain ⟨c0, c1, c2⟩ := hcell k hkl
        have HD : Hid (xs.drop k = xs[k] :: xs.drop (k + 1)) := by rw [Hid]; exact List.drop_eq_getElem_cons hkl
        have HPN : Hid (prevN xs (k + 1) = xs[k].1) := by simp [Hid, prevN, List.getD, hkl]
        have HPK : Hid (0 < k → wr.cell? ⟨b, o + (k - 1) * 3, none⟩ = some (.string (prevN xs k))) := by
          intro hk0
          obtain ⟨j, rfl⟩ : ∃ j, k = j + 1 := ⟨k - 1, by omega⟩
          have := (hcell j (by omega)).1
          have e : prevN xs (j + 1) = (xs[j]'(by omega)).1 := by simp [prevN, List.getD, show j < xs.length by omega]
          rw [e]
          exact this
        have hsz := HX.out _ (List.getElem_mem hkl)
        generalize xs[k] = x at *
        obtain ⟨s, f, id⟩ := x
        simp only at c0 c1 c2 hsz HPN
        have HY0 : Hid (k = 0 → prevN xs k = ⟨#[]⟩) := fun h => by subst h; rfl
        generalize prevN xs k = y at *
        have HU2 : Hid (treeF xs = if (spotF s.data.toList).1 ≠ 0 then (spotF s.data.toList).1 else if leS s y = true then 161 else if id = 0 then 2 else treeG s (xs.drop (k + 1))) := by rw [Hid, HU.out, HD.out]; rfl
        have hcc := fun w1 => refspot_calls w1 s hsz
        have HNL := Lib.hid (leS_nil s)
        have HLE : Hid (leS s y = (Op.bytesLess s.toList y.toList || s.toList == y.toList)) := rfl
        generalize spotF s.data.toList = sp at *
        obtain ⟨e0, at0⟩ := sp
        simp only [spotV] at hcc HU2 HNL
        have HCC := Lib.hid hcc
        clear hcc hcell HU HD hkl
        have hE := heap_alloc_new wr (.cells #[.string s, .bool f, .int .u64 (id : Int)] 130)
        go_wp2_with fail
        refine (HCC.out _).mono ?_
        rintro e w1 ⟨rfl, hc1⟩
        have hd1 := hc1.heap hE (fun x => x)
        have hd := ((Chg.refl No w1).alloc (.cells #[.int .i64 e0, .int .i64 at0] 155)).heap hd1 (fun x => x)
        have d0 := cellAt hd 0 (.string s) rfl
        have d2 := cellAt hd 2 (.int .u64 (id : Int)) rfl
        have hp1 := hc1
        have HC1 : Hid (Chg No w (w1.alloc (.cells #[.int .i64 e0, .int .i64 at0] 155))) := ((HC.out.alloc _).no hc1).alloc _
        have HPP : Hid (0 < k → (w1.alloc (.cells #[.int .i64 e0, .int .i64 at0] 155)).cell? ⟨b, o + (k - 1) * 3, none⟩ = some (.string y)) := fun h0 => ((((Chg.refl No wr).alloc (.cells #[.string s, .bool f, .int .u64 (id : Int)] 130)).no hc1).alloc _).cell (HPK.out h0) (fun x => x)
        have hs2 := heap_alloc_new w1 (.cells #[.int .i64 e0, .int .i64 at0] 155)
        have s0 := cellAt hs2 0 _ rfl
        clear hd hd1 hE c0 c1 c2 HC HPK hc1 hp1 hs2
        by_cases he : e0 = 0
        · subst he
          have hz0 : ((0 : Int) != 0) = false := rfl
          by_cases hk0 : k = 0
          · subst hk0
            have hy := HY0.out rfl
            subst hy
            have HN := HNL.out rfl
            have HNN := Lib.hid HN
            clear HN HNL HY0 HPP HLE
            by_cases hid0 : id = 0
            · subst hid0
              have HV : Hid (treeF xs = 2) := by rw [Hid, HU2.out, if_neg (by simp), if_neg (by rw [HNN.out]; simp), if_pos rfl]
              go_wp2
              go_quiet (fail)
              go_wp2
              go_ret
              exact ⟨by rw [HV.out]; rfl, by first | exact HC1.out | exact HC1.out.drewN _⟩
            · have hib : ((id : Int) == 0) = false := by simp; omega
              have HV : Hid (treeF xs = treeG s (xs.drop (0 + 1))) := by rw [Hid, HU2.out, if_neg (by simp), if_neg (by rw [HNN.out]; simp), if_neg hid0]
              clear hid0
              go_wp2
              go_quiet (fail)
              go_wp2
              go_roundw
              case rel => exact ⟨0 + 1, by omega, by simp, by rw [Hid, HPN.out, HV.out], by first | exact HC1.out | exact HC1.out.drewN _⟩
              case measure => simp [intOf]; omega
          · have hk1 : (0 : Int) < (k : Int) := by omega
            obtain ⟨j, rfl⟩ : ∃ j, k = j + 1 := ⟨k - 1, by omega⟩
            have pc := HPP.out (by omega)
            rw [Nat.add_sub_cancel] at pc
            have hij : ((j + 1 : Nat) : Int) - 1 = (j : Int) := by omega
            have hjb : (j : Int) < (n : Int) := by omega
            have hjb2 : ((j + 1 : Nat) : Int) - 1 < (n : Int) := by omega
            clear HPP HNL HY0 hk0
            generalize hle : (Op.bytesLess s.toList y.toList || s.toList == y.toList) = le at *
            cases le with
            | true =>
              have HV : Hid (treeF xs = 161) := by rw [Hid, HU2.out, if_neg (by simp), if_pos HLE.out]
              go_wp2
              go_quiet (fail)
              go_wp2
              go_ret
              exact ⟨by rw [HV.out]; rfl, by first | exact HC1.out | exact HC1.out.drewN _⟩
            | false =>
              by_cases hid0 : id = 0
              · subst hid0
                have HV : Hid (treeF xs = 2) := by rw [Hid, HU2.out, if_neg (by simp), if_neg (by rw [HLE.out]; simp), if_pos rfl]
                go_wp2
                go_quiet (fail)
                go_wp2
                go_ret
                exact ⟨by rw [HV.out]; rfl, by first | exact HC1.out | exact HC1.out.drewN _⟩
              · have hib : ((id : Int) == 0) = false := by simp; omega
                have HV : Hid (treeF xs = treeG s (xs.drop (j + 1 + 1))) := by rw [Hid, HU2.out, if_neg (by simp), if_neg (by rw [HLE.out]; simp), if_neg hid0]
                clear hid0
                go_wp2
                go_quiet (fail)
                go_wp2
                go_roundw
                case rel => exact ⟨j + 1 + 1, by omega, by simp, by rw [Hid, HPN.out, HV.out], by first | exact HC1.out | exact HC1.out.drewN _⟩
                case measure => simp [intOf]; omega
        · have HV : Hid (treeF xs = e0) := by rw [Hid, HU2.out, if_pos he]
          have heb : (e0 != 0) = true := by simpa using he
          clear HPP HY0 HNL
          go_wp2
          go_ret
          exact ⟨by rw [HV.out]; rfl, by first | exact HC1.out | exact HC1.out.drewN _⟩
      · have hkn : k = n := by omega
        subst hkn
        have HV : Hid (treeF xs = 0) := by
          rw [Hid, HU.out, List.drop_of_length_le (by rw [HL.out]; exact Nat.le_refl _)]
          rfl
        go_wp2
        go_ret
        exact ⟨by rw [HV.out]; rfl, HC.out⟩


set_option maxHeartbeats 6400000 in
theorem reftreeO_ok (w : World) (A : Option Addr) (n c : Nat) (xs : List Ent) (h : Es w (.slice A n c) xs) (hb0 : ∀ x ∈ xs, x.1.size ≤ maxLen ∧ x.2.2 < 18446744073709551616) (hF : treeF xs = 0) :
    Calls Try.prog 43 #[.slice A n c] w fun e w' => ∃ A' n' c', e = .returned (.tuple #[.slice A' n' c', .int .i64 0]) ∧ OwnB w' w.heap.size (.slice A' n' c') (treeB xs) ∧ (treeB xs).length = n' ∧ Chg No w w' := by
  have mx : maxLen ≤ 9223372036854775807 := by unfold maxLen; omega
  have hn256 : n ≤ 256 := by have := (treeF_zero hF).1; have := h.len; omega
  have HCK : Hid (Calls Try.prog 77 #[.slice A n c] w fun e w' => e = .returned (.int .i64 0) ∧ Chg No w w') := by
    have := refcheck_tree w A n c xs h (fun x hx => Nat.le_trans (hb0 x hx).1 mx) (by omega)
    rwa [hF] at this
  have hb : ∀ x ∈ xs, x.1.size ≤ 32 := fun x hx => ((treeF_zero hF).2 x hx).1
  have HI : Hid (∀ x ∈ xs, x.2.2 < 18446744073709551616) := fun x hx => (hb0 x hx).2
  have HL := Lib.hid h.len
  have H := Lib.hid h
  clear hb0
  have HLE := Lib.hid (show ∀ k ≤ n, ([116] ++ leb n ++ (xs.take k).flatMap entB).length ≤ 20000 from fun k hk => by
    have h1 := leb_len10 n (by omega)
    have h2 := entsB_len (xs.take k) (fun x hx => (hb x (List.mem_of_mem_take hx)))
    have h3 : (xs.take k).length ≤ k := by rw [List.length_take]; omega
    simp only [List.length_append, List.length_singleton]
    omega)
  have HNM := Lib.hid hb
  clear hb hF h
  go_enter Try.func43, Try.ntmps43
  go_wp2_with fail
  refine HCK.out.mono ?_
  rintro e w1 ⟨rfl, hc1⟩
  have HC1 := Lib.hid hc1
  clear hc1 HCK
  have hcv : IntKind.u64.wrap (n : Int) = (n : Int) := by rw [IntKind.wrap_u64]; omega
  go_wp2_with fail
  refine (refuint_calls w1 n (n : Int) rfl (by omega)).mono ?_
  rintro e w2 ⟨v2, rfl, ho2, hc2⟩
  obtain ⟨A2, n2, c2, rfl, HL2, HO2⟩ := ho2.form
  have HC2 := Lib.hid (HC1.out.no hc2)
  have hn2 : n2 ≤ 10 := by have := HL2.out; have := leb_len10 n (by omega); omega
  have hw2 : w.heap.size ≤ w2.heap.size := HC2.out.size
  clear ho2 hc2 HC1
  have own3 : Hid (OwnB (w2.alloc (.cells (u8s [116]).toArray 5)) w.heap.size (.slice (some ⟨w2.heap.size, 0, none⟩) 1 1) [116]) := OwnB.mono (OwnB.lit w2 [116] (by unfold maxLen; decide)) hw2
  have src3 : Hid (Bytes (w2.alloc (.cells (u8s [116]).toArray 5)) (.slice A2 n2 c2) (leb n)) := HO2.out.bytes.no ((Chg.refl No w2).alloc _)
  go_wp2_with (at_builtin; (refine wpList_appB rfl (.tmp 18) (.tmp 19) rfl w.heap.size (some ⟨w2.heap.size, 0, none⟩) 1 1 [116] A2 n2 c2 (leb n) rfl rfl ?own1 ?len1 ?src1 ?len2 ?bnd1 ?bas1 ?_; (case own1 => exact own3.out); (case len1 => exact rfl); (case src1 => exact src3.out); (case len2 => exact HL2.out); (case bnd1 => omega); (case bas1 => (simp only [World.size_alloc]; omega)); intro A4 c4 w4 hO4 hl4 hC4 hB4 hs4; refine Hid.out ?_))
  refine Lib.hid ?_
  have HC4 : Hid (Chg No w w4) := hC4 w (Nat.le_refl _) (HC2.out.alloc _)
  have HO4 : Hid (OwnB w4 w.heap.size (.slice A4 (1 + n2) c4) ([116] ++ leb n ++ (xs.take 0).flatMap entB)) := by rw [Hid]; simpa using hO4
  have HL4 : Hid (([116] ++ leb n ++ (xs.take 0).flatMap entB).length = 1 + n2) := by rw [Hid]; simpa using hl4
  clear hO4 hl4 hC4 hB4 own3 src3 HO2 HL2
  have hs4' : w.heap.size ≤ w4.heap.size := HC4.out.size
  clear hs4
  generalize 1 + n2 = m4 at *
  go_wp2
  go_loopw [5, 23] (fun l i wr => ∃ (k m : Nat) (A5 : Option Addr) (c5 : Nat), k ≤ n ∧ i = .int .i64 (k : Int) ∧ l = .slice A5 m c5 ∧ Hid (OwnB wr w.heap.size (.slice A5 m c5) ([116] ++ leb n ++ (xs.take k).flatMap entB)) ∧ Hid (([116] ++ leb n ++ (xs.take k).flatMap entB).length = m) ∧ Hid (Chg No w wr)) (fun _ i _ => n - (intOf i).toNat)
  case atStart => exact ⟨0, _, _, _, Nat.zero_le _, rfl, rfl, HO4.out, HL4.out, HC4.out⟩
  case round =>
    obtain ⟨k, m, A5, c5, hk, rfl, rfl, HO, HM, HC⟩ := hrel
    by_cases hlt : k < n
    · have hkl : k < xs.length := by rw [HL.out]; exact hlt
      obtain ⟨b, o, rfl, hcell⟩ := (H.out.no HC.out).addr (by rw [HL.out]; omega)
      obtain ⟨c0, c1, c2'⟩ := hcell k hkl
      have HT : Hid (xs.take (k + 1) = xs.take k ++ [xs[k]]) := by rw [Hid, List.take_succ_eq_append_getElem]
      have hsz := HNM.out _ (List.getElem_mem hkl)
      have hidl := HI.out _ (List.getElem_mem hkl)
      have hm := HLE.out k (by omega)
      rw [HM.out] at hm
      generalize xs[k] = x at *
      obtain ⟨s, f, id⟩ := x
      simp only at c0 c1 c2' hsz hidl
      generalize hys : [116] ++ leb n ++ (xs.take k).flatMap entB = ys at *
      have HYS := Lib.hid hys
      have HNX : Hid ([116] ++ leb n ++ (xs.take (k + 1)).flatMap entB = ys ++ (leb s.size ++ s.data.toList) ++ [if f = true then 1 else 0] ++ wide id) := by
        rw [Hid, HT.out, List.flatMap_append, ← List.append_assoc, HYS.out]
        simp [entB]
      clear hys hcell HT hkl HO4 HL4 HC4
      have hE := heap_alloc_new wr (.cells #[.string s, .bool f, .int .u64 (id : Int)] 130)
      have HE := Lib.hid hE
      have hwr : w.heap.size ≤ wr.heap.size := HC.out.size
      have HCe : Hid (Chg No w (wr.alloc (.cells #[.string s, .bool f, .int .u64 (id : Int)] 130))) := HC.out.alloc _
      have HOe : Hid (OwnB (wr.alloc (.cells #[.string s, .bool f, .int .u64 (id : Int)] 130)) w.heap.size (.slice A5 m c5) ys) := HO.out.alloc _
      go_wp2_with fail
      refine (reftext_calls _ s (by omega)).mono ?_
      rintro e w5 ⟨v5, rfl, ho5, hc5⟩
      obtain ⟨A6, n6, c6, rfl, HL6, HO6⟩ := ho5.form
      have HE5 := Lib.hid (hc5.heap HE.out (fun x => x))
      have HC5 := Lib.hid (HCe.out.no hc5)
      have HOf := Lib.hid (HOe.out.chg hc5 (fun _ _ x => x))
      have hn6 : n6 ≤ 50 := by have h1 := HL6.out; have h2 := leb_len10 s.size (by omega); rw [List.length_append, size_list] at h1; omega
      have hw5 : w.heap.size ≤ w5.heap.size := HC5.out.size
      clear ho5 hc5 hE c0 c1 c2' HC HO HCe HOe HE
      have e1 := cellAt HE5.out 1 _ rfl
      go_wp2_with (at_builtin; (refine wpList_appB rfl (.tmp 27) (.tmp 30) rfl w.heap.size A5 m c5 ys A6 n6 c6 (leb s.size ++ s.data.toList) rfl rfl ?own1 ?len1 ?src1 ?len2 ?bnd1 ?bas1 ?_; (case own1 => exact HOf.out); (case len1 => exact HM.out); (case src1 => exact HO6.out.bytes); (case len2 => exact HL6.out); (case bnd1 => omega); (case bas1 => omega); intro A7 c7 w7 hO7 hl7 hC7 hB7 hs7; refine Hid.out ?_))
      refine Lib.hid ?_
      have HC7 : Hid (Chg No w w7) := hC7 w (Nat.le_refl _) HC5.out
      have HO7 := Lib.hid hO7
      have HM7 := Lib.hid hl7
      have HE7 := Lib.hid (hB7 _ _ _ HE5.out (by decide))
      clear hO7 hl7 hC7 hB7 hs7 HOf HO6 HL6 HC5 HE5 e1 hw5
      generalize ys ++ (leb s.size ++ s.data.toList) = y7 at *
      have hm7 : m + n6 ≤ 20050 := by omega
      generalize m + n6 = m7 at *
      have hw7 : w.heap.size ≤ w7.heap.size := HC7.out.size
      have e1 := cellAt HE7.out 1 _ rfl
      have e2 := cellAt HE7.out 2 _ rfl
      cases f with
      | true =>
        have own8 : Hid (OwnB (w7.alloc (.cells #[.int .u8 1] 5)) w.heap.size (.slice A7 m7 c7) y7) := HO7.out.alloc _
        have src8 : Hid (Bytes (w7.alloc (.cells #[.int .u8 1] 5)) (.slice (some ⟨w7.heap.size, 0, none⟩) 1 1) [1]) := (OwnB.lit w7 [1] (by unfold maxLen; decide)).bytes
        have HE8' := Lib.hid (((Chg.refl No w7).alloc (.cells #[.int .u8 1] 5)).heap HE7.out (fun x => x))
        go_wp2_with (at_builtin; (refine wpList_appB rfl (.tmp 34) (.tmp 36) rfl w.heap.size A7 m7 c7 y7 (some ⟨w7.heap.size, 0, none⟩) 1 1 [1] rfl rfl ?own1 ?len1 ?src1 ?len2 ?bnd1 ?bas1 ?_; (case own1 => exact own8.out); (case len1 => exact HM7.out); (case src1 => exact src8.out); (case len2 => exact rfl); (case bnd1 => omega); (case bas1 => (simp only [World.size_alloc]; omega)); intro A8 c8 w8 hO8 hl8 hC8 hB8 hs8; refine Hid.out ?_))
        refine Lib.hid ?_
        have HC8 : Hid (Chg No w w8) := hC8 w (Nat.le_refl _) (HC7.out.alloc _)
        have HO8 := Lib.hid hO8
        have HM8 := Lib.hid hl8
        have HE8 := Lib.hid (hB8 _ _ _ HE8'.out (by decide))
        clear hO8 hl8 hC8 hB8 hs8 own8 src8 HE8' HO7 HM7 HE7 HC7 e1 e2 hw7
        generalize hy8 : y7 ++ [1] = y8 at *
        have HY8 := Lib.hid hy8
        clear hy8
        have hm8 : m7 + 1 ≤ 20051 := by omega
        generalize m7 + 1 = m8 at *
        have hw8 : w.heap.size ≤ w8.heap.size := HC8.out.size
        have e2 := cellAt HE8.out 2 _ rfl
        go_wp2_with fail
        refine (refword_calls w8 id (id : Int) rfl (by omega)).mono ?_
        rintro e w9 ⟨v9, rfl, ho9, hc9⟩
        obtain ⟨A10, n10, c10, rfl, HL10, HO10⟩ := ho9.form
        have hn10 : n10 = 8 := by have := HL10.out; rw [wide_len] at this; omega
        subst hn10
        have HC9 := Lib.hid (HC8.out.no hc9)
        have HO9 := Lib.hid (HO8.out.chg hc9 (fun _ _ x => x))
        have hw9 : w.heap.size ≤ w9.heap.size := HC9.out.size
        clear ho9 hc9 e2 HE8 HC8 HO8 hw8
        go_wp2_with (at_builtin; (refine wpList_appB rfl (.tmp 38) (.tmp 41) rfl w.heap.size A8 m8 c8 y8 A10 8 c10 (wide id) rfl rfl ?own1 ?len1 ?src1 ?len2 ?bnd1 ?bas1 ?_; (case own1 => exact HO9.out); (case len1 => exact HM8.out); (case src1 => exact HO10.out.bytes); (case len2 => exact HL10.out); (case bnd1 => omega); (case bas1 => omega); intro A11 c11 w11 hO11 hl11 hC11 hB11 hs11; refine Hid.out ?_))
        refine Lib.hid ?_
        have HC11 : Hid (Chg No w w11) := hC11 w (Nat.le_refl _) HC9.out
        have HO11 := Lib.hid hO11
        have HM11 := Lib.hid hl11
        clear hO11 hl11 hC11 hB11 hs11 HO9 HO10 HL10
        have HNX2 : Hid ([116] ++ leb n ++ (xs.take (k + 1)).flatMap entB = y8 ++ wide id) := by rw [Hid, HNX.out, ← HY8.out]; rfl
        go_wp2
        go_roundw
        case rel => exact ⟨k + 1, _, _, _, by omega, by simp, rfl, by rw [HNX2.out]; exact HO11.out, by rw [HNX2.out]; exact HM11.out, HC11.out⟩
        case measure => simp [intOf]; omega
      | false =>
        have own8 : Hid (OwnB (w7.alloc (.cells #[.int .u8 0] 5)) w.heap.size (.slice A7 m7 c7) y7) := HO7.out.alloc _
        have src8 : Hid (Bytes (w7.alloc (.cells #[.int .u8 0] 5)) (.slice (some ⟨w7.heap.size, 0, none⟩) 1 1) [0]) := (OwnB.lit w7 [0] (by unfold maxLen; decide)).bytes
        have HE8' := Lib.hid (((Chg.refl No w7).alloc (.cells #[.int .u8 0] 5)).heap HE7.out (fun x => x))
        go_wp2_with (at_builtin; (refine wpList_appB rfl (.tmp 34) (.tmp 36) rfl w.heap.size A7 m7 c7 y7 (some ⟨w7.heap.size, 0, none⟩) 1 1 [0] rfl rfl ?own1 ?len1 ?src1 ?len2 ?bnd1 ?bas1 ?_; (case own1 => exact own8.out); (case len1 => exact HM7.out); (case src1 => exact src8.out); (case len2 => exact rfl); (case bnd1 => omega); (case bas1 => (simp only [World.size_alloc]; omega)); intro A8 c8 w8 hO8 hl8 hC8 hB8 hs8; refine Hid.out ?_))
        refine Lib.hid ?_
        have HC8 : Hid (Chg No w w8) := hC8 w (Nat.le_refl _) (HC7.out.alloc _)
        have HO8 := Lib.hid hO8
        have HM8 := Lib.hid hl8
        have HE8 := Lib.hid (hB8 _ _ _ HE8'.out (by decide))
        clear hO8 hl8 hC8 hB8 hs8 own8 src8 HE8' HO7 HM7 HE7 HC7 e1 e2 hw7
        generalize hy8 : y7 ++ [0] = y8 at *
        have HY8 := Lib.hid hy8
        clear hy8
        have hm8 : m7 + 1 ≤ 20051 := by omega
        generalize m7 + 1 = m8 at *
        have hw8 : w.heap.size ≤ w8.heap.size := HC8.out.size
        have e2 := cellAt HE8.out 2 _ rfl
        go_wp2_with fail
        refine (refword_calls w8 id (id : Int) rfl (by omega)).mono ?_
        rintro e w9 ⟨v9, rfl, ho9, hc9⟩
        obtain ⟨A10, n10, c10, rfl, HL10, HO10⟩ := ho9.form
        have hn10 : n10 = 8 := by have := HL10.out; rw [wide_len] at this; omega
        subst hn10
        have HC9 := Lib.hid (HC8.out.no hc9)
        have HO9 := Lib.hid (HO8.out.chg hc9 (fun _ _ x => x))
        have hw9 : w.heap.size ≤ w9.heap.size := HC9.out.size
        clear ho9 hc9 e2 HE8 HC8 HO8 hw8
        go_wp2_with (at_builtin; (refine wpList_appB rfl (.tmp 38) (.tmp 41) rfl w.heap.size A8 m8 c8 y8 A10 8 c10 (wide id) rfl rfl ?own1 ?len1 ?src1 ?len2 ?bnd1 ?bas1 ?_; (case own1 => exact HO9.out); (case len1 => exact HM8.out); (case src1 => exact HO10.out.bytes); (case len2 => exact HL10.out); (case bnd1 => omega); (case bas1 => omega); intro A11 c11 w11 hO11 hl11 hC11 hB11 hs11; refine Hid.out ?_))
        refine Lib.hid ?_
        have HC11 : Hid (Chg No w w11) := hC11 w (Nat.le_refl _) HC9.out
        have HO11 := Lib.hid hO11
        have HM11 := Lib.hid hl11
        clear hO11 hl11 hC11 hB11 hs11 HO9 HO10 HL10
        have HNX2 : Hid ([116] ++ leb n ++ (xs.take (k + 1)).flatMap entB = y8 ++ wide id) := by rw [Hid, HNX.out, ← HY8.out]; rfl
        go_wp2
        go_roundw
        case rel => exact ⟨k + 1, _, _, _, by omega, by simp, rfl, by rw [HNX2.out]; exact HO11.out, by rw [HNX2.out]; exact HM11.out, HC11.out⟩
        case measure => simp [intOf]; omega
    · have hkn : k = n := by omega
      subst hkn
      have HB : Hid (OwnB wr w.heap.size (.slice A5 m c5) (treeB xs)) := by
        have := HO.out
        rw [List.take_of_length_le (by rw [HL.out]; exact Nat.le_refl _)] at this
        rw [Hid, treeB, HL.out]; exact this
      have HBL : Hid ((treeB xs).length = m) := by
        have := HM.out
        rw [List.take_of_length_le (by rw [HL.out]; exact Nat.le_refl _)] at this
        rw [Hid, treeB, HL.out]; exact this
      clear HO HM HO4 HL4 HC4 HLE
      go_wp2
      go_ret2
      exact ⟨_, _, _, rfl, HB.out, HBL.out, HC.out⟩

theorem reftree_ok (w : World) (A : Option Addr) (n c : Nat) (xs : List Ent) (h : Es w (.slice A n c) xs) (hb0 : ∀ x ∈ xs, x.1.size ≤ maxLen ∧ x.2.2 < 18446744073709551616) (hF : treeF xs = 0) :
    Calls Try.prog 43 #[.slice A n c] w fun e w' => ∃ A' n' c', e = .returned (.tuple #[.slice A' n' c', .int .i64 0]) ∧ Bytes w' (.slice A' n' c') (treeB xs) ∧ (treeB xs).length = n' ∧ Chg No w w' :=
  (reftreeO_ok w A n c xs h hb0 hF).mono fun e w' ⟨A', n', c', h1, h2, h3, h4⟩ => ⟨A', n', c', h1, h2.bytes, h3, h4⟩

theorem reftreeO_no (w : World) (A : Option Addr) (n c : Nat) (xs : List Ent) (h : Es w (.slice A n c) xs) (hb0 : ∀ x ∈ xs, x.1.size ≤ maxLen ∧ x.2.2 < 18446744073709551616) (hnm : n ≤ 9223372036854775807) (hF : treeF xs ≠ 0) :
    Calls Try.prog 43 #[.slice A n c] w fun e w' => ∃ A' n' c', e = .returned (.tuple #[.slice A' n' c', .int .i64 (treeF xs)]) ∧ OwnB w' w.heap.size (.slice A' n' c') [] ∧ ([] : List UInt8).length = n' ∧ Chg No w w' := by
  have mx : maxLen ≤ 9223372036854775807 := by unfold maxLen; omega
  have hck := refcheck_tree w A n c xs h (fun x hx => Nat.le_trans (hb0 x hx).1 mx) hnm
  have hkb : (treeF xs != 0) = true := by simpa using hF
  generalize treeF xs = k at *
  have HCK := Lib.hid hck
  clear hck h hb0
  go_enter Try.func43, Try.ntmps43
  go_wp2_with fail
  refine HCK.out.mono ?_
  rintro e w1 ⟨rfl, hc1⟩
  go_wp2
  go_ret2
  exact ⟨none, 0, 0, rfl, World.ownsRow_nil _ _ _ _, rfl, hc1⟩
theorem reftree_no (w : World) (A : Option Addr) (n c : Nat) (xs : List Ent) (h : Es w (.slice A n c) xs) (hb0 : ∀ x ∈ xs, x.1.size ≤ maxLen ∧ x.2.2 < 18446744073709551616) (hnm : n ≤ 9223372036854775807) (hF : treeF xs ≠ 0) :
    Calls Try.prog 43 #[.slice A n c] w fun e w' => ∃ A' n' c', e = .returned (.tuple #[.slice A' n' c', .int .i64 (treeF xs)]) ∧ Bytes w' (.slice A' n' c') [] ∧ ([] : List UInt8).length = n' ∧ Chg No w w' :=
  (reftreeO_no w A n c xs h hb0 hnm hF).mono fun e w' ⟨A', n', c', h1, h2, h3, h4⟩ => ⟨A', n', c', h1, h2.bytes, h3, h4⟩
end Go.Proofs.Ytccphnkdnifpfaa

namespace Go.Proofs.Ytccphnkdnifpfaa
set_option linter.unnecessarySimpa false
open Go.RowKit Go.Shelf
set_option linter.unusedVariables false
set_option linter.unusedSimpArgs false
set_option maxRecDepth 100000

theorem refid7_calls (w : World) (A : Option Addr) (n c : Nat) (xs : List UInt8) (h : Bytes w (.slice A n c) xs) (hl : xs.length = n) (hx : n ≤ 140737488355328) :
    Calls Try.prog 45 #[.slice A n c] w fun e w' => e = .returned (.int .u64 (idF xs : Int)) ∧ w' = w := by
  have HF : Hid (idF xs = if hashF xs = 0 then 1 else hashF xs) := by
    rw [Hid, idF]
    split <;> omega
  go_enter Try.func45, Try.ntmps45
  go_wp2_with fail
  refine (refhash_calls w A n c xs h hl hx).mono ?_
  rintro e w1 ⟨rfl, rfl⟩
  clear h hl
  generalize hashF xs = q at *
  by_cases h1 : q = 0
  · subst h1
    go_wp2
    go_ret
    exact ⟨by rw [HF.out]; rfl, rfl⟩
  · have h2 : ((q : Int) == 0) = false := by rw [beq_eq_false_iff_ne]; omega
    go_wp2
    go_ret
    exact ⟨by rw [HF.out, if_neg h1]; rfl, rfl⟩
/-- Where an id stands, -1 if nowhere. -/
def findZ (i : Nat) (ids : List Nat) : Int := match findI i ids with
  | none => -1
  | some q => (q : Int)
theorem findI_take : ∀ {ids : List Nat} {i q : Nat}, findI i ids = some q → ∀ k, k ≤ q → findI i (ids.take k) = none
  | [], i, q, h, k, _ => by simp [findI]
  | x :: r, i, q, h, 0, _ => by simp [findI]
  | x :: r, i, q, h, k + 1, hk => by
    rw [findI] at h
    split at h
    · cases h; omega
    · rename_i hx
      cases hr : findI i r with
      | none => rw [hr] at h; cases h
      | some q' =>
        rw [hr] at h
        cases h
        rw [List.take_succ_cons, findI, if_neg hx, findI_take hr k (by have hk : k + 1 ≤ q' + 1 := hk; omega)]
        rfl
theorem findI_at {ids : List Nat} {k i : Nat} (hk : k < ids.length) (hn : findI i (ids.take k) = none) : (ids[k] = i → findI i ids = some k) ∧ (ids[k] ≠ i → findI i (ids.take (k + 1)) = none) := by
  have hm := findI_none.1 hn
  constructor
  · intro he
    cases hf : findI i ids with
    | none => exact absurd (he ▸ List.getElem_mem hk) (findI_none.1 hf)
    | some q =>
      obtain ⟨hq, hqe⟩ := findI_some hf
      rcases Nat.lt_or_ge q k with h | h
      · exact absurd (List.mem_take_iff_getElem.2 ⟨q, by omega, hqe⟩) hm
      · rcases Nat.lt_or_ge k q with h' | h'
        · have := findI_take hf (k + 1) (by omega)
          exact absurd (List.mem_take_iff_getElem.2 ⟨k, by omega, he⟩) (findI_none.1 this)
        · rw [show q = k by omega]
  · intro he
    rw [findI_none, List.take_succ_eq_append_getElem hk, List.mem_append, not_or]
    exact ⟨hm, by simpa using fun h => he h.symm⟩
theorem cells2 {w : World} {g : Nat} {a b : Value} {t : TypeId} (h : w.heap[g]? = some (.cells #[a, b] t (0, 0))) : w.cell? ⟨g, 0, none⟩ = some a ∧ w.cell? ⟨g, 1, none⟩ = some b :=
  ⟨cellAt h 0 _ rfl, cellAt h 1 _ rfl⟩
set_option maxHeartbeats 1600000 in
theorem reffind_calls (w : World) (AI : Option Addr) (nI cI : Nat) (AR : Option Addr) (nR cR : Nat) (ids : List Nat) (h : Sl u64v w (.slice AI nI cI) ids) (hn : nI ≤ 1000000) (i : Nat) :
    Calls Try.prog 27 #[.agg #[.slice AI nI cI, .slice AR nR cR], .int .u64 (i : Int)] w fun e w' => e = .returned (.int .i64 (findZ i ids)) ∧ Chg No w w' := by
  have HL := Lib.hid h.len
  have HB := Lib.hid (heap_alloc_new w (.cells #[.slice AI nI cI, .slice AR nR cR] 70))
  have H := Lib.hid (h.no ((Chg.refl No w).alloc (.cells #[.slice AI nI cI, .slice AR nR cR] 70)))
  have HC := Lib.hid ((Chg.refl No w).alloc (.cells #[.slice AI nI cI, .slice AR nR cR] 70))
  clear h
  go_enter Try.func27, Try.ntmps27
  go_wp2
  generalize w.alloc (.cells #[.slice AI nI cI, .slice AR nR cR] 70) = w1 at *
  obtain ⟨e0, e1⟩ := cells2 HB.out
  go_loopw [5] (fun i' wr => ∃ k : Nat, k ≤ nI ∧ i' = .int .i64 (k : Int) ∧ Hid (findI i (ids.take k) = none) ∧ wr = w1) (fun i' _ => nI - (intOf i').toNat)
  case atStart => exact ⟨0, Nat.zero_le _, rfl, by simp [Hid, findI], rfl⟩
  case round =>
    obtain ⟨k, hk, rfl, HN, rfl⟩ := hrel
    by_cases hlt : k < nI
    · have i1 : (k : Int) < (nI : Int) := by omega
      obtain ⟨b, o, rfl, hcell⟩ := H.out.addr (by rw [HL.out]; omega)
      have hkl : k < ids.length := by rw [HL.out]; exact hlt
      have hc := hcell k hkl
      have HA := Lib.hid (findI_at hkl HN.out)
      generalize ids[k]'hkl = x at *
      unfold u64v at hc
      clear hcell
      by_cases hx : x = i
      · have HZ : Hid (findZ i ids = (k : Int)) := by rw [Hid, findZ, HA.out.1 hx]
        have hb : ((x : Int) == (i : Int)) = true := by rw [beq_iff_eq]; omega
        clear hx
        go_wp2
        go_ret
        exact ⟨by rw [HZ.out]; rfl, HC.out⟩
      · have HZ := Lib.hid (HA.out.2 hx)
        have hb : ((x : Int) == (i : Int)) = false := by rw [beq_eq_false_iff_ne]; omega
        clear hx
        go_wp2
        go_roundw
        case rel => exact ⟨k + 1, by omega, by go_num, HZ.out, by first | rfl | trivial⟩
        case measure => simp only [intOf]; omega
    · have i1 : ¬ (k : Int) < (nI : Int) := by omega
      have HZ : Hid (findZ i ids = -1) := by
        have := HN.out
        rw [List.take_of_length_le (by rw [HL.out]; omega)] at this
        rw [Hid, findZ, this]
      go_wp2
      go_ret
      exact ⟨by rw [HZ.out]; rfl, HC.out⟩
/-- What the reference's Put makes of ids and rows. -/
def putI (ids : List Nat) (rows : List (List UInt8)) (b : List UInt8) : List Nat × List (List UInt8) × Bool := match findI (idF b) ids with
  | some q => (ids, rows, decide (rows.getD q [] = b))
  | none => (ids ++ [idF b], rows ++ [b], true)
/-- A reference's store as a value. -/
def MV (w : World) (v : Value) (ids : List Nat) (rows : List (List UInt8)) : Prop :=
  ∃ AI nI cI AR nR cR, v = .agg #[.slice AI nI cI, .slice AR nR cR] ∧ Sl u64v w (.slice AI nI cI) ids ∧ Sl2 w (.slice AR nR cR) rows
theorem MV.no {w w' : World} {v : Value} {ids : List Nat} {rows : List (List UInt8)} (h : MV w v ids rows) (hc : Chg No w w') : MV w' v ids rows := by
  obtain ⟨AI, nI, cI, AR, nR, cR, rfl, h1, h2⟩ := h
  exact ⟨AI, nI, cI, AR, nR, cR, rfl, h1.no hc, h2.chg hc (fun _ _ x => x)⟩
theorem MV.nil (w : World) : MV w (.agg #[.slice none 0 0, .slice none 0 0]) [] [] := ⟨none, 0, 0, none, 0, 0, rfl, Holds.nil w, ⟨[], rfl, Holds.nil w, fun i h => by simp at h⟩⟩
theorem own_len {w : World} {base n : Nat} {v : Value} {xs : List Value} {e : TypeId} (h : w.ownsRow base e 1 v n xs) : xs.length = n := by have := h.1; simpa using this
theorem mkI (w : World) (n : Nat) (hn : n ≤ 1000000) : (Instr.makeSlice 42 (.int .i64 0) (.int .i64 ((n : Int) + 1))).run Try.prog w = .ok (.slice (some ⟨w.heap.size, 0, none⟩) 0 (n + 1)) (w.alloc (.cells (madeCells #[.int .u64 0] (n + 1)) 32)) := by
  obtain ⟨i0, hi, hz0, hz1, hz2⟩ := info_parts infoId
  have := run_make (P := Try.prog) w 42 32 i0 (.int .u64 0) Try.underlying42 hi hz0 .i64 .i64 0 ((n : Int) + 1) (by omega) (by omega) (by rw [hz2]; omega) (by omega)
  rw [hz1] at this
  have e9 : ((n : Int) + 1).toNat = n + 1 := by omega
  rw [e9, Nat.mul_one] at this
  exact this
theorem mkR (w : World) (n : Nat) (hn : n ≤ 1000000) : (Instr.makeSlice 22 (.int .i64 0) (.int .i64 ((n : Int) + 1))).run Try.prog w = .ok (.slice (some ⟨w.heap.size, 0, none⟩) 0 (n + 1)) (w.alloc (.cells (madeCells #[.slice none 0 0] (n + 1)) 30)) := by
  obtain ⟨i0, hi, hz0, hz1, hz2⟩ := info_parts infoSl
  have := run_make (P := Try.prog) w 22 30 i0 (.slice none 0 0) Try.underlying22 hi hz0 .i64 .i64 0 ((n : Int) + 1) (by omega) (by omega) (by rw [hz2]; omega) (by omega)
  rw [hz1] at this
  have e9 : ((n : Int) + 1).toNat = n + 1 := by omega
  rw [e9, Nat.mul_one] at this
  exact this
end Go.Proofs.Ytccphnkdnifpfaa

namespace Go.Proofs.Ytccphnkdnifpfaa
set_option linter.unnecessarySimpa false
open Go.RowKit
set_option linter.unusedVariables false
set_option linter.unusedSimpArgs false
set_option maxRecDepth 100000

/-- Bytes that lie in blocks of N. -/
def BytesN (N : Nat → Prop) (w : World) (v : Value) (xs : List UInt8) : Prop := Bytes w v xs ∧ (xs ≠ [] → ∀ b, v.ownBlock = some b → N b)
theorem BytesN.chg {N T : Nat → Prop} {w w' : World} {v : Value} {xs : List UInt8} (h : BytesN N w v xs) (hc : Chg T w w') (hs : ∀ b, N b → ¬ T b) : BytesN N w' v xs := by
  obtain ⟨h1, h2⟩ := h
  refine ⟨?_, h2⟩
  by_cases hx : xs = []
  · subst hx
    obtain ⟨A, c, rfl, hn, hm, h3⟩ := h1
    exact ⟨A, c, rfl, hn, hm, fun h => by simp [u8s] at h⟩
  · exact Holds.chg h1 hc (fun b hb => hs b (h2 hx b hb))
theorem BytesN.no {N : Nat → Prop} {w w' : World} {v : Value} {xs : List UInt8} (h : BytesN N w v xs) (hc : Chg No w w') : BytesN N w' v xs := h.chg hc (fun _ _ x => x)
theorem BytesN.mono {N N' : Nat → Prop} {w : World} {v : Value} {xs : List UInt8} (h : BytesN N w v xs) (hn : ∀ b, N b → N' b) : BytesN N' w v xs := ⟨h.1, fun hx b hb => hn b (h.2 hx b hb)⟩
theorem BytesN.old {N : Nat → Prop} {w : World} {v : Value} {xs : List UInt8} (h : Bytes w v xs) (hn : ∀ b, b < w.heap.size → N b) : BytesN N w v xs := by
  refine ⟨h, fun hx b hb => hn b ?_⟩
  have h' := h
  obtain ⟨A, c, rfl, h1, h2, h3⟩ := h'
  obtain ⟨g, o, rfl, hc⟩ := h.addr (by cases xs with | nil => exact absurd rfl hx | cons _ _ => simp)
  have e : g = b := by simpa [Value.ownBlock] using hb
  subst e
  exact World.block_lt_of_cell? w _ (hc 0 (by cases xs with | nil => exact absurd rfl hx | cons _ _ => simp))
/-- A slice of slices of bytes; the inner ones lie in blocks of N. -/
def Sl2N (N : Nat → Prop) (w : World) (v : Value) (ls : List (List UInt8)) : Prop :=
  ∃ vs : List Value, vs.length = ls.length ∧ Holds w v ls.length vs ∧ ∀ i (h : i < vs.length) (h' : i < ls.length), BytesN N w vs[i] ls[i]
theorem Sl2N.sl2 {N : Nat → Prop} {w : World} {v : Value} {ls : List (List UInt8)} (h : Sl2N N w v ls) : Sl2 w v ls := by
  obtain ⟨vs, h1, h2, h3⟩ := h
  exact ⟨vs, h1, h2, fun i hi hi' => (h3 i hi hi').1⟩
theorem Sl2N.chg {N T : Nat → Prop} {w w' : World} {v : Value} {ls : List (List UInt8)} (h : Sl2N N w v ls) (hc : Chg T w w') (hs : ∀ b, N b → ¬ T b) (hv : ∀ b, v.ownBlock = some b → ¬ T b) : Sl2N N w' v ls := by
  obtain ⟨vs, h1, h2, h3⟩ := h
  exact ⟨vs, h1, h2.chg hc hv, fun i hi hi' => (h3 i hi hi').chg hc hs⟩
theorem Sl2N.mono {N N' : Nat → Prop} {w : World} {v : Value} {ls : List (List UInt8)} (h : Sl2N N w v ls) (hn : ∀ b, N b → N' b) : Sl2N N' w v ls := by
  obtain ⟨vs, h1, h2, h3⟩ := h
  exact ⟨vs, h1, h2, fun i hi hi' => (h3 i hi hi').mono hn⟩
theorem Sl2N.form {N : Nat → Prop} {w : World} {v : Value} {ls : List (List UInt8)} (h : Sl2N N w v ls) : ∃ L n c, v = .slice L n c ∧ Hid (ls.length = n) ∧ Hid (Sl2N N w (.slice L n c) ls) := by
  obtain ⟨vs, h1, h2, h3⟩ := h
  obtain ⟨A, c, rfl, hx⟩ := h2
  exact ⟨A, _, c, rfl, rfl, vs, h1, ⟨A, c, rfl, hx⟩, h3⟩
theorem Sl2N.get {N : Nat → Prop} {w : World} {L : Option Addr} {n c : Nat} {ls : List (List UInt8)} (h : Sl2N N w (.slice L n c) ls) (hp : 0 < ls.length) :
    ∃ b o, L = some ⟨b, o, none⟩ ∧ ∀ i (hi : i < ls.length), ∃ A q cc, w.cell? ⟨b, o + i, none⟩ = some (.slice A q cc) ∧ BytesN N w (.slice A q cc) ls[i] ∧ Hid (ls[i].length = q) := by
  obtain ⟨vs, h1, ⟨A', c', he, hn, hm, hx⟩, h3⟩ := h
  simp only [Value.slice.injEq] at he
  obtain ⟨rfl, rfl, rfl⟩ := he
  obtain ⟨b, o, rfl, hc⟩ := hx (by omega)
  refine ⟨b, o, rfl, fun i hi => ?_⟩
  have hb := h3 i (by omega) hi
  have hg := hc i vs[i] (List.getElem?_eq_getElem (by omega))
  obtain ⟨A, cc, he, _⟩ := hb.1.form
  rw [he] at hg hb
  exact ⟨A, _, cc, hg, hb, rfl⟩
/-- A row of slices of bytes of the call's own; the bytes lay in world w0, in blocks of N. -/
def Own2N (N : Nat → Prop) (w0 : World) (base : Nat) (w : World) (v : Value) (n : Nat) (ls : List (List UInt8)) : Prop :=
  ∃ vs : List Value, ls.length = n ∧ w.ownsRow base 30 1 v n vs ∧ (∀ i (h : i < vs.length) (h' : i < ls.length), BytesN N w0 vs[i] ls[i])
theorem Own2N.chg {N S : Nat → Prop} {w0 w w' : World} {base : Nat} {v : Value} {n : Nat} {ls : List (List UInt8)} (h : Own2N N w0 base w v n ls) (hc : Chg S w w') (hs : ∀ b, v.ownBlock = some b → ¬ S b) : Own2N N w0 base w' v n ls := by
  obtain ⟨vs, h1, h2, h3⟩ := h
  exact ⟨vs, h1, ownsRow_chg h2 hc hs, h3⟩
theorem Own2N.app {N : Nat → Prop} {w0 w' : World} {base : Nat} {v' x : Value} {n : Nat} {ls : List (List UInt8)} {p : List UInt8} {vs : List Value} (h1 : ls.length = n) (h2 : w'.ownsRow base 30 1 v' (n + 1) (vs ++ [x])) (hl : vs.length = n) (h3 : ∀ i (h : i < vs.length) (h' : i < ls.length), BytesN N w0 vs[i] ls[i]) (hx : BytesN N w0 x p) : Own2N N w0 base w' v' (n + 1) (ls ++ [p]) := by
  refine ⟨vs ++ [x], by rw [List.length_append, h1]; rfl, h2, fun i h h' => ?_⟩
  by_cases hi : i < n
  · rw [List.getElem_append_left (by omega), List.getElem_append_left (by omega)]
    exact h3 i (by omega) (by omega)
  · have : i = n := by simp at h; omega
    subst this
    have e1 : (vs ++ [x])[i] = x := by rw [List.getElem_append_right (by omega)]; simp [hl]
    have e2 : (ls ++ [p])[i] = p := by rw [List.getElem_append_right (by omega)]; simp [h1]
    rw [e1, e2]
    exact hx
theorem Sl2N.ofOwn2N {N : Nat → Prop} {w0 w : World} {base n : Nat} {v : Value} {ls : List (List UInt8)} (h : Own2N N w0 base w v n ls) (hc : Chg No w0 w) : Sl2N N w v ls := by
  obtain ⟨vs, h1, h2, h3⟩ := h
  have hv : vs.length = n := by have := h2.1; simpa using this
  subst h1
  exact ⟨vs, hv, Holds.ofOwn h2, fun i hi hi' => (h3 i hi hi').no hc⟩
/-- A reference's store as a value, in blocks of N. -/
def MVn (N : Nat → Prop) (w : World) (v : Value) (ids : List Nat) (rows : List (List UInt8)) : Prop :=
  ∃ AI nI cI AR nR cR, v = .agg #[.slice AI nI cI, .slice AR nR cR] ∧ Sl u64v w (.slice AI nI cI) ids ∧ Sl2N N w (.slice AR nR cR) rows ∧ (∀ b, (Value.slice AI nI cI).ownBlock = some b → N b) ∧ (∀ b, (Value.slice AR nR cR).ownBlock = some b → N b)
theorem MVn.mv {N : Nat → Prop} {w : World} {v : Value} {ids : List Nat} {rows : List (List UInt8)} (h : MVn N w v ids rows) : MV w v ids rows := by
  obtain ⟨AI, nI, cI, AR, nR, cR, rfl, h1, h2, -, -⟩ := h
  exact ⟨AI, nI, cI, AR, nR, cR, rfl, h1, h2.sl2⟩
theorem MVn.form {N : Nat → Prop} {w : World} {v : Value} {ids : List Nat} {rows : List (List UInt8)} (h : MVn N w v ids rows) : ∃ x y, v = .agg #[x, y] := by
  obtain ⟨AI, nI, cI, AR, nR, cR, rfl, -⟩ := h
  exact ⟨_, _, rfl⟩
theorem MVn.chg {N T : Nat → Prop} {w w' : World} {v : Value} {ids : List Nat} {rows : List (List UInt8)} (h : MVn N w v ids rows) (hc : Chg T w w') (hs : ∀ b, N b → ¬ T b) : MVn N w' v ids rows := by
  obtain ⟨AI, nI, cI, AR, nR, cR, rfl, h1, h2, h3, h4⟩ := h
  exact ⟨AI, nI, cI, AR, nR, cR, rfl, h1.chg hc (fun b hb => hs b (h3 b hb)), h2.chg hc hs (fun b hb => hs b (h4 b hb)), h3, h4⟩
theorem MVn.no {N : Nat → Prop} {w w' : World} {v : Value} {ids : List Nat} {rows : List (List UInt8)} (h : MVn N w v ids rows) (hc : Chg No w w') : MVn N w' v ids rows := h.chg hc (fun _ _ x => x)
theorem MVn.mono {N N' : Nat → Prop} {w : World} {v : Value} {ids : List Nat} {rows : List (List UInt8)} (h : MVn N w v ids rows) (hn : ∀ b, N b → N' b) : MVn N' w v ids rows := by
  obtain ⟨AI, nI, cI, AR, nR, cR, rfl, h1, h2, h3, h4⟩ := h
  exact ⟨AI, nI, cI, AR, nR, cR, rfl, h1, h2.mono hn, fun b hb => hn b (h3 b hb), fun b hb => hn b (h4 b hb)⟩
theorem MVn.nil (N : Nat → Prop) (w : World) : MVn N w (.agg #[.slice none 0 0, .slice none 0 0]) [] [] := ⟨none, 0, 0, none, 0, 0, rfl, Holds.nil w, ⟨[], rfl, Holds.nil w, fun i h => by simp at h⟩, (fun b hb => by cases hb), (fun b hb => by cases hb)⟩
/-- Blocks of N, and those that came. -/
def Plus (N : Nat → Prop) (w w' : World) : Nat → Prop := fun i => N i ∨ (w.heap.size ≤ i ∧ i < w'.heap.size)
end Go.Proofs.Ytccphnkdnifpfaa

namespace Go.Proofs.Ytccphnkdnifpfaa
set_option linter.unnecessarySimpa false
open Go.RowKit Go.Shelf
set_option linter.unusedVariables false
set_option linter.unusedSimpArgs false
set_option maxRecDepth 100000

theorem made_own {w w' : World} {base n : Nat} {e : TypeId} {z : Value} (h : w' = w.alloc (.cells (madeCells #[z] n) e)) (hb : base ≤ w.heap.size) (hn : n ≤ 1000001) : w'.ownsRow base e 1 (.slice (some ⟨w.heap.size, 0, none⟩) 0 n) 0 [] := by
  subst h
  exact World.ownsRow_made w _ n hb (by unfold maxLen; omega) (by rw [size_madeCells, Nat.mul_one])
set_option maxHeartbeats 12800000 in
theorem refputN_calls (N : Nat → Prop) (w : World) (v : Value) (ids : List Nat) (rows : List (List UInt8)) (h : MVn N w v ids rows) (hlr : ids.length = rows.length) (hfew : ids.length ≤ 1000) (hrows : ∀ r ∈ rows, r.length ≤ 1000000) (A : Option Addr) (n c : Nat) (b : List UInt8) (hb : BytesN N w (.slice A n c) b) (hl : b.length = n) (hn : n ≤ 1000000) :
    Calls Try.prog 26 #[v, .slice A n c] w fun e w' => ∃ v', e = .returned (.tuple #[v', .int .u64 (idF b : Int), .bool (putI ids rows b).2.2]) ∧ MVn (Plus N w w') w' v' (putI ids rows b).1 (putI ids rows b).2.1 ∧ Chg No w w' := by
  obtain ⟨AI, nI, cI, AR, nR, cR, rfl, hI, hR, hNI, hNR⟩ := h
  have HLI := Lib.hid hI.len
  have hnI : nI ≤ 1000 := by have := HLI.out; omega
  have HLR : Hid (rows.length = nI) := by rw [Hid, ← hlr]; exact HLI.out
  obtain ⟨L', n', c', he, HLR', -⟩ := hR.form
  have hnR : nR = nI := by
    simp only [Value.slice.injEq] at he
    rw [he.2.1, ← HLR'.out, HLR.out]
  subst hnR
  have HI := Lib.hid hI
  have HR := Lib.hid hR
  have HBY := Lib.hid hb
  have HBL := Lib.hid hl
  have HRW := Lib.hid hrows
  have HNI := Lib.hid hNI
  have HNR := Lib.hid hNR
  clear hNI hNR
  have HP : Hid (putI ids rows b = match findI (idF b) ids with
    | some q => (ids, rows, decide (rows.getD q [] = b))
    | none => (ids ++ [idF b], rows ++ [b], true)) := rfl
  have X2 := ((Chg.refl No w).alloc (.cells #[.slice AI nR cI, .slice AR nR cR] 70)).alloc (.cells #[.slice none 0 0, .slice none 0 0] 70)
  have HC2 := Lib.hid X2
  have hg0 : ((w.alloc (.cells #[.slice AI nR cI, .slice AR nR cR] 70)).alloc (.cells #[.slice none 0 0, .slice none 0 0] 70)).heap[w.heap.size]? = some (.cells #[.slice AI nR cI, .slice AR nR cR] 70 (0, 0)) := ((Chg.refl No _).alloc _).heap (heap_alloc_new w _) (fun x => x)
  have hg1 : ((w.alloc (.cells #[.slice AI nR cI, .slice AR nR cR] 70)).alloc (.cells #[.slice none 0 0, .slice none 0 0] 70)).heap[w.heap.size + 1]? = some (.cells #[.slice none 0 0, .slice none 0 0] 70 (0, 0)) := by
    have := heap_alloc_new (w.alloc (.cells #[.slice AI nR cI, .slice AR nR cR] 70)) (.cells #[.slice none 0 0, .slice none 0 0] 70)
    rwa [World.size_alloc] at this
  have hz2 : ((w.alloc (.cells #[.slice AI nR cI, .slice AR nR cR] 70)).alloc (.cells #[.slice none 0 0, .slice none 0 0] 70)).heap.size = w.heap.size + 2 := by simp only [World.size_alloc]
  obtain ⟨ib, hib⟩ : ∃ i, i = idF b := ⟨_, rfl⟩
  rw [← hib] at HP ⊢
  have HIB := Lib.hid hib
  generalize hPP : putI ids rows b = PP at *
  clear hI hR hb hl hrows X2 hlr hfew hib hPP he HLR'
  go_enter Try.func26, Try.ntmps26
  go_wp2_with fail
  generalize (w.alloc (.cells #[.slice AI nR cI, .slice AR nR cR] 70)).alloc (.cells #[.slice none 0 0, .slice none 0 0] 70) = w2 at *
  refine (refid7_calls w2 A n c b (HBY.out.no HC2.out).1 HBL.out (by omega)).mono ?_
  rintro e w3 ⟨rfl, hww⟩
  obtain rfl := hww.symm
  clear hww
  rw [← HIB.out]
  have HG0 := Lib.hid hg0
  have HG1 := Lib.hid hg1
  obtain ⟨e0, e1⟩ := cells2 hg0
  clear hg0 hg1
  go_wp2_with fail
  refine (reffind_calls w2 AI nR cI AR nR cR ids (HI.out.no HC2.out) (by omega) ib).mono ?_
  rintro e w3 ⟨rfl, hc3⟩
  have HC3 := Lib.hid (HC2.out.no hc3)
  have HG03 := Lib.hid (hc3.heap HG0.out (fun x => x))
  have HG13 := Lib.hid (hc3.heap HG1.out (fun x => x))
  have hz3 := hc3.size
  clear e0 e1 hc3 HG0 HG1
  obtain ⟨e0, e1⟩ := cells2 HG03.out
  obtain ⟨r0, r1⟩ := cells2 HG13.out
  cases hf : findI ib ids with
  | some q =>
    rw [hf] at HP
    have hPP : Hid (PP = (ids, rows, decide (rows.getD q [] = b))) := HP
    have HZ : Hid (findZ ib ids = (q : Int)) := by rw [Hid, findZ, hf]
    rw [HZ.out]
    have hql : q < rows.length := by obtain ⟨h, -⟩ := findI_some hf; have := HLI.out; have := HLR.out; omega
    have HGD : Hid (rows.getD q [] = rows[q]) := by rw [Hid, List.getD, List.getElem?_eq_getElem hql]; rfl
    obtain ⟨lb, lo, rfl, hget⟩ := HR.out.get (by omega)
    obtain ⟨A5, q5, c5, hcell5, hby5, HQ5⟩ := hget q hql
    have hcell0 := hcell5
    have hcell5 := HC3.out.cell hcell5 (fun x => x)
    have hq5 : q < nR := by have := HLR.out; omega
    have hqi : (q : Int) < (nR : Int) := by omega
    have hq0 : (0 : Int) ≤ (q : Int) := by omega
    have f0 := frzAt HG13.out 0
    have f1 := frzAt HG13.out 1
    have hne5 : ((mkS rows[q]).toList == (mkS b).toList) = decide (rows.getD q [] = b) := by
      rw [HGD.out, Lib.toList_data, Lib.toList_data, mkS_list, mkS_list]
      by_cases h : rows[q] = b <;> simp [h]
    have ht1 := (hby5.no HC3.out).1.text (P := Try.prog) (src := 30) (dst := 9) Try.underlying30 Try.underlying5 Try.underlying9
    have ht2 := (HBY.out.no HC3.out).1.text (P := Try.prog) (src := 30) (dst := 9) Try.underlying30 Try.underlying5 Try.underlying9
    generalize decide (rows.getD q [] = b) = Bq at *
    have HB5 := Lib.hid hby5
    generalize rows[q] = rq at *
    have ht1d := ((HB5.out.no HC3.out).no (Chg.refl No w3).drew).1.text (P := Try.prog) (src := 30) (dst := 9) Try.underlying30 Try.underlying5 Try.underlying9
    have ht2d := ((HBY.out.no HC3.out).no (Chg.refl No w3).drew).1.text (P := Try.prog) (src := 30) (dst := 9) Try.underlying30 Try.underlying5 Try.underlying9
    have HCD : Hid (∀ X v0 v1, (X = w3 ∨ X = w3.drew) → Chg No w ((X.setCell ⟨w.heap.size + 1, 0, none⟩ v0).setCell ⟨w.heap.size + 1, 1, none⟩ v1)) := fun X v0 v1 hX => by
      have h0 : Chg No w X := by
        rcases hX with rfl | rfl
        · exact HC3.out
        · exact HC3.out.drew
      exact (h0.setCell (p := ⟨w.heap.size + 1, 0, none⟩) (.inl (by show w.heap.size ≤ w.heap.size + 1; omega)) _).setCell (p := ⟨w.heap.size + 1, 1, none⟩) (.inl (by show w.heap.size ≤ w.heap.size + 1; omega)) _
    have HZD : Hid (∀ X v0 v1, (X = w3 ∨ X = w3.drew) → ((X.setCell ⟨w.heap.size + 1, 0, none⟩ v0).setCell ⟨w.heap.size + 1, 1, none⟩ v1).heap[w.heap.size + 1]? = some (.cells #[v0, v1] 70 (0, 0))) := fun X v0 v1 hX => by
      have h0 : X.heap[w.heap.size + 1]? = some (.cells #[.slice none 0 0, .slice none 0 0] 70 (0, 0)) := by
        rcases hX with rfl | rfl
        · exact HG13.out
        · exact HG13.out
      exact heap_set (heap_set h0 0 v0) 1 v1
    have hlb : lb < w.heap.size := World.block_lt_of_cell? w _ hcell0
    have hlb1 : ¬ w.heap.size + 1 = lb := by omega
    have hlb2 : ¬ lb = w.heap.size + 1 := by omega
    have hg01 : ¬ w.heap.size + 1 = w.heap.size := by omega
    have hg02 : ¬ w.heap.size = w.heap.size + 1 := by omega
    have ht1s := fun v0 v1 => ((HB5.out.no (HCD.out w3 v0 v1 (.inl rfl))).no (Chg.refl No _).drew).1.text (P := Try.prog) (src := 30) (dst := 9) Try.underlying30 Try.underlying5 Try.underlying9
    have ht2s := fun v0 v1 => ((HBY.out.no (HCD.out w3 v0 v1 (.inl rfl))).no (Chg.refl No _).drew).1.text (P := Try.prog) (src := 30) (dst := 9) Try.underlying30 Try.underlying5 Try.underlying9
    have ht1t := fun v0 v1 => (HB5.out.no (HCD.out w3.drew v0 v1 (.inr rfl))).1.text (P := Try.prog) (src := 30) (dst := 9) Try.underlying30 Try.underlying5 Try.underlying9
    have ht2t := fun v0 v1 => (HBY.out.no (HCD.out w3.drew v0 v1 (.inr rfl))).1.text (P := Try.prog) (src := 30) (dst := 9) Try.underlying30 Try.underlying5 Try.underlying9
    clear hget hby5 HZ hf HP HGD
    go_wp2
    go_region
    go_wp2
    obtain ⟨z0, z1⟩ := cells2 (HZD.out w3 (.slice AI nR cI) (.slice (some ⟨lb, lo, none⟩) nR cR) (.inl rfl))
    obtain ⟨y0, y1⟩ := cells2 (heap_set HG13.out 0 (.slice AI nR cI))
    have hcw := (HCD.out w3 (.slice AI nR cI) (.slice (some ⟨lb, lo, none⟩) nR cR) (.inl rfl)).drew
    refine bodyPost_ret (v := .tuple #[.agg #[.slice AI nR cI, .slice (some ⟨lb, lo, none⟩) nR cR], .int .u64 (ib : Int), .bool Bq]) (by simp [results, Try.f26, go_sem, z0, z1, y0, y1]) rfl ⟨_, by rw [hPP.out], ?_, hcw⟩
    rw [hPP.out]
    exact ⟨AI, nR, cI, _, nR, cR, rfl, HI.out.no hcw, (HR.out.chg hcw (fun _ _ x => x) (fun _ _ x => x)).mono (fun b hb => .inl hb), (fun b hb => .inl (HNI.out b hb)), (fun b hb => .inl (HNR.out b hb))⟩
  | none =>
    rw [hf] at HP
    have hPP : Hid (PP = (ids ++ [ib], rows ++ [b], true)) := HP
    have HZ : Hid (findZ ib ids = -1) := by rw [Hid, findZ, hf]
    rw [HZ.out]
    clear HP HZ hf
    have HMI := Lib.hid (mkI w3 nR (by omega))
    have mi := HMI.out
    have X4 := (Chg.refl No w3).alloc (.cells (madeCells #[.int .u64 0] (nR + 1)) 32)
    have HO4 : Hid ((w3.alloc (.cells (madeCells #[.int .u64 0] (nR + 1)) 32)).ownsRow w.heap.size 32 1 (.slice (some ⟨w3.heap.size, 0, none⟩) 0 (nR + 1)) 0 []) := made_own rfl (by omega) (by omega)
    have hz4 : (w3.alloc (.cells (madeCells #[.int .u64 0] (nR + 1)) 32)).heap.size = w3.heap.size + 1 := World.size_alloc _ _
    have HC4 := Lib.hid (HC3.out.no X4)
    have HG04 := Lib.hid (X4.heap HG03.out (fun x => x))
    have HG14 := Lib.hid (X4.heap HG13.out (fun x => x))
    obtain ⟨d0, d1⟩ := cells2 HG04.out
    generalize hW4 : w3.alloc (.cells (madeCells #[.int .u64 0] (nR + 1)) 32) = w4 at *
    have mr := mkR w4 nR (by omega)
    have X5 := (Chg.refl No w4).alloc (.cells (madeCells #[.slice none 0 0] (nR + 1)) 30)
    have HO5 : Hid ((w4.alloc (.cells (madeCells #[.slice none 0 0] (nR + 1)) 30)).ownsRow w.heap.size 30 1 (.slice (some ⟨w4.heap.size, 0, none⟩) 0 (nR + 1)) 0 []) := made_own rfl (by omega) (by omega)
    have HO45 := Lib.hid (World.ownsRow.alloc HO4.out (.cells (madeCells #[.slice none 0 0] (nR + 1)) 30))
    have HC5 := Lib.hid (HC4.out.no X5)
    have HG05 := Lib.hid (X5.heap HG04.out (fun x => x))
    have HG15 := Lib.hid (X5.heap HG14.out (fun x => x))
    have hmn : ∀ k : Nat, k ≤ 1000 → (0 : Int) ≤ (k : Int) + 1 := fun k _ => by omega
    clear X4 X5 HMI
    go_wp2
    generalize w4.alloc (.cells (madeCells #[.slice none 0 0] (nR + 1)) 30) = w5 at *
    clear HG03 HG13 HG04 HG14 HC3 HC4 HO4 mi mr d0 d1 e0 e1 r0 r1 hW4 HC2
    go_loopw [9, 10, 11] (fun v9 v10 i' wr => ∃ (k : Nat) (A9 : Option Addr) (c9 : Nat) (A10 : Option Addr) (c10 : Nat), k ≤ nR ∧ i' = .int .i64 (k : Int) ∧ v9 = .slice A9 k c9 ∧ v10 = .slice A10 k c10 ∧ Hid (wr.ownsRow w.heap.size 32 1 (.slice A9 k c9) k ((ids.take k).map u64v)) ∧ Hid (Own2N N w w.heap.size wr (.slice A10 k c10) k (rows.take k)) ∧ Hid (wr.heap[w.heap.size]? = some (.cells #[.slice AI nR cI, .slice AR nR cR] 70 (0, 0))) ∧ Hid (wr.heap[w.heap.size + 1]? = some (.cells #[.slice none 0 0, .slice none 0 0] 70 (0, 0))) ∧ Hid (Chg No w wr)) (fun _ _ i' _ => nR - (intOf i').toNat)
    case atStart => exact ⟨0, _, _, _, _, Nat.zero_le _, rfl, rfl, rfl, HO45.out, ⟨[], rfl, (by have h := HO5.out; rw [hz4] at h; exact h), fun i h => by simp at h⟩, HG05.out, HG15.out, HC5.out⟩
    case round =>
      obtain ⟨k, A9, c9, A10, c10, hk, rfl, rfl, rfl, HO9, HO10, HG0, HG1, HC⟩ := hrel
      have hsz := HC.out.size
      obtain ⟨e0, e1⟩ := cells2 HG0.out
      by_cases hlt : k < nR
      · have i1 : (k : Int) < (nR : Int) := by omega
        have hkI : k < ids.length := by have := HLI.out; omega
        have hkR : k < rows.length := by have := HLR.out; omega
        obtain ⟨bI, oI, rfl, hcI⟩ := HI.out.addr (by omega)
        obtain ⟨lb, lo, rfl, hget⟩ := HR.out.get (by omega)
        obtain ⟨A5, q5, c5, hcell5, hby5, HQ5⟩ := hget k hkR
        have hcI' := HC.out.cell (hcI k hkI) (fun x => x)
        have hcR := HC.out.cell hcell5 (fun x => x)
        have HTI : Hid ((ids.take (k + 1)).map u64v = (ids.take k).map u64v ++ [.int .u64 ((ids[k] : Nat) : Int)]) := by rw [Hid, List.take_succ_eq_append_getElem hkI, List.map_append]; rfl
        have HTR : Hid (rows.take (k + 1) = rows.take k ++ [rows[k]]) := by rw [Hid, List.take_succ_eq_append_getElem hkR]
        have HB5 := Lib.hid hby5
        have HR5 := Lib.hid (show w.cell? ⟨lb, lo + k, none⟩ = _ from hcell5)
        generalize ids[k]'hkI = x at *
        generalize rows[k]'hkR = r at *
        unfold u64v at hcI'
        clear hcI hget hby5 hcell5
        go_wp2_with (at_builtin; (refine wpList_app2 rfl (.tmp 47) (.tmp 53) 42 42 rfl w.heap.size 32 (.int .u64 0) 1 8 infoId Try.underlying42 rfl (by decide) (.slice A9 k c9) (.slice (some ⟨wr.heap.size, 0, none⟩) 1 1) k 1 ((ids.take k).map u64v) [.int .u64 (x : Int)] rfl rfl ?own ?src ?b1 ?b2 ?b3 ?_; (case own => exact World.ownsRow.alloc HO9.out _); (case src => exact Src.one Try.underlying42 _ rfl); (case b1 => omega); (case b2 => unfold maxLen; omega); (case b3 => rw [World.size_alloc]; omega); intro v8 w8 hown8 hg8 hfrom8; refine Hid.out ?_))
        refine Lib.hid ?_
        obtain ⟨A8, c8, rfl⟩ := ownsRow_form hown8
        have hc8 : Chg (fun i => some i = (Value.slice A9 k c9).ownBlock) wr w8 := ((Chg.refl _ wr).alloc _).grown hg8 (fun k hk => .inr hk.symm)
        have hnb : ∀ b, (Value.slice A10 k c10).ownBlock = some b → ¬ some b = (Value.slice A9 k c9).ownBlock := fun b hb e => by
          obtain ⟨vs, g1, g2, g3⟩ := HO10.out
          exact rows_apart g2 HO9.out (by decide) b hb e.symm
        have ho10 := HO10.out.chg hc8 hnb
        have HO8 := Lib.hid hown8
        have hb9 : ∀ i, some i = (Value.slice A9 k c9).ownBlock → w.heap.size ≤ i ∧ i ≠ w.heap.size ∧ i ≠ w.heap.size + 1 := fun i hi => by
          obtain ⟨cc, fz, hcc⟩ := ownsRow_cells HO9.out i hi.symm
          refine ⟨(World.ownsRow.lt HO9.out i hi.symm).1, ?_, ?_⟩
          · rintro rfl
            rw [HG0.out] at hcc; simp at hcc
          · rintro rfl
            rw [HG1.out] at hcc; simp at hcc
        have HG08 := Lib.hid (hc8.heap HG0.out (fun e => (hb9 _ e).2.1 rfl))
        have HG18 := Lib.hid (hc8.heap HG1.out (fun e => (hb9 _ e).2.2 rfl))
        have HC8 := Lib.hid (HC.out.trans hc8 (fun i hi e => by have := (hb9 i e).1; omega))
        have hs8 := hc8.size
        have hcR8 := HC8.out.cell HR5.out (fun x => x)
        obtain ⟨d0, d1⟩ := cells2 HG08.out
        obtain ⟨vs, g1, g2, g3⟩ := ho10
        have HG2 := Lib.hid g2
        have HG3 := Lib.hid g3
        have HG1' := Lib.hid g1
        have HVL := Lib.hid (own_len g2)
        clear hown8 hg8 hfrom8 hc8 hnb e0 e1 hcR g1 g2 g3 HO10
        go_wp2_with (at_builtin; (refine wpList_app2 rfl (.tmp 55) (.tmp 61) 22 22 rfl w.heap.size 30 (.slice none 0 0) 1 24 infoSl Try.underlying22 rfl (by decide) (.slice A10 k c10) (.slice (some ⟨w8.heap.size, 0, none⟩) 1 1) k 1 vs [.slice A5 q5 c5] rfl rfl ?own ?src ?b1 ?b2 ?b3 ?_; (case own => exact World.ownsRow.alloc HG2.out _); (case src => exact Src.one Try.underlying22 _ rfl); (case b1 => omega); (case b2 => unfold maxLen; omega); (case b3 => rw [World.size_alloc]; omega); intro v9 w9 hown9 hg9 hfrom9; refine Hid.out ?_))
        refine Lib.hid ?_
        have hc9 : Chg (fun i => some i = (Value.slice A10 k c10).ownBlock) w8 w9 := ((Chg.refl _ w8).alloc _).grown hg9 (fun k hk => .inr hk.symm)
        obtain ⟨A11, c11, rfl⟩ := ownsRow_form hown9
        have hO9 : Own2N N w w.heap.size w9 (.slice A11 (k + 1) c11) (k + 1) (rows.take k ++ [r]) := Own2N.app HG1'.out hown9 HVL.out HG3.out HB5.out
        have hb10 : ∀ i, some i = (Value.slice A10 k c10).ownBlock → w.heap.size ≤ i ∧ i ≠ w.heap.size ∧ i ≠ w.heap.size + 1 := fun i hi => by
          obtain ⟨cc, fz, hcc⟩ := ownsRow_cells HG2.out i hi.symm
          refine ⟨(World.ownsRow.lt HG2.out i hi.symm).1, ?_, ?_⟩
          · rintro rfl
            rw [HG08.out] at hcc; simp at hcc
          · rintro rfl
            rw [HG18.out] at hcc; simp at hcc
        have ho8 := ownsRow_chg HO8.out hc9 (fun b hb e => rows_apart HO8.out HG2.out (by decide) b hb e.symm)
        have HO8' := Lib.hid ho8
        have HO9' := Lib.hid hO9
        have HG09 := Lib.hid (hc9.heap HG08.out (fun e => (hb10 _ e).2.1 rfl))
        have HG19 := Lib.hid (hc9.heap HG18.out (fun e => (hb10 _ e).2.2 rfl))
        have HC9 := Lib.hid (HC8.out.trans hc9 (fun i hi e => by have := (hb10 i e).1; omega))
        clear hown9 hg9 hfrom9 hc9 hO9 ho8 d0 d1 hcR8
        go_wp2
        go_roundw
        case rel => exact ⟨k + 1, A8, c8, A11, c11, by omega, by go_num, rfl, rfl, by rw [HTI.out]; exact HO8'.out, by rw [HTR.out]; exact HO9'.out, HG09.out, HG19.out, HC9.out⟩
        case measure => simp only [intOf]; omega
      · have i1 : ¬ (k : Int) < (nR : Int) := by omega
        have hke : k = nR := by omega
        subst hke
        have HTI : Hid (ids.take k = ids) := List.take_of_length_le (by rw [HLI.out]; exact Nat.le_refl _)
        have HTR : Hid (rows.take k = rows) := List.take_of_length_le (by rw [HLR.out]; exact Nat.le_refl _)
        rw [HTI.out] at HO9
        rw [HTR.out] at HO10
        have hi2 : (0 : Int) ≤ (k : Int) := by omega
        have c1' := frzAt HG1.out 0
        have c2' := frzAt HG1.out 1
        obtain ⟨r0, r1⟩ := cells2 HG1.out
        have HO9a := Lib.hid (World.ownsRow.alloc HO9.out (.cells #[.int .u64 (ib : Int)] 32))
        go_wp2_with (at_builtin; (refine wpList_app2 rfl (.tmp 63) (.tmp 65) 42 42 rfl w.heap.size 32 (.int .u64 0) 1 8 infoId Try.underlying42 rfl (by decide) (.slice A9 k c9) (.slice (some ⟨wr.heap.size, 0, none⟩) 1 1) k 1 (ids.map u64v) [.int .u64 (ib : Int)] rfl rfl ?own ?src ?b1 ?b2 ?b3 ?_; (case own => exact HO9a.out); (case src => exact Src.one Try.underlying42 _ rfl); (case b1 => omega); (case b2 => unfold maxLen; omega); (case b3 => rw [World.size_alloc]; omega); intro v8 w8 hown8 hg8 hfrom8; refine Hid.out ?_))
        refine Lib.hid ?_
        obtain ⟨A8, c8, rfl⟩ := ownsRow_form hown8
        have hc8 : Chg (fun i => some i = (Value.slice A9 k c9).ownBlock) wr w8 := ((Chg.refl _ wr).alloc _).grown hg8 (fun k hk => .inr hk.symm)
        have hnb : ∀ b, (Value.slice A10 k c10).ownBlock = some b → ¬ some b = (Value.slice A9 k c9).ownBlock := fun b hb e => by
          obtain ⟨vs, g1, g2, g3⟩ := HO10.out
          exact rows_apart g2 HO9.out (by decide) b hb e.symm
        have ho10 := HO10.out.chg hc8 hnb
        have HO8 := Lib.hid hown8
        have hb9 : ∀ i, some i = (Value.slice A9 k c9).ownBlock → w.heap.size ≤ i ∧ i ≠ w.heap.size ∧ i ≠ w.heap.size + 1 := fun i hi => by
          obtain ⟨cc, fz, hcc⟩ := ownsRow_cells HO9.out i hi.symm
          refine ⟨(World.ownsRow.lt HO9.out i hi.symm).1, ?_, ?_⟩
          · rintro rfl
            rw [HG0.out] at hcc; simp at hcc
          · rintro rfl
            rw [HG1.out] at hcc; simp at hcc
        have HG18 := Lib.hid (hc8.heap HG1.out (fun e => (hb9 _ e).2.2 rfl))
        have HC8 := Lib.hid (HC.out.trans hc8 (fun i hi e => by have := (hb9 i e).1; omega))
        have hs8 := hc8.size
        obtain ⟨vs, g1, g2, g3⟩ := ho10
        have HG2 := Lib.hid g2
        have HG3 := Lib.hid g3
        have HG1' := Lib.hid g1
        have HVL := Lib.hid (own_len g2)
        clear hown8 hg8 hfrom8 hc8 hnb e0 e1 g1 g2 g3 HO10 c1' c2' r0 r1
        go_wp2_with (at_builtin; (refine wpList_app2 rfl (.tmp 67) (.tmp 69) 22 22 rfl w.heap.size 30 (.slice none 0 0) 1 24 infoSl Try.underlying22 rfl (by decide) (.slice A10 k c10) (.slice (some ⟨w8.heap.size, 0, none⟩) 1 1) k 1 vs [.slice A n c] rfl rfl ?own ?src ?b1 ?b2 ?b3 ?_; (case own => exact World.ownsRow.alloc HG2.out _); (case src => exact Src.one Try.underlying22 _ rfl); (case b1 => omega); (case b2 => unfold maxLen; omega); (case b3 => rw [World.size_alloc]; omega); intro v9 w9 hown9 hg9 hfrom9; refine Hid.out ?_))
        refine Lib.hid ?_
        have hc9 : Chg (fun i => some i = (Value.slice A10 k c10).ownBlock) w8 w9 := ((Chg.refl _ w8).alloc _).grown hg9 (fun k hk => .inr hk.symm)
        obtain ⟨A11, c11, rfl⟩ := ownsRow_form hown9
        have hO9 : Own2N N w w.heap.size w9 (.slice A11 (k + 1) c11) (k + 1) (rows ++ [b]) := Own2N.app HG1'.out hown9 HVL.out HG3.out HBY.out
        have hb10 : ∀ i, some i = (Value.slice A10 k c10).ownBlock → w.heap.size ≤ i ∧ i ≠ w.heap.size + 1 := fun i hi => by
          obtain ⟨cc, fz, hcc⟩ := ownsRow_cells HG2.out i hi.symm
          refine ⟨(World.ownsRow.lt HG2.out i hi.symm).1, ?_⟩
          rintro rfl
          rw [HG18.out] at hcc; simp at hcc
        have ho8 := ownsRow_chg HO8.out hc9 (fun b hb e => rows_apart HO8.out HG2.out (by decide) b hb e.symm)
        have HO8' := Lib.hid ho8
        have HO9' := Lib.hid hO9
        have hg19 := hc9.heap HG18.out (fun e => (hb10 _ e).2 rfl)
        have HG19 := Lib.hid hg19
        have HC9 := Lib.hid (HC8.out.trans hc9 (fun i hi e => by have := (hb10 i e).1; omega))
        have f0 := frzAt hg19 0
        have f1 := frzAt hg19 1
        obtain ⟨r0, r1⟩ := cells2 hg19
        have HCX : Hid (∀ v0 v1, Chg No w ((w9.setCell ⟨w.heap.size + 1, 0, none⟩ v0).setCell ⟨w.heap.size + 1, 1, none⟩ v1)) := fun v0 v1 => (HC9.out.setCell (p := ⟨w.heap.size + 1, 0, none⟩) (.inl (by show w.heap.size ≤ w.heap.size + 1; omega)) _).setCell (p := ⟨w.heap.size + 1, 1, none⟩) (.inl (by show w.heap.size ≤ w.heap.size + 1; omega)) _
        have HZX : Hid (∀ v0 v1, ((w9.setCell ⟨w.heap.size + 1, 0, none⟩ v0).setCell ⟨w.heap.size + 1, 1, none⟩ v1).heap[w.heap.size + 1]? = some (.cells #[v0, v1] 70 (0, 0))) := fun v0 v1 => heap_set (heap_set HG19.out 0 v0) 1 v1
        have HNX : Hid (∀ i, some i = (Value.slice A8 (k + 1) c8).ownBlock → ¬ i = w.heap.size + 1) := fun i hi e => by
          obtain ⟨cc, fz, hcc⟩ := ownsRow_cells HO8'.out i hi.symm
          rw [e, HG19.out] at hcc; simp at hcc
        have HNY : Hid (∀ i, (Value.slice A11 (k + 1) c11).ownBlock = some i → ¬ i = w.heap.size + 1) := fun i hi e => by
          obtain ⟨cc, fz, hcc⟩ := ownsRow_cells hown9 i hi
          rw [e, HG19.out] at hcc; simp at hcc
        clear hown9 hg9 hfrom9 hc9 hO9 ho8 hg19
        go_wp2
        obtain ⟨z0, z1⟩ := cells2 (HZX.out (.slice A8 (k + 1) c8) (.slice A11 (k + 1) c11))
        have hcc : Chg (One (w.heap.size + 1)) w9 ((w9.setCell ⟨w.heap.size + 1, 0, none⟩ (.slice A8 (k + 1) c8)).setCell ⟨w.heap.size + 1, 1, none⟩ (.slice A11 (k + 1) c11)) := ((Chg.refl (One (w.heap.size + 1)) w9).setCell (p := ⟨w.heap.size + 1, 0, none⟩) (.inr rfl) _).setCell (p := ⟨w.heap.size + 1, 1, none⟩) (.inr rfl) _
        refine bodyPost_ret (v := .tuple #[.agg #[.slice A8 (k + 1) c8, .slice A11 (k + 1) c11], .int .u64 (ib : Int), .bool true]) (by simp [results, Try.f26, go_sem, z0, z1]) rfl ⟨_, by rw [hPP.out], ?_, HCX.out _ _⟩
        rw [hPP.out]
        have hln8 : ∀ i, some i = (Value.slice A8 (k + 1) c8).ownBlock → w.heap.size ≤ i ∧ i < w9.heap.size := fun i hi => World.ownsRow.lt HO8'.out i hi.symm
        refine ⟨A8, k + 1, c8, A11, k + 1, c11, rfl, ?_, ?_, (fun i hi => .inr ?_), (fun i hi => .inr ?_)⟩
        · have h := Holds.ofOwn (ownsRow_chg HO8'.out hcc (fun i hi e => HNX.out i hi.symm e))
          have e1 : ids.map u64v ++ [.int .u64 (ib : Int)] = (ids ++ [ib]).map u64v := by rw [List.map_append]; rfl
          have e2 : (ids ++ [ib]).length = k + 1 := by rw [List.length_append, HLI.out]; rfl
          rw [e1] at h
          unfold Sl
          rw [e2]
          exact h
        · exact (Sl2N.ofOwn2N (HO9'.out.chg hcc HNY.out) (HCX.out _ _)).mono (fun b hb => .inl hb)
        · have := hln8 i hi.symm
          have h2 := hcc.size
          exact ⟨this.1, by omega⟩
        · obtain ⟨vs', q1, q2, q3⟩ := HO9'.out
          have := World.ownsRow.lt q2 i hi
          have h2 := hcc.size
          exact ⟨this.1, by omega⟩
theorem refput_calls (w : World) (v : Value) (ids : List Nat) (rows : List (List UInt8)) (h : MV w v ids rows) (hlr : ids.length = rows.length) (hfew : ids.length ≤ 1000) (hrows : ∀ r ∈ rows, r.length ≤ 1000000) (A : Option Addr) (n c : Nat) (b : List UInt8) (hb : Bytes w (.slice A n c) b) (hl : b.length = n) (hn : n ≤ 1000000) :
    Calls Try.prog 26 #[v, .slice A n c] w fun e w' => ∃ v', e = .returned (.tuple #[v', .int .u64 (idF b : Int), .bool (putI ids rows b).2.2]) ∧ MV w' v' (putI ids rows b).1 (putI ids rows b).2.1 ∧ Chg No w w' := by
  obtain ⟨AI, nI, cI, AR, nR, cR, rfl, h1, ⟨vs, h2, h3, h4⟩⟩ := h
  refine (refputN_calls (fun _ => True) w _ ids rows ⟨AI, nI, cI, AR, nR, cR, rfl, h1, ⟨vs, h2, h3, fun i a b => ⟨h4 i a b, fun _ _ _ => trivial⟩⟩, (fun _ _ => trivial), (fun _ _ => trivial)⟩ hlr hfew hrows A n c b ⟨hb, fun _ _ _ => trivial⟩ hl hn).mono ?_
  rintro e w' ⟨v', a, b, c⟩
  exact ⟨v', a, b.mv, c⟩
end Go.Proofs.Ytccphnkdnifpfaa

namespace Go.Proofs.Ytccphnkdnifpfaa
set_option linter.unnecessarySimpa false
open Go.RowKit
set_option linter.unusedVariables false
set_option linter.unusedSimpArgs false
set_option maxRecDepth 100000

/-- A world that has more than W, and all of W as it was. -/
structure Later (W : World) where
  w : World
  h : Chg No W w
instance laterNe (W : World) : Nonempty (Later W) := ⟨⟨W, Chg.refl No W⟩⟩
def LaterC (W : World) (w' : World) : Prop := ∃ x : Later W, w' = x.w
theorem wpIn_region_later_round {F : Fence} {n : Nat} {P : Program} {id : Nat} {Q : Exit → Act → World → Prop} {a : Act} {w : World} {l : List Oper} (r : Nat) (hro : F.round = none) (hm : P.follows .mixedOrders = true) (hB : Region.lexB .any l.toArray = true) (hd : noDefer l.toArray = true)
    (h : wpQuietIn F n P l.toArray (fun w' => ∃ x : Later w, w' = x.w) (fun a' => ∀ x : Later w, Q .normal a' x.w) l a) : (Code.region id l.toArray true).wpIn (F.inRound r) n P Q a w := by
  simp only [Region.lexB, Bool.and_eq_true] at hB
  refine wpIn_region_any hm (wpAnyIn_inRound hro hd r _ _ _ _ (wpAnyIn_of_quiet (C := fun w' => ∃ x : Later w, w' = x.w) (Q := fun a' => ∀ x : Later w, Q .normal a' x.w) hro (fun _ w' hw' h => by obtain ⟨x, rfl⟩ := hw'; exact h x) _ _ _ _ ⟨⟨_, (Chg.refl No w).drew⟩, rfl⟩ ?_))
  have := wpAnyQIn_lex (F := F) (n := n) (C := fun w' => ∃ x : Later w, w' = x.w) (md := .any) hB.1 l 0 (Array.replicate l.length false) a (by simp) (by simpa using hB.2) h
  simpa using this
theorem wpIn_region_later {F : Fence} {n : Nat} {P : Program} {id : Nat} {Q : Exit → Act → World → Prop} {a : Act} {w : World} {l : List Oper} (hro : F.round = none) (hm : P.follows .mixedOrders = true) (hB : Region.lexB .any l.toArray = true)
    (h : wpQuietIn F n P l.toArray (fun w' => ∃ x : Later w, w' = x.w) (fun a' => ∀ x : Later w, Q .normal a' x.w) l a) : (Code.region id l.toArray true).wpIn F n P Q a w := by
  simp only [Region.lexB, Bool.and_eq_true] at hB
  refine wpIn_region_any hm (wpAnyIn_of_quiet (C := fun w' => ∃ x : Later w, w' = x.w) (Q := fun a' => ∀ x : Later w, Q .normal a' x.w) hro (fun _ w' hw' h => by obtain ⟨x, rfl⟩ := hw'; exact h x) _ _ _ _ ⟨⟨_, (Chg.refl No w).drew⟩, rfl⟩ ?_)
  have := wpAnyQIn_lex (F := F) (n := n) (C := fun w' => ∃ x : Later w, w' = x.w) (md := .any) hB.1 l 0 (Array.replicate l.length false) a (by simp) (by simpa using hB.2) h
  simpa using this
/-- A call that changes nothing that was. -/
theorem callsLater {n : Nat} {P : Program} {f : FuncId} {args : Array Value} {W : World} {v : Value} (x : Later W) (h : Calls P f args x.w fun e w' => e = .returned v ∧ Chg No x.w w') :
    CallsIn Fence.wide n P f args x.w fun e w'' => e = .returned v ∧ ∃ y : Later W, w'' = y.w :=
  callsIn_wide.2 (h.mono fun e w' ⟨he, hc⟩ => ⟨he, ⟨w', x.h.no hc⟩, rfl⟩)
end Go.Proofs.Ytccphnkdnifpfaa

namespace Go.Proofs.Ytccphnkdnifpfaa
set_option linter.unnecessarySimpa false
open Go.RowKit Go.Shelf
set_option linter.unusedVariables false
set_option linter.unusedSimpArgs false
set_option maxRecDepth 100000

attribute [local go_sem] Oper.semAt_some

set_option maxHeartbeats 12800000 in
theorem holds7_core (n : Nat) (hn : 3 ≤ n) (w : World) (S : Nat → Prop) (base s mp j d m nw : Nat) (th : Bool) (ps : List (List UInt8)) (h : SD w S base s mp j d m nw th ps) (hok : okF [] ps = true) (hen : (encF ps).length ≤ 4194304) (hfew : ps.length ≤ 1000) (hlen : ∀ p ∈ ps, p.length ≤ 1000000) (v : Value) (hv : MV w v (ps.map idF) ps) :
    CallsIn Fence.wide n Try.prog 28 #[.pointer (some ⟨s, 0, none⟩), v] w fun e W' => e = .returned (.bool true) ∧ Below w.heap.size w W' := by
  have h1 : 1 ≤ n := by omega
  obtain ⟨AI, nI, cI, AR, nR, cR, rfl, hI, hR⟩ := hv
  have HLI0 := hI.len
  rw [List.length_map] at HLI0
  obtain ⟨L', n', c', he, HLR', -⟩ := hR.form
  have hnR : nR = nI := by
    simp only [Value.slice.injEq] at he
    rw [he.2.1, ← HLR'.out, HLI0]
  subst hnR
  have hPL := Lib.hid HLI0
  have HI := Lib.hid hI
  have HR := Lib.hid hR
  have HSl := Lib.hid h.lt
  have HS := Lib.hid (fun V (hV : Below w.heap.size w V) => h.chg (Chg.ofBelowN hV) (fun i hi => by have := (h.lt i hi).2; omega))
  obtain ⟨sv, hsc⟩ := h.ids
  have HSC := Lib.hid (fun V (hV : Below w.heap.size w V) => (HS.out V hV).ids)
  have HOK := Lib.hid hok
  have HLE := Lib.hid hlen
  have hnI : nR ≤ 1000 := by omega
  clear hI hR h hok hlen he HLR' hsc
  refine callsIn_of_wp_marks Try.func28 rfl trivial ?_ rfl
  simp only [Try.ntmps28, List.size_toArray, List.length_cons, List.length_nil, Nat.reduceAdd, Nat.reduceSub, Array.replicate_succ, Array.replicate_zero, List.push_toArray, List.append_toArray, List.nil_append, List.cons_append]
  gi_wp2
  have X2 := (((Chg.refl No w).alloc (.cells #[.pointer (some ⟨s, 0, none⟩)] 26)).alloc (.cells #[.slice AI nR cI, .slice AR nR cR] 70)).alloc (.cells #[.bool false] 4)
  have G0 : Boxed (((w.alloc (.cells #[.pointer (some ⟨s, 0, none⟩)] 26)).alloc (.cells #[.slice AI nR cI, .slice AR nR cR] 70)).alloc (.cells #[.bool false] 4)) w.heap.size 26 (.pointer (some ⟨s, 0, none⟩)) := ((Boxed.new w _ _).alloc _).alloc _
  have G1 : (((w.alloc (.cells #[.pointer (some ⟨s, 0, none⟩)] 26)).alloc (.cells #[.slice AI nR cI, .slice AR nR cR] 70)).alloc (.cells #[.bool false] 4)).heap[w.heap.size + 1]? = some (.cells #[.slice AI nR cI, .slice AR nR cR] 70 (0, 0)) := by
    have := heap_alloc_new (w.alloc (.cells #[.pointer (some ⟨s, 0, none⟩)] 26)) (.cells #[.slice AI nR cI, .slice AR nR cR] 70)
    rw [World.size_alloc] at this
    exact ((Chg.refl No _).alloc _).heap this (fun x => x)
  have G2 : Boxed (((w.alloc (.cells #[.pointer (some ⟨s, 0, none⟩)] 26)).alloc (.cells #[.slice AI nR cI, .slice AR nR cR] 70)).alloc (.cells #[.bool false] 4)) (w.heap.size + 2) 4 (.bool false) := by
    have := Boxed.new ((w.alloc (.cells #[.pointer (some ⟨s, 0, none⟩)] 26)).alloc (.cells #[.slice AI nR cI, .slice AR nR cR] 70)) 4 (.bool false)
    simp only [World.size_alloc] at this
    exact this
  have hz2 : (((w.alloc (.cells #[.pointer (some ⟨s, 0, none⟩)] 26)).alloc (.cells #[.slice AI nR cI, .slice AR nR cR] 70)).alloc (.cells #[.bool false] 4)).heap.size = w.heap.size + 3 := by simp only [World.size_alloc]
  generalize ((w.alloc (.cells #[.pointer (some ⟨s, 0, none⟩)] 26)).alloc (.cells #[.slice AI nR cI, .slice AR nR cR] 70)).alloc (.cells #[.bool false] 4) = W2 at *
  have HC2 := Lib.hid X2
  have c0 := G0.cell
  obtain ⟨e0, e1⟩ := cells2 G1
  have HLEN := Lib.hid (fun V (hV : Chg No w V) => show Calls Try.prog 21 #[.pointer (some ⟨s, 0, none⟩)] V (fun e w' => e = .returned (.int .i64 (nR : Int)) ∧ w' = V) from by
    obtain ⟨sv', hsc'⟩ := HSC.out V hV.below
    have h := slen_calls V base s mp j sv' _ hsc'
    rw [List.length_map, hPL.out] at h
    exact h.mono fun e w' ⟨a, b⟩ => ⟨a, b.symm⟩)
  have hne0 : ((nR : Int) != (nR : Int)) = false := by simp
  refine wpIn_wide.2 ?_
  go_quiet ((go_at_call 21; exact Calls.quiet_of_same (HLEN.out _ (HC2.out.drewN _))))
  have HC3 : Hid (Chg No w (W2.drewN nq)) := HC2.out.drewN nq
  have G0 : Boxed (W2.drewN nq) w.heap.size 26 (.pointer (some ⟨s, 0, none⟩)) := G0
  have G1 : (W2.drewN nq).heap[w.heap.size + 1]? = some (.cells #[.slice AI nR cI, .slice AR nR cR] 70 (0, 0)) := G1
  have G2 : Boxed (W2.drewN nq) (w.heap.size + 2) 4 (.bool false) := G2
  have hz3 : (W2.drewN nq).heap.size = w.heap.size + 3 := hz2
  clear c0 e0 e1 hz2 X2 HC2
  generalize W2.drewN nq = W3 at *
  have X4 := (Chg.refl No W3).alloc (.cells #[.int .i64 0] 3)
  have HC4 := Lib.hid (HC3.out.no X4)
  have G0 : Boxed (W3.alloc (.cells #[.int .i64 0] 3)) w.heap.size 26 (.pointer (some ⟨s, 0, none⟩)) := G0.alloc _
  have G1 := X4.heap G1 (fun x => x)
  have G2 : Boxed (W3.alloc (.cells #[.int .i64 0] 3)) (w.heap.size + 2) 4 (.bool false) := G2.alloc _
  have G3 := Boxed.new W3 3 (.int .i64 0)
  rw [hz3] at G3
  have hz4 : (W3.alloc (.cells #[.int .i64 0] 3)).heap.size = w.heap.size + 4 := by rw [World.size_alloc, hz3]
  have hz3' : W3.heap.size = w.heap.size + 3 := hz3
  have c0 := G0.cell
  obtain ⟨sv4, hsc4⟩ := HSC.out _ HC4.out.below
  have HSI := Lib.hid (since_calls _ base s mp j sv4 _ hsc4 0 (by omega) (by omega) (by rw [List.length_map]; omega))
  clear hsc4 X4 HC3
  gi_wp2_with (refine ⟨trivial, ?_⟩; gi_at_call 19; refine (callsIn_wide.2 HSI.out).mono ?_; rintro e w5 ⟨A5, m5, c5, rfl, rfl, hsl5, hm5, hob5⟩)
  have hdz : List.drop (Int.toNat 0) (ps.map idF) = ps.map idF := rfl
  rw [hdz] at hsl5
  clear hdz HSI c0
  generalize W3.alloc (.cells #[.int .i64 0] 3) = W4 at *
  have hob6 : ∀ b, (Value.slice A5 m5 c5).ownBlock = some b → b < w.heap.size := fun b hb => by
    obtain ⟨cc, fz, hcc⟩ := hob5 b hb
    have hl := (Array.getElem?_eq_some_iff.1 hcc).1
    rcases Nat.lt_or_ge b w.heap.size with h | h
    · exact h
    · have h4 : b = w.heap.size ∨ b = w.heap.size + 1 ∨ b = w.heap.size + 2 ∨ b = w.heap.size + 3 := by omega
      rcases h4 with rfl | rfl | rfl | rfl
      · rw [show W4.heap[_]? = _ from G0] at hcc; simp at hcc
      · rw [G1] at hcc; simp at hcc
      · rw [show W4.heap[_]? = _ from G2] at hcc; simp at hcc
      · rw [show W4.heap[_]? = _ from G3] at hcc; simp at hcc
  have X5 := (Chg.refl No W4).alloc (.cells #[.slice A5 m5 c5] 42)
  have hx5 := Boxed.new W4 42 (.slice A5 m5 c5)
  rw [hz4] at hx5
  have hsl6 := hsl5.no X5
  have G0 : Boxed (W4.alloc (.cells #[.slice A5 m5 c5] 42)) w.heap.size 26 (.pointer (some ⟨s, 0, none⟩)) := G0.alloc _
  have G1 := X5.heap G1 (fun x => x)
  have G2 : Boxed (W4.alloc (.cells #[.slice A5 m5 c5] 42)) (w.heap.size + 2) 4 (.bool false) := G2.alloc _
  have G3 : Boxed (W4.alloc (.cells #[.slice A5 m5 c5] 42)) (w.heap.size + 3) 3 (.int .i64 0) := G3.alloc _
  have HC5 := Lib.hid (HC4.out.no X5)
  have hz5 : (W4.alloc (.cells #[.slice A5 m5 c5] 42)).heap.size = w.heap.size + 5 := by rw [World.size_alloc, hz4]
  generalize W4.alloc (.cells #[.slice A5 m5 c5] 42) = W5 at *
  clear hob5 hsl5 X5 HC4
  refine wpIn_rangeFunc_C rfl h1 (gf := 75) (lb := #[.pointer (some ⟨w.heap.size + 4, 0, none⟩)]) rfl trivial (enters_of Try.func75 (by kernel_rfl) rfl)
    (values_seq (n - 1) (by omega) w.heap.size W5 A5 m5 c5 (ps.map idF) hsl6 (w.heap.size + 4) hx5 hm5 (by omega) hob6) (fun h k => h.trans k) (fun W l o o' hl h hc hw => belowK_b (by omega) W l o o' hl h hc hw) (fun _ => rfl) (fun pre x X Y row h _ _ => h)
    (fun (pre : List Nat) W => Boxed W (w.heap.size + 3) 3 (.int .i64 (pre.length : Int)) ∧ Chg (One (w.heap.size + 3)) W5 W)
    (fun _ => False)
    ?own1
    (fun _ _ _ _ hs _ _ => hs.elim)
    ⟨G3, Chg.refl _ _⟩ ?frame ?assign ?body ?done ?stop
  case own1 =>
    rintro pre X Y row ⟨hb, hch⟩ hg hr
    exact ⟨boxed_kept hb hg hr, hch.grown hg (fun k e => .inl (hr k e).1)⟩
  case assign =>
    intro l x W K hK
    gi_wp2
    exact hK
  case stop =>
    rintro D W hD h hK
    exact h.elim
  case body =>
    rintro l pre x W ⟨b3, hch⟩ ⟨hpre, hx⟩
    have hpl : pre.length < ps.length := by
      have := (List.getElem?_eq_some_iff.1 hx).1
      simpa using this
    have hPL2 : Hid ((pre ++ [x]).length = pre.length + 1) := by rw [Hid, List.length_append]; rfl
    have hxe : x = idF ps[pre.length] := by
      have := (List.getElem?_eq_some_iff.1 hx).2
      rw [List.getElem_map] at this
      exact this.symm
    obtain ⟨⟨o, hdec⟩, hfi⟩ := okF_get HOK.out hpl
    rw [← hxe] at hfi
    have hlp := HLE.out _ (List.getElem_mem hpl)
    have hGD : ps.getD pre.length [] = ps[pre.length] := by rw [List.getD, List.getElem?_eq_getElem hpl]; rfl
    obtain ⟨bI, oI, rfl, hcI⟩ := HI.out.addr (by rw [List.length_map]; omega)
    obtain ⟨lb, lo, rfl, hget⟩ := HR.out.get (by omega)
    obtain ⟨A6, q6, c6, hcell6, hby6, HQ6⟩ := hget pre.length hpl
    have hcI0 := hcI pre.length (by rw [List.length_map]; exact hpl)
    rw [List.getElem_map, ← hxe] at hcI0
    unfold u64v at hcI0
    have hnn : pre.length < nR := by have := hPL.out; omega
    generalize hkk : pre.length = k at *
    clear hkk hcI hget hx hpre
    obtain ⟨P, hP⟩ : ∃ P, ps[k] = P := ⟨_, rfl⟩
    rw [hP] at hdec hlp hGD hby6 HQ6
    clear hxe
    have HCW : Hid (Chg No w W) := HC5.out.trans hch (fun i hi e => by have e : i = _ := e; omega)
    have HBW := Lib.hid HCW.out.below
    have hWs := hch.size
    have b0 : Boxed W w.heap.size 26 (.pointer (some ⟨s, 0, none⟩)) := hch.heap G0 (fun e => by have e : _ = _ := e; omega)
    have b1 := hch.heap G1 (fun e => by have e : _ = _ := e; omega)
    have b2 : Boxed W (w.heap.size + 2) 4 (.bool false) := hch.heap G2 (fun e => by have e : _ = _ := e; omega)
    have HB0 := Lib.hid b0
    have HB1 := Lib.hid b1
    have HB2 := Lib.hid b2
    have HB3 := Lib.hid b3
    have HCH := Lib.hid hch
    have HCI := Lib.hid hcI0
    have HC6 := Lib.hid hcell6
    have HBY6 := Lib.hid hby6
    have hki : (k : Int) < (nR : Int) := by omega
    have hk0 : (0 : Int) ≤ (k : Int) := by omega
    have hge : decide (nR ≤ k) = false := decide_eq_false (by omega)
    have hxx : ((x : Int) != (x : Int)) = false := by simp
    have c0 := b0.cell
    obtain ⟨e0, e1⟩ := cells2 b1
    have c3 := b3.cell
    have cI := HCW.out.cell hcI0 (fun x => x)
    have HSW := Lib.hid (HS.out W HBW.out)
    have HF := Lib.hid hfi
    have HD := Lib.hid hdec
    have HGDh := Lib.hid hGD
    have HBYT := Lib.hid (sbytes_calls W S base s mp j d m nw th ps HSW.out hen x)
    have HLP := Lib.hid hlp
    clear b0 b1 b2 b3 hch hcI0 hcell6 hby6 hfi hdec hGD hlp hP
    gi_wp2_with (refine ⟨trivial, (fun h => by cases h), ?_⟩; gi_at_call 13; refine (CallsIn.inRound l (callsIn_wide.2 HBYT.out)).mono ?_; rintro e w1 ⟨hr, hc1⟩; rw [BytesR, HF.out] at hr; obtain ⟨v1, rfl, ho1⟩ := hr; rw [HGDh.out] at ho1; obtain ⟨A1, n1, c1, rfl, HL1, HO1⟩ := ho1.form; have c0 := Boxed.cell (show Boxed w1 w.heap.size 26 (.pointer (some ⟨s, 0, none⟩)) from hc1.heap HB0.out (fun x => x)); have HC1 := Lib.hid hc1; clear ho1 hc1)
    have HSW1 := Lib.hid (HSW.out.no HC1.out)
    have HGT := Lib.hid (get_some w1 S base s mp j d m nw th ps HSW1.out hen x k HF.out (by rw [HGDh.out]; exact HLP.out) o (by rw [HGDh.out]; exact HD.out))
    refine ⟨trivial, (fun h => by cases h), ?_⟩
    refine (CallsIn.inRound l (callsIn_wide.2 HGT.out)).mono ?_
    rintro e w2 ⟨⟨vo, bo, rfl, hob, hbo⟩, hc2⟩
    have HOB := Lib.hid hob
    have hc2' := hc2
    have HC12 := Lib.hid (HC1.out.no hc2)
    have HCC2 := Lib.hid (HCW.out.no HC12.out)
    have HSW2 := Lib.hid (HSW1.out.no hc2)
    have k0 : ∀ y : Later w2, y.w.cell? ⟨w.heap.size, 0, none⟩ = some (.pointer (some ⟨s, 0, none⟩)) := fun y => Boxed.cell (show Boxed y.w w.heap.size 26 (.pointer (some ⟨s, 0, none⟩)) from (HC12.out.no y.h).heap HB0.out (fun x => x))
    have k1 : ∀ y : Later w2, y.w.cell? ⟨w.heap.size + 1, 1, none⟩ = some (.slice (some ⟨lb, lo, none⟩) nR cR) := fun y => (cells2 ((HC12.out.no y.h).heap HB1.out (fun x => x))).2
    have k3 : ∀ y : Later w2, y.w.cell? ⟨w.heap.size + 3, 0, none⟩ = some (.int .i64 (k : Int)) := fun y => Boxed.cell (show Boxed y.w (w.heap.size + 3) 3 (.int .i64 (k : Int)) from (HC12.out.no y.h).heap HB3.out (fun x => x))
    have kr : ∀ y : Later w2, y.w.cell? ⟨lb, lo + k, none⟩ = some (.slice A6 q6 c6) := fun y => (HCC2.out.no y.h).cell HC6.out (fun x => x)
    have t1 : ∀ y : Later w2, Sem.run Try.prog (convert 30 9 (.slice A1 n1 c1)) y.w = .ok (.string (mkS P)) y.w := fun y => ((HO1.out.bytes.no hc2).no y.h).text (P := Try.prog) (src := 30) (dst := 9) Try.underlying30 Try.underlying5 Try.underlying9
    have t2 : ∀ y : Later w2, Sem.run Try.prog (convert 30 9 (.slice A6 q6 c6)) y.w = .ok (.string (mkS P)) y.w := fun y => (HBY6.out.no (HCC2.out.no y.h)).text (P := Try.prog) (src := 30) (dst := 9) Try.underlying30 Try.underlying5 Try.underlying9
    have hbe : ((mkS P).toList != (mkS P).toList) = false := by simp
    have HHS : Hid (∀ y : Later w2, Calls Try.prog 20 #[.pointer (some ⟨s, 0, none⟩), .int .u64 (x : Int)] y.w fun e w' => e = .returned (.bool true) ∧ Chg No y.w w') := fun y => by
      obtain ⟨sv', hsc'⟩ := HSC.out y.w (HCC2.out.no y.h).below
      have h := shas_calls y.w base s mp j sv' _ hsc' x
      rw [HF.out] at h
      exact h.mono fun e w' ⟨a, b⟩ => ⟨a, b ▸ Chg.refl _ _⟩
    have HKD : Hid (∀ y : Later w2, Calls Try.prog 47 #[vo] y.w fun e w' => e = .returned (.int .i64 (obKind o : Int)) ∧ Chg No y.w w') := fun y => (kind_ob w2 bo vo o y.w HOB.out).mono fun e w' ⟨a, b⟩ => ⟨a, b ▸ Chg.refl _ _⟩
    have HKC : Hid (∀ y : Later w2, Calls Try.prog 46 #[.pointer (some ⟨s, 0, none⟩), .int .u64 (x : Int), .int .i64 (obKind o : Int)] y.w fun e w' => e = .returned (.bool true) ∧ Chg No y.w w') := fun y => kind_calls y.w S base s mp j d m nw th ps (HSW2.out.no y.h) hen x k HF.out (by rw [HGDh.out]; exact HLP.out) o (by rw [HGDh.out]; exact HD.out)
    generalize hOK : obKind o = ok at *
    clear hOK hob hc2 c0 e0 e1 c3 cI HGT HBYT
    gi_wp2
    refine wpIn_region_later_round l rfl (by kernel_rfl) (by kernel_rfl) (by kernel_rfl) ?_
    repeat (first
      | gi_big_quiet_skip
      | (gi_big_quiet_want; gi_big_quiet_op; go_big_quiet_on)
      | (refine wpQuietIn_step asked_wide (fun K hK => ?_); rw [if_pos (by rfl)]; gi_big_quiet_op; refine hK _ ?_; clear hK K)
      | (refine wpQuietIn_step asked_wide (fun K hK => ?_); rw [if_pos (by rfl)]; gi_big_quiet_op; apply Exists.intro; refine And.intro (fun y => And.intro (fun h => by cases h) ?_) ?_; (first | exact callsLater y (HHS.out y) | exact callsLater y (HKD.out y) | exact callsLater y (HKC.out y)); refine hK _ ?_; clear hK K))
    refine wpQuietIn_nil ?_
    rintro ⟨w3, hc3⟩
    have HC13 := Lib.hid (HC12.out.no hc3)
    have HO3 := Lib.hid ((HO1.out.bytes.no hc2').no hc3)
    have HEN := Lib.hid ((encodes_ob w2 bo vo o HOB.out (dec_sound HD.out).2.1 (dec_sound HD.out).2.2).no hc3 _ (Chg.refl _ _))
    rw [(dec_sound HD.out).1] at HEN
    clear k0 k1 k3 kr t1 t2 HHS HKD HKC
    dsimp only
    gi_wp2_with (refine ⟨trivial, (fun h => by cases h), ?_⟩; gi_at_call 36; refine (CallsIn.inRound l (callsIn_wide.2 HEN.out)).mono ?_; rintro e w4 ⟨v4, rfl, ho4, hc4⟩; obtain ⟨A4, n4, c4, rfl, HL4, HO4⟩ := ho4.form; have t1 := HO4.out.bytes.text (P := Try.prog) (src := 30) (dst := 9) Try.underlying30 Try.underlying5 Try.underlying9; have t2 := (HO3.out.no hc4).text (P := Try.prog) (src := 30) (dst := 9) Try.underlying30 Try.underlying5 Try.underlying9; have HC14 := Lib.hid (HC13.out.no hc4); have b3 : Boxed w4 (w.heap.size + 3) 3 (.int .i64 (k : Int)) := HC14.out.heap HB3.out (fun x => x); have c3 := b3.cell; have f3 := b3.frozen; clear ho4 hc4)
    have hcd0 : Chg (One (w.heap.size + 3)) W w4 := HC14.out.mono (fun i _ x => x.elim)
    have hcd : Chg (One (w.heap.size + 3)) W (w4.setCell ⟨w.heap.size + 3, 0, none⟩ (.int .i64 ((k : Int) + 1))) := hcd0.setCell (p := ⟨w.heap.size + 3, 0, none⟩) (.inr rfl) _
    have hbl : Below w.heap.size W (w4.setCell ⟨w.heap.size + 3, 0, none⟩ (.int .i64 ((k : Int) + 1))) := ⟨hcd.os, hcd.tape, hcd.output, hcd.size, fun q hq => hcd.block q (by omega) (fun e => by have e : q = _ := e; omega)⟩
    refine ⟨((HC14.out.keepsO).trans (KeepsOthers.setCell _ _ _)).from _, hbl, ?_, HCH.out.trans hcd (fun i _ x => x)⟩
    rw [hPL2.out]
    exact b3.set _
  case done =>
    rintro D xs W hD rfl ⟨b3, hch⟩ hK
    have b1 := hch.heap G1 (fun e => by have e : _ = _ := e; omega)
    have b2 : Boxed W (w.heap.size + 2) 4 (.bool false) := hch.heap G2 (fun e => by have e : _ = _ := e; omega)
    have HCW : Hid (Chg No w W) := HC5.out.trans hch (fun i hi e => by have e : i = _ := e; omega)
    rw [List.length_map, hPL.out] at b3
    have hWs := hch.size
    have c3 := b3.cell
    obtain ⟨e0, e1⟩ := cells2 b1
    have c2 := b2.cell
    have f2 := b2.frozen
    have HB2 := Lib.hid b2
    have hnn : ((nR : Int) == (nR : Int)) = true := beq_self_eq_true _
    have HKD := Lib.hid hK
    clear b1 b2 b3 hch hK
    gi_wp2
    have E2 := (show Boxed W (w.heap.size + 2) 4 (.bool false) from HB2.out).set (.bool true)
    have hK' := (KeepsOthers.setCell W ⟨w.heap.size + 2, 0, none⟩ (.bool true)).same D _ HKD.out rfl
    have d2 := cell_kept E2.cell (grownBy_putObj' _ D (.deferred none)) (fun r e => by cases e; exact ⟨_, hK', rfl⟩)
    refine ⟨by simp, .inl ⟨_, _, rfl, run_takeDeferred hK', ?_⟩⟩
    refine ⟨.bool true, ?_, rfl, ((HCW.out.below).setCell (p := ⟨w.heap.size + 2, 0, none⟩) (by show w.heap.size ≤ w.heap.size + 2; omega) _).trans (belowK_b (w := w) (Nat.le_refl _) _ D _ _ (by omega) hK' rfl rfl)⟩
    simp [results, Try.f28, go_sem, d2]
theorem holds7_calls (w : World) (S : Nat → Prop) (base s mp j d m nw : Nat) (th : Bool) (ps : List (List UInt8)) (h : SD w S base s mp j d m nw th ps) (hok : okF [] ps = true) (hen : (encF ps).length ≤ 4194304) (hfew : ps.length ≤ 1000) (hlen : ∀ p ∈ ps, p.length ≤ 1000000) (v : Value) (hv : MV w v (ps.map idF) ps) :
    Calls Try.prog 28 #[.pointer (some ⟨s, 0, none⟩), v] w fun e W' => e = .returned (.bool true) ∧ Chg No w W' :=
  (callsIn_wide.1 (holds7_core 3 (Nat.le_refl _) w S base s mp j d m nw th ps h hok hen hfew hlen v hv)).mono fun e w' ⟨a, b⟩ => ⟨a, Chg.ofBelow b⟩
end Go.Proofs.Ytccphnkdnifpfaa

