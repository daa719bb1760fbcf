/-
  Appends of bytes in one law; the reference's CheckTree and Tree.
-/
import Derived.Test.YtkmnkbmmgopldaaTy
import Derived.Test.YtkmnkbmmgopldaaSy
import Derived.Test.YtkmnkbmmgopldaaRef1b
import Derived.BigQuiet
namespace Go.Proofs.Ytkmnkbmmgopldaa
open Go.RowKit
set_option linter.unusedVariables false
set_option linter.unusedSimpArgs false
set_option maxRecDepth 100000

/-- append of bytes onto a row of one's own: the new row; what lay below the row's base is as it was; boxes of other types are. -/
theorem wpList_appB {ops : Array Oper} {rest : List Oper} {o : Oper} {a : Act} {Q : Exit → Act → World → Prop} {w : World} (hgd : o.guard = none) (s x : Operand)
    (ho : o.op = .call { callee := .builtin .append, args := #[s, x], argTypes := #[38, 38] })
    (base : Nat) (A : Option Addr) (n c : Nat) (ys : List UInt8) (A' : Option Addr) (n' c' : Nat) (zs : List UInt8) (hs : a.eval s = .slice A n c) (hx : a.eval x = .slice A' n' c')
    (hO : OwnB w base (.slice A n c) ys) (hl : ys.length = n) (hZ : Bytes w (.slice A' n' c') zs) (hl' : zs.length = n') (hb : n + n' ≤ 1000000) (hbase : base ≤ w.heap.size)
    (h : ∀ A2 c2 w', OwnB w' base (.slice A2 (n + n') c2) (ys ++ zs) → (ys ++ zs).length = n + n' → (∀ W0 : World, W0.heap.size ≤ base → Chg No W0 w → Chg No W0 w') → (∀ (g : Nat) (cs : Array Value) (t : TypeId), w.heap[g]? = some (Obj.cells cs t (0, 0)) → t ≠ 5 → w'.heap[g]? = some (Obj.cells cs t (0, 0))) → w.heap.size ≤ w'.heap.size → wpList Try.prog ops Q rest (a.put o.dst (.slice A2 (n + n') c2)) w') : wpList Try.prog ops Q (o :: rest) a w := by
  refine wpList_app2 hgd s x 38 38 ho base 5 (.int .u8 0) 1 1 infoU8 Try.underlying38 rfl (by decide) (.slice A n c) (.slice A' n' c') n n' (u8s ys) (u8s zs) hs hx (OwnB.n hO hl) (Src.ofBytes Try.underlying38 hZ hl') (by omega) (by unfold maxLen; omega) hbase ?_
  intro v' w' hown hg hfrom
  obtain ⟨A2, c2, rfl⟩ := ownsRow_form hown
  have hlen : (ys ++ zs).length = n + n' := by rw [List.length_append, hl, hl']
  refine h A2 c2 w' ?_ hlen (fun W0 h0 hc => hc.grown hg (fun q hq => .inl (Nat.le_trans h0 (World.ownsRow.lt hO q hq).1))) (fun g cs t hh ht => app_keep hO hg hh ht) (Chg.ofGrown (S := fun k => (Value.slice A n c).ownBlock = some k) hg (fun k hk => hk)).size
  have := OwnB.of (xs := ys ++ zs) hown (by rw [u8s_append])
  exact this
theorem leS_nil (s : ByteArray) (h : (spotF s.data.toList).1 = 0) : leS s ⟨#[]⟩ = false := by
  have hne : s.data.toList ≠ [] := by
    intro h0
    rw [spotF, if_pos (.inl h0)] at h
    cases h
  have h2 : s.toList ≠ [] := by rw [Lib.toList_data]; exact hne
  unfold leS
  rw [show (⟨#[]⟩ : ByteArray).toList = [] by rw [Lib.toList_data]]
  generalize s.toList = l at *
  cases l with
  | nil => exact absurd rfl h2
  | cons a t => rfl
def prevN (xs : List Ent) : Nat → ByteArray
  | 0 => ⟨#[]⟩
  | k + 1 => (xs.getD k (⟨#[]⟩, false, 0)).1
set_option maxHeartbeats 3200000 in
theorem refcheck_tree (w : World) (A : Option Addr) (n c : Nat) (xs : List Ent) (h : Es w (.slice A n c) xs) (hx : ∀ x ∈ xs, x.1.size ≤ 9223372036854775807) (hnm : n ≤ 9223372036854775807) :
    Calls Try.prog 63 #[.slice A n c] w fun e w' => e = .returned (.int .i64 (treeF xs)) ∧ Chg No w w' := by
  have HL := Lib.hid h.len
  have H := Lib.hid h
  have HX := Lib.hid hx
  clear h hx
  by_cases h256 : 256 < n
  · have HF : Hid (treeF xs = 3) := by rw [Hid, treeF, if_pos (by rw [HL.out]; exact h256)]
    have b0 : (256 : Int) < (n : Int) := by omega
    go_enter Try.func63, Try.ntmps63
    go_wp2
    go_ret
    exact ⟨by rw [HF.out]; rfl, Chg.refl _ _⟩
  · have HF : Hid (treeF xs = treeG ⟨#[]⟩ xs) := by rw [Hid, treeF, if_neg (by rw [HL.out]; exact h256)]
    have b0 : ¬ (256 : Int) < (n : Int) := by omega
    go_enter Try.func63, Try.ntmps63
    go_wp2
    go_loopw [11] (fun i wr => ∃ k : Nat, k ≤ n ∧ i = .int .i64 (k : Int) ∧ Hid (treeF xs = treeG (prevN xs k) (xs.drop k)) ∧ Hid (Chg No w wr)) (fun i _ => n - (intOf i).toNat)
    case atStart => exact ⟨0, Nat.zero_le _, rfl, HF.out, Chg.refl _ _⟩
    case round =>
      obtain ⟨k, hk, rfl, HU, HC⟩ := hrel
      by_cases hlt : k < n
      · have hkl : k < xs.length := by rw [HL.out]; exact hlt
        obtain ⟨b, o, rfl, hcell⟩ := (H.out.no HC.out).addr (by rw [HL.out]; omega)
        obtain ⟨c0, c1, c2⟩ := hcell k hkl
        have HD : Hid (xs.drop k = xs[k] :: xs.drop (k + 1)) := by rw [Hid]; exact List.drop_eq_getElem_cons hkl
        have HPN : Hid (prevN xs (k + 1) = xs[k].1) := by simp [Hid, prevN, List.getD, hkl]
        have HPK : Hid (0 < k → wr.cell? ⟨b, o + (k - 1) * 3, none⟩ = some (.string (prevN xs k))) := by
          intro hk0
          obtain ⟨j, rfl⟩ : ∃ j, k = j + 1 := ⟨k - 1, by omega⟩
          have := (hcell j (by omega)).1
          have e : prevN xs (j + 1) = (xs[j]'(by omega)).1 := by simp [prevN, List.getD, show j < xs.length by omega]
          rw [e]
          exact this
        have hsz := HX.out _ (List.getElem_mem hkl)
        generalize xs[k] = x at *
        obtain ⟨s, f, id⟩ := x
        simp only at c0 c1 c2 hsz HPN
        have HY0 : Hid (k = 0 → prevN xs k = ⟨#[]⟩) := fun h => by subst h; rfl
        generalize prevN xs k = y at *
        have HU2 : Hid (treeF xs = if (spotF s.data.toList).1 ≠ 0 then (spotF s.data.toList).1 else if leS s y = true then 161 else if id = 0 then 2 else treeG s (xs.drop (k + 1))) := by rw [Hid, HU.out, HD.out]; rfl
        have hcc := fun w1 => refspot_calls w1 s hsz
        have HNL := Lib.hid (leS_nil s)
        have HLE : Hid (leS s y = (Op.bytesLess s.toList y.toList || s.toList == y.toList)) := rfl
        generalize spotF s.data.toList = sp at *
        obtain ⟨e0, at0⟩ := sp
        simp only [spotV] at hcc HU2 HNL
        have HCC := Lib.hid hcc
        clear hcc hcell HU HD hkl
        have hE := heap_alloc_new wr (.cells #[.string s, .bool f, .int .u64 (id : Int)] 35)
        go_wp2_with fail
        refine (HCC.out _).mono ?_
        rintro e w1 ⟨rfl, hc1⟩
        have hd1 := hc1.heap hE (fun x => x)
        have hd := ((Chg.refl No w1).alloc (.cells #[.int .i64 e0, .int .i64 at0] 111)).heap hd1 (fun x => x)
        have d0 := cellAt hd 0 (.string s) rfl
        have d2 := cellAt hd 2 (.int .u64 (id : Int)) rfl
        have hp1 := hc1
        have HC1 : Hid (Chg No w (w1.alloc (.cells #[.int .i64 e0, .int .i64 at0] 111))) := ((HC.out.alloc _).no hc1).alloc _
        have HPP : Hid (0 < k → (w1.alloc (.cells #[.int .i64 e0, .int .i64 at0] 111)).cell? ⟨b, o + (k - 1) * 3, none⟩ = some (.string y)) := fun h0 => ((((Chg.refl No wr).alloc (.cells #[.string s, .bool f, .int .u64 (id : Int)] 35)).no hc1).alloc _).cell (HPK.out h0) (fun x => x)
        have hs2 := heap_alloc_new w1 (.cells #[.int .i64 e0, .int .i64 at0] 111)
        have s0 := cellAt hs2 0 _ rfl
        clear hd hd1 hE c0 c1 c2 HC HPK hc1 hp1 hs2
        by_cases he : e0 = 0
        · subst he
          have hz0 : ((0 : Int) != 0) = false := rfl
          by_cases hk0 : k = 0
          · subst hk0
            have hy := HY0.out rfl
            subst hy
            have HN := HNL.out rfl
            have HNN := Lib.hid HN
            clear HN HNL HY0 HPP HLE
            by_cases hid0 : id = 0
            · subst hid0
              have HV : Hid (treeF xs = 2) := by rw [Hid, HU2.out, if_neg (by simp), if_neg (by rw [HNN.out]; simp), if_pos rfl]
              go_wp2
              go_quiet (fail)
              go_wp2
              go_ret
              exact ⟨by rw [HV.out]; rfl, by first | exact HC1.out | exact HC1.out.drewN _⟩
            · have hib : ((id : Int) == 0) = false := by simp; omega
              have HV : Hid (treeF xs = treeG s (xs.drop (0 + 1))) := by rw [Hid, HU2.out, if_neg (by simp), if_neg (by rw [HNN.out]; simp), if_neg hid0]
              clear hid0
              go_wp2
              go_quiet (fail)
              go_wp2
              go_roundw
              case rel => exact ⟨0 + 1, by omega, by simp, by rw [Hid, HPN.out, HV.out], by first | exact HC1.out | exact HC1.out.drewN _⟩
              case measure => simp [intOf]; omega
          · have hk1 : (0 : Int) < (k : Int) := by omega
            obtain ⟨j, rfl⟩ : ∃ j, k = j + 1 := ⟨k - 1, by omega⟩
            have pc := HPP.out (by omega)
            rw [Nat.add_sub_cancel] at pc
            have hij : ((j + 1 : Nat) : Int) - 1 = (j : Int) := by omega
            have hjb : (j : Int) < (n : Int) := by omega
            have hjb2 : ((j + 1 : Nat) : Int) - 1 < (n : Int) := by omega
            clear HPP HNL HY0 hk0
            generalize hle : (Op.bytesLess s.toList y.toList || s.toList == y.toList) = le at *
            cases le with
            | true =>
              have HV : Hid (treeF xs = 161) := by rw [Hid, HU2.out, if_neg (by simp), if_pos HLE.out]
              go_wp2
              go_quiet (fail)
              go_wp2
              go_ret
              exact ⟨by rw [HV.out]; rfl, by first | exact HC1.out | exact HC1.out.drewN _⟩
            | false =>
              by_cases hid0 : id = 0
              · subst hid0
                have HV : Hid (treeF xs = 2) := by rw [Hid, HU2.out, if_neg (by simp), if_neg (by rw [HLE.out]; simp), if_pos rfl]
                go_wp2
                go_quiet (fail)
                go_wp2
                go_ret
                exact ⟨by rw [HV.out]; rfl, by first | exact HC1.out | exact HC1.out.drewN _⟩
              · have hib : ((id : Int) == 0) = false := by simp; omega
                have HV : Hid (treeF xs = treeG s (xs.drop (j + 1 + 1))) := by rw [Hid, HU2.out, if_neg (by simp), if_neg (by rw [HLE.out]; simp), if_neg hid0]
                clear hid0
                go_wp2
                go_quiet (fail)
                go_wp2
                go_roundw
                case rel => exact ⟨j + 1 + 1, by omega, by simp, by rw [Hid, HPN.out, HV.out], by first | exact HC1.out | exact HC1.out.drewN _⟩
                case measure => simp [intOf]; omega
        · have HV : Hid (treeF xs = e0) := by rw [Hid, HU2.out, if_pos he]
          have heb : (e0 != 0) = true := by simpa using he
          clear HPP HY0 HNL
          go_wp2
          go_ret
          exact ⟨by rw [HV.out]; rfl, by first | exact HC1.out | exact HC1.out.drewN _⟩
      · have hkn : k = n := by omega
        subst hkn
        have HV : Hid (treeF xs = 0) := by
          rw [Hid, HU.out, List.drop_of_length_le (by rw [HL.out]; exact Nat.le_refl _)]
          rfl
        go_wp2
        go_ret
        exact ⟨by rw [HV.out]; rfl, HC.out⟩


set_option maxHeartbeats 6400000 in
theorem reftree_ok (w : World) (A : Option Addr) (n c : Nat) (xs : List Ent) (h : Es w (.slice A n c) xs) (hb0 : ∀ x ∈ xs, x.1.size ≤ maxLen ∧ x.2.2 < 18446744073709551616) (hF : treeF xs = 0) :
    Calls Try.prog 38 #[.slice A n c] w fun e w' => ∃ A' n' c', e = .returned (.tuple #[.slice A' n' c', .int .i64 0]) ∧ Bytes w' (.slice A' n' c') (treeB xs) ∧ (treeB xs).length = n' ∧ Chg No w w' := by
  have mx : maxLen ≤ 9223372036854775807 := by unfold maxLen; omega
  have hn256 : n ≤ 256 := by have := (treeF_zero hF).1; have := h.len; omega
  have HCK : Hid (Calls Try.prog 63 #[.slice A n c] w fun e w' => e = .returned (.int .i64 0) ∧ Chg No w w') := by
    have := refcheck_tree w A n c xs h (fun x hx => Nat.le_trans (hb0 x hx).1 mx) (by omega)
    rwa [hF] at this
  have hb : ∀ x ∈ xs, x.1.size ≤ 32 := fun x hx => ((treeF_zero hF).2 x hx).1
  have HI : Hid (∀ x ∈ xs, x.2.2 < 18446744073709551616) := fun x hx => (hb0 x hx).2
  have HL := Lib.hid h.len
  have H := Lib.hid h
  clear hb0
  have HLE := Lib.hid (show ∀ k ≤ n, ([116] ++ leb n ++ (xs.take k).flatMap entB).length ≤ 20000 from fun k hk => by
    have h1 := leb_len10 n (by omega)
    have h2 := entsB_len (xs.take k) (fun x hx => (hb x (List.mem_of_mem_take hx)))
    have h3 : (xs.take k).length ≤ k := by rw [List.length_take]; omega
    simp only [List.length_append, List.length_singleton]
    omega)
  have HNM := Lib.hid hb
  clear hb hF h
  go_enter Try.func38, Try.ntmps38
  go_wp2_with fail
  refine HCK.out.mono ?_
  rintro e w1 ⟨rfl, hc1⟩
  have HC1 := Lib.hid hc1
  clear hc1 HCK
  have hcv : IntKind.u64.wrap (n : Int) = (n : Int) := by rw [IntKind.wrap_u64]; omega
  go_wp2_with fail
  refine (refuint_calls w1 n (n : Int) rfl (by omega)).mono ?_
  rintro e w2 ⟨v2, rfl, ho2, hc2⟩
  obtain ⟨A2, n2, c2, rfl, HL2, HO2⟩ := ho2.form
  have HC2 := Lib.hid (HC1.out.no hc2)
  have hn2 : n2 ≤ 10 := by have := HL2.out; have := leb_len10 n (by omega); omega
  have hw2 : w.heap.size ≤ w2.heap.size := HC2.out.size
  clear ho2 hc2 HC1
  have own3 : Hid (OwnB (w2.alloc (.cells (u8s [116]).toArray 5)) w.heap.size (.slice (some ⟨w2.heap.size, 0, none⟩) 1 1) [116]) := OwnB.mono (OwnB.lit w2 [116] (by unfold maxLen; decide)) hw2
  have src3 : Hid (Bytes (w2.alloc (.cells (u8s [116]).toArray 5)) (.slice A2 n2 c2) (leb n)) := HO2.out.bytes.no ((Chg.refl No w2).alloc _)
  go_wp2_with (at_builtin; (refine wpList_appB rfl (.tmp 18) (.tmp 19) rfl w.heap.size (some ⟨w2.heap.size, 0, none⟩) 1 1 [116] A2 n2 c2 (leb n) rfl rfl ?own1 ?len1 ?src1 ?len2 ?bnd1 ?bas1 ?_; (case own1 => exact own3.out); (case len1 => exact rfl); (case src1 => exact src3.out); (case len2 => exact HL2.out); (case bnd1 => omega); (case bas1 => (simp only [World.size_alloc]; omega)); intro A4 c4 w4 hO4 hl4 hC4 hB4 hs4; refine Hid.out ?_))
  refine Lib.hid ?_
  have HC4 : Hid (Chg No w w4) := hC4 w (Nat.le_refl _) (HC2.out.alloc _)
  have HO4 : Hid (OwnB w4 w.heap.size (.slice A4 (1 + n2) c4) ([116] ++ leb n ++ (xs.take 0).flatMap entB)) := by rw [Hid]; simpa using hO4
  have HL4 : Hid (([116] ++ leb n ++ (xs.take 0).flatMap entB).length = 1 + n2) := by rw [Hid]; simpa using hl4
  clear hO4 hl4 hC4 hB4 own3 src3 HO2 HL2
  have hs4' : w.heap.size ≤ w4.heap.size := HC4.out.size
  clear hs4
  generalize 1 + n2 = m4 at *
  go_wp2
  go_loopw [5, 23] (fun l i wr => ∃ (k m : Nat) (A5 : Option Addr) (c5 : Nat), k ≤ n ∧ i = .int .i64 (k : Int) ∧ l = .slice A5 m c5 ∧ Hid (OwnB wr w.heap.size (.slice A5 m c5) ([116] ++ leb n ++ (xs.take k).flatMap entB)) ∧ Hid (([116] ++ leb n ++ (xs.take k).flatMap entB).length = m) ∧ Hid (Chg No w wr)) (fun _ i _ => n - (intOf i).toNat)
  case atStart => exact ⟨0, _, _, _, Nat.zero_le _, rfl, rfl, HO4.out, HL4.out, HC4.out⟩
  case round =>
    obtain ⟨k, m, A5, c5, hk, rfl, rfl, HO, HM, HC⟩ := hrel
    by_cases hlt : k < n
    · have hkl : k < xs.length := by rw [HL.out]; exact hlt
      obtain ⟨b, o, rfl, hcell⟩ := (H.out.no HC.out).addr (by rw [HL.out]; omega)
      obtain ⟨c0, c1, c2'⟩ := hcell k hkl
      have HT : Hid (xs.take (k + 1) = xs.take k ++ [xs[k]]) := by rw [Hid, List.take_succ_eq_append_getElem]
      have hsz := HNM.out _ (List.getElem_mem hkl)
      have hidl := HI.out _ (List.getElem_mem hkl)
      have hm := HLE.out k (by omega)
      rw [HM.out] at hm
      generalize xs[k] = x at *
      obtain ⟨s, f, id⟩ := x
      simp only at c0 c1 c2' hsz hidl
      generalize hys : [116] ++ leb n ++ (xs.take k).flatMap entB = ys at *
      have HYS := Lib.hid hys
      have HNX : Hid ([116] ++ leb n ++ (xs.take (k + 1)).flatMap entB = ys ++ (leb s.size ++ s.data.toList) ++ [if f = true then 1 else 0] ++ wide id) := by
        rw [Hid, HT.out, List.flatMap_append, ← List.append_assoc, HYS.out]
        simp [entB]
      clear hys hcell HT hkl HO4 HL4 HC4
      have hE := heap_alloc_new wr (.cells #[.string s, .bool f, .int .u64 (id : Int)] 35)
      have HE := Lib.hid hE
      have hwr : w.heap.size ≤ wr.heap.size := HC.out.size
      have HCe : Hid (Chg No w (wr.alloc (.cells #[.string s, .bool f, .int .u64 (id : Int)] 35))) := HC.out.alloc _
      have HOe : Hid (OwnB (wr.alloc (.cells #[.string s, .bool f, .int .u64 (id : Int)] 35)) w.heap.size (.slice A5 m c5) ys) := HO.out.alloc _
      go_wp2_with fail
      refine (reftext_calls _ s (by omega)).mono ?_
      rintro e w5 ⟨v5, rfl, ho5, hc5⟩
      obtain ⟨A6, n6, c6, rfl, HL6, HO6⟩ := ho5.form
      have HE5 := Lib.hid (hc5.heap HE.out (fun x => x))
      have HC5 := Lib.hid (HCe.out.no hc5)
      have HOf := Lib.hid (HOe.out.chg hc5 (fun _ _ x => x))
      have hn6 : n6 ≤ 50 := by have h1 := HL6.out; have h2 := leb_len10 s.size (by omega); rw [List.length_append, size_list] at h1; omega
      have hw5 : w.heap.size ≤ w5.heap.size := HC5.out.size
      clear ho5 hc5 hE c0 c1 c2' HC HO HCe HOe HE
      have e1 := cellAt HE5.out 1 _ rfl
      go_wp2_with (at_builtin; (refine wpList_appB rfl (.tmp 27) (.tmp 30) rfl w.heap.size A5 m c5 ys A6 n6 c6 (leb s.size ++ s.data.toList) rfl rfl ?own1 ?len1 ?src1 ?len2 ?bnd1 ?bas1 ?_; (case own1 => exact HOf.out); (case len1 => exact HM.out); (case src1 => exact HO6.out.bytes); (case len2 => exact HL6.out); (case bnd1 => omega); (case bas1 => omega); intro A7 c7 w7 hO7 hl7 hC7 hB7 hs7; refine Hid.out ?_))
      refine Lib.hid ?_
      have HC7 : Hid (Chg No w w7) := hC7 w (Nat.le_refl _) HC5.out
      have HO7 := Lib.hid hO7
      have HM7 := Lib.hid hl7
      have HE7 := Lib.hid (hB7 _ _ _ HE5.out (by decide))
      clear hO7 hl7 hC7 hB7 hs7 HOf HO6 HL6 HC5 HE5 e1 hw5
      generalize ys ++ (leb s.size ++ s.data.toList) = y7 at *
      have hm7 : m + n6 ≤ 20050 := by omega
      generalize m + n6 = m7 at *
      have hw7 : w.heap.size ≤ w7.heap.size := HC7.out.size
      have e1 := cellAt HE7.out 1 _ rfl
      have e2 := cellAt HE7.out 2 _ rfl
      cases f with
      | true =>
        have own8 : Hid (OwnB (w7.alloc (.cells #[.int .u8 1] 5)) w.heap.size (.slice A7 m7 c7) y7) := HO7.out.alloc _
        have src8 : Hid (Bytes (w7.alloc (.cells #[.int .u8 1] 5)) (.slice (some ⟨w7.heap.size, 0, none⟩) 1 1) [1]) := (OwnB.lit w7 [1] (by unfold maxLen; decide)).bytes
        have HE8' := Lib.hid (((Chg.refl No w7).alloc (.cells #[.int .u8 1] 5)).heap HE7.out (fun x => x))
        go_wp2_with (at_builtin; (refine wpList_appB rfl (.tmp 34) (.tmp 36) rfl w.heap.size A7 m7 c7 y7 (some ⟨w7.heap.size, 0, none⟩) 1 1 [1] rfl rfl ?own1 ?len1 ?src1 ?len2 ?bnd1 ?bas1 ?_; (case own1 => exact own8.out); (case len1 => exact HM7.out); (case src1 => exact src8.out); (case len2 => exact rfl); (case bnd1 => omega); (case bas1 => (simp only [World.size_alloc]; omega)); intro A8 c8 w8 hO8 hl8 hC8 hB8 hs8; refine Hid.out ?_))
        refine Lib.hid ?_
        have HC8 : Hid (Chg No w w8) := hC8 w (Nat.le_refl _) (HC7.out.alloc _)
        have HO8 := Lib.hid hO8
        have HM8 := Lib.hid hl8
        have HE8 := Lib.hid (hB8 _ _ _ HE8'.out (by decide))
        clear hO8 hl8 hC8 hB8 hs8 own8 src8 HE8' HO7 HM7 HE7 HC7 e1 e2 hw7
        generalize hy8 : y7 ++ [1] = y8 at *
        have HY8 := Lib.hid hy8
        clear hy8
        have hm8 : m7 + 1 ≤ 20051 := by omega
        generalize m7 + 1 = m8 at *
        have hw8 : w.heap.size ≤ w8.heap.size := HC8.out.size
        have e2 := cellAt HE8.out 2 _ rfl
        go_wp2_with fail
        refine (refword_calls w8 id (id : Int) rfl (by omega)).mono ?_
        rintro e w9 ⟨v9, rfl, ho9, hc9⟩
        obtain ⟨A10, n10, c10, rfl, HL10, HO10⟩ := ho9.form
        have hn10 : n10 = 8 := by have := HL10.out; rw [wide_len] at this; omega
        subst hn10
        have HC9 := Lib.hid (HC8.out.no hc9)
        have HO9 := Lib.hid (HO8.out.chg hc9 (fun _ _ x => x))
        have hw9 : w.heap.size ≤ w9.heap.size := HC9.out.size
        clear ho9 hc9 e2 HE8 HC8 HO8 hw8
        go_wp2_with (at_builtin; (refine wpList_appB rfl (.tmp 38) (.tmp 41) rfl w.heap.size A8 m8 c8 y8 A10 8 c10 (wide id) rfl rfl ?own1 ?len1 ?src1 ?len2 ?bnd1 ?bas1 ?_; (case own1 => exact HO9.out); (case len1 => exact HM8.out); (case src1 => exact HO10.out.bytes); (case len2 => exact HL10.out); (case bnd1 => omega); (case bas1 => omega); intro A11 c11 w11 hO11 hl11 hC11 hB11 hs11; refine Hid.out ?_))
        refine Lib.hid ?_
        have HC11 : Hid (Chg No w w11) := hC11 w (Nat.le_refl _) HC9.out
        have HO11 := Lib.hid hO11
        have HM11 := Lib.hid hl11
        clear hO11 hl11 hC11 hB11 hs11 HO9 HO10 HL10
        have HNX2 : Hid ([116] ++ leb n ++ (xs.take (k + 1)).flatMap entB = y8 ++ wide id) := by rw [Hid, HNX.out, ← HY8.out]; rfl
        go_wp2
        go_roundw
        case rel => exact ⟨k + 1, _, _, _, by omega, by simp, rfl, by rw [HNX2.out]; exact HO11.out, by rw [HNX2.out]; exact HM11.out, HC11.out⟩
        case measure => simp [intOf]; omega
      | false =>
        have own8 : Hid (OwnB (w7.alloc (.cells #[.int .u8 0] 5)) w.heap.size (.slice A7 m7 c7) y7) := HO7.out.alloc _
        have src8 : Hid (Bytes (w7.alloc (.cells #[.int .u8 0] 5)) (.slice (some ⟨w7.heap.size, 0, none⟩) 1 1) [0]) := (OwnB.lit w7 [0] (by unfold maxLen; decide)).bytes
        have HE8' := Lib.hid (((Chg.refl No w7).alloc (.cells #[.int .u8 0] 5)).heap HE7.out (fun x => x))
        go_wp2_with (at_builtin; (refine wpList_appB rfl (.tmp 34) (.tmp 36) rfl w.heap.size A7 m7 c7 y7 (some ⟨w7.heap.size, 0, none⟩) 1 1 [0] rfl rfl ?own1 ?len1 ?src1 ?len2 ?bnd1 ?bas1 ?_; (case own1 => exact own8.out); (case len1 => exact HM7.out); (case src1 => exact src8.out); (case len2 => exact rfl); (case bnd1 => omega); (case bas1 => (simp only [World.size_alloc]; omega)); intro A8 c8 w8 hO8 hl8 hC8 hB8 hs8; refine Hid.out ?_))
        refine Lib.hid ?_
        have HC8 : Hid (Chg No w w8) := hC8 w (Nat.le_refl _) (HC7.out.alloc _)
        have HO8 := Lib.hid hO8
        have HM8 := Lib.hid hl8
        have HE8 := Lib.hid (hB8 _ _ _ HE8'.out (by decide))
        clear hO8 hl8 hC8 hB8 hs8 own8 src8 HE8' HO7 HM7 HE7 HC7 e1 e2 hw7
        generalize hy8 : y7 ++ [0] = y8 at *
        have HY8 := Lib.hid hy8
        clear hy8
        have hm8 : m7 + 1 ≤ 20051 := by omega
        generalize m7 + 1 = m8 at *
        have hw8 : w.heap.size ≤ w8.heap.size := HC8.out.size
        have e2 := cellAt HE8.out 2 _ rfl
        go_wp2_with fail
        refine (refword_calls w8 id (id : Int) rfl (by omega)).mono ?_
        rintro e w9 ⟨v9, rfl, ho9, hc9⟩
        obtain ⟨A10, n10, c10, rfl, HL10, HO10⟩ := ho9.form
        have hn10 : n10 = 8 := by have := HL10.out; rw [wide_len] at this; omega
        subst hn10
        have HC9 := Lib.hid (HC8.out.no hc9)
        have HO9 := Lib.hid (HO8.out.chg hc9 (fun _ _ x => x))
        have hw9 : w.heap.size ≤ w9.heap.size := HC9.out.size
        clear ho9 hc9 e2 HE8 HC8 HO8 hw8
        go_wp2_with (at_builtin; (refine wpList_appB rfl (.tmp 38) (.tmp 41) rfl w.heap.size A8 m8 c8 y8 A10 8 c10 (wide id) rfl rfl ?own1 ?len1 ?src1 ?len2 ?bnd1 ?bas1 ?_; (case own1 => exact HO9.out); (case len1 => exact HM8.out); (case src1 => exact HO10.out.bytes); (case len2 => exact HL10.out); (case bnd1 => omega); (case bas1 => omega); intro A11 c11 w11 hO11 hl11 hC11 hB11 hs11; refine Hid.out ?_))
        refine Lib.hid ?_
        have HC11 : Hid (Chg No w w11) := hC11 w (Nat.le_refl _) HC9.out
        have HO11 := Lib.hid hO11
        have HM11 := Lib.hid hl11
        clear hO11 hl11 hC11 hB11 hs11 HO9 HO10 HL10
        have HNX2 : Hid ([116] ++ leb n ++ (xs.take (k + 1)).flatMap entB = y8 ++ wide id) := by rw [Hid, HNX.out, ← HY8.out]; rfl
        go_wp2
        go_roundw
        case rel => exact ⟨k + 1, _, _, _, by omega, by simp, rfl, by rw [HNX2.out]; exact HO11.out, by rw [HNX2.out]; exact HM11.out, HC11.out⟩
        case measure => simp [intOf]; omega
    · have hkn : k = n := by omega
      subst hkn
      have HB : Hid (Bytes wr (.slice A5 m c5) (treeB xs)) := by
        have := HO.out.bytes
        rw [List.take_of_length_le (by rw [HL.out]; exact Nat.le_refl _)] at this
        rw [Hid, treeB, HL.out]; exact this
      have HBL : Hid ((treeB xs).length = m) := by
        have := HM.out
        rw [List.take_of_length_le (by rw [HL.out]; exact Nat.le_refl _)] at this
        rw [Hid, treeB, HL.out]; exact this
      clear HO HM HO4 HL4 HC4 HLE
      go_wp2
      go_ret2
      exact ⟨_, _, _, rfl, HB.out, HBL.out, HC.out⟩

theorem reftree_no (w : World) (A : Option Addr) (n c : Nat) (xs : List Ent) (h : Es w (.slice A n c) xs) (hb0 : ∀ x ∈ xs, x.1.size ≤ maxLen ∧ x.2.2 < 18446744073709551616) (hnm : n ≤ 9223372036854775807) (hF : treeF xs ≠ 0) :
    Calls Try.prog 38 #[.slice A n c] w fun e w' => ∃ A' n' c', e = .returned (.tuple #[.slice A' n' c', .int .i64 (treeF xs)]) ∧ Bytes w' (.slice A' n' c') [] ∧ ([] : List UInt8).length = n' ∧ Chg No w w' := by
  have mx : maxLen ≤ 9223372036854775807 := by unfold maxLen; omega
  have hck := refcheck_tree w A n c xs h (fun x hx => Nat.le_trans (hb0 x hx).1 mx) hnm
  have hkb : (treeF xs != 0) = true := by simpa using hF
  generalize treeF xs = k at *
  have HCK := Lib.hid hck
  clear hck h hb0
  go_enter Try.func38, Try.ntmps38
  go_wp2_with fail
  refine HCK.out.mono ?_
  rintro e w1 ⟨rfl, hc1⟩
  go_wp2
  go_ret2
  exact ⟨none, 0, 0, rfl, Holds.nil w1, rfl, hc1⟩
end Go.Proofs.Ytkmnkbmmgopldaa
