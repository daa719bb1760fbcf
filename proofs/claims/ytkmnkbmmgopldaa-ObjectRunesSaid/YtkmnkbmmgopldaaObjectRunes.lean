/-
  The walk of ObjectRunes.
-/
import Derived.Test.YtkmnkbmmgopldaaRt
import Derived.Test.YtkmnkbmmgopldaaRn
import Derived.BigQuiet
import Derived.Deep.DeepCutAuto
namespace Go.Proofs.Ytkmnkbmmgopldaa
open Go.RowKit
set_option linter.unusedVariables false
set_option linter.unusedSimpArgs false
set_option maxRecDepth 100000

theorem cells5b {W : World} {g : Nat} {a b c d e : Value} {t : TypeId} {fz : Nat × Nat} (h : W.heap[g]? = some (.cells #[a, b, c, d, e] t fz)) :
    W.cell? ⟨g, 0, none⟩ = some a ∧ W.cell? ⟨g, 1, none⟩ = some b ∧ W.cell? ⟨g, 2, none⟩ = some c ∧ W.cell? ⟨g, 3, none⟩ = some d ∧ W.cell? ⟨g, 4, none⟩ = some e :=
  ⟨cellAt h 0 a rfl, cellAt h 1 b rfl, cellAt h 2 c rfl, cellAt h 3 d rfl, cellAt h 4 e rfl⟩
theorem Es.take {w : World} {A : Option Addr} {n c : Nat} {xs : List Ent} (h : Es w (.slice A n c) xs) {k : Nat} (hk : k ≤ n) : Es w (.slice A k c) (xs.take k) := by
  have hl := h.len
  obtain ⟨A', c', he, hn, hm, hx⟩ := h
  simp only [Value.slice.injEq] at he
  obtain ⟨rfl, rfl, rfl⟩ := he
  have hk' : (xs.take k).length = k := by rw [List.length_take]; omega
  refine ⟨_, _, by rw [hk'], by rw [hk']; omega, hm, fun hp => ?_⟩
  rw [encE_len, hk'] at hp
  obtain ⟨b, o, rfl, hc⟩ := hx (by rw [encE_len]; omega)
  refine ⟨b, o, rfl, fun j u hj => hc j u ?_⟩
  have hjl : j < k * 3 := by
    have := (List.getElem?_eq_some_iff.1 hj).1
    rwa [encE_len, hk'] at this
  have hj3 : j = j / 3 * 3 + j % 3 := by omega
  rw [hj3, encE_get _ (j / 3) (j % 3) (by rw [hk']; omega) (by omega)] at hj
  rw [hj3, encE_get _ (j / 3) (j % 3) (by omega) (by omega)]
  simpa using hj
theorem infoStr : (Try.prog.info? 9).map (fun i => (i.zero, i.size, i.bytes)) = some (some (.string ⟨#[]⟩), 1, 16) := by kernel_rfl
theorem wrong_none : ∀ (ps : List (Nat × Bool × List UInt8)) (k : Nat), wrongAt k ps = none → ps.all okP = true := by
  intro ps
  induction ps with
  | nil => intro k _; rfl
  | cons p r ih =>
    intro k h
    rw [wrongAt] at h
    by_cases hb : badN p = true
    · rw [if_pos hb] at h; cases h
    · rw [if_neg hb] at h
      rw [List.all_cons, ih _ h, Bool.and_true]
      simp only [badN, ctlN, Bool.or_eq_true, decide_eq_true_eq, beq_iff_eq, not_or] at hb
      have h0 : (p.1 != 0) = true := by simp; omega
      have h1 : p.2.1 = false := by simpa using hb.2
      rw [okP, h0, h1]
      rfl
theorem spot_good {l : List UInt8} (h : (spotF l).1 = 0) : rightF l = true ∧ l.length ≤ 32 := by
  unfold spotF at h
  split at h
  · cases h
  · split at h
    · cases h
    · rename_i h1 h2
      split at h
      · rename_i h3
        exact ⟨wrong_none _ 0 h3, by omega⟩
      · cases h
theorem tree_chain {xs : List Ent} (h : treeF xs = 0) : ∀ k ≤ xs.length, treeG (prevN xs k) (xs.drop k) = 0 := by
  intro k
  induction k with
  | zero =>
    intro _
    have h2 := (treeF_zero h).1
    rw [treeF, if_neg (by omega)] at h
    exact h
  | succ k ih =>
    intro hk
    have h1 := ih (by omega)
    rw [List.drop_eq_getElem_cons (show k < xs.length by omega)] at h1
    have e : prevN xs (k + 1) = (xs[k]'(by omega)).1 := by simp [prevN, List.getD, show k < xs.length by omega]
    rw [e]
    rw [treeG] at h1
    split at h1
    · rename_i hn; exact absurd h1 hn
    · split at h1
      · cases h1
      · split at h1
        · cases h1
        · exact h1
theorem tree_less {xs : List Ent} (h : treeF xs = 0) (k : Nat) (hk : k + 1 < xs.length) : Op.bytesLess (xs[k]'(by omega)).1.toList (xs[k + 1]).1.toList = true := by
  have h1 := tree_chain h (k + 1) (by omega)
  rw [List.drop_eq_getElem_cons hk] at h1
  have e : prevN xs (k + 1) = (xs[k]'(by omega)).1 := by simp [prevN, List.getD, show k < xs.length by omega]
  rw [e, treeG] at h1
  have hle : leS (xs[k + 1]).1 (xs[k]'(by omega)).1 = false := by
    split at h1
    · rename_i hn; exact absurd h1 hn
    · split at h1
      · cases h1
      · rename_i hh; simpa using hh
  rw [leS, Bool.or_eq_false_iff, beq_eq_false_iff_ne] at hle
  exact less_total _ _ hle.1 hle.2
def Good (s : ByteArray) : Prop := rightF s.data.toList = true ∧ s.size ≤ 2000
/-- []rune(s) and string of it. -/
theorem conv_back (s : ByteArray) (hs : Good s) : ∃ (M : Nat) (CP : World → Nat) (RW : World → World), (∀ W, (convert 9 36 (.string s)).run Try.prog W = .ok (.slice (some ⟨W.heap.size, 0, none⟩) M (CP W)) (RW W)) ∧
    (∀ W, (convert 36 9 (.slice (some ⟨W.heap.size, 0, none⟩) M (CP W))).run Try.prog (RW W) = .ok (.string s) (RW W)) ∧ ∀ W, Chg No W (RW W) := by
  have hr := runesFrom_list s
  have hml := runes_len s
  have hb := runes_back s.data.toList.length s.data.toList (Nat.le_refl _) (by
    have := hs.1
    rw [rightF, List.all_eq_true] at this
    rw [List.all_eq_true]
    intro p hp
    have := this p hp
    rw [okP, Bool.and_eq_true_iff] at this
    exact this.2)
  rw [mkS_self] at hb
  have key : ∀ (W' : World) (ad : Addr) (cap : Nat), (∀ j, j < (runesL s.data.toList).length → W'.cell? (ad.add j) = some (.int .i32 ((runesL s.data.toList).getD j 0))) → (convert 36 9 (.slice (some ad) (runesL s.data.toList).length cap)).run Try.prog W' = .ok (.string s) W' := by
    intro W' ad cap h
    have := run_convert_runes (P := Try.prog) W' 36 9 21 ad (runesL s.data.toList).length cap (runesL s.data.toList) (Nat.le_refl _) Try.underlying36 Try.underlying21 Try.underlying9 h
    rw [List.take_of_length_le (Nat.le_refl _), hb] at this
    exact this
  refine ⟨(runesL s.data.toList).length, fun W => grownCap W (runesL s.data.toList).length 0 21, fun W => W.drew.alloc (.cells (((runesL s.data.toList).map (Value.int .i32)).toArray ++ Array.replicate (grownCap W (runesL s.data.toList).length 0 21 - (runesL s.data.toList).length) (.int .i32 0)) 21), fun W => ?_, fun W => ?_, fun W => ((Chg.refl No W).drew).alloc _⟩
  · have := run_runes_of_string (P := Try.prog) W 9 36 21 s Try.underlying9 Try.underlying36 Try.underlying21 (by rw [hr, List.size_toArray, List.length_map]; have := hs.2; omega)
    rw [hr] at this
    simp only [List.size_toArray, List.length_map] at this
    exact this
  · have hcells : ∀ j, j < (runesL s.data.toList).length → (W.drew.alloc (.cells (((runesL s.data.toList).map (Value.int .i32)).toArray ++ Array.replicate (grownCap W (runesL s.data.toList).length 0 21 - (runesL s.data.toList).length) (.int .i32 0)) 21)).cell? ((⟨W.heap.size, 0, none⟩ : Addr).add j) = some (.int .i32 ((runesL s.data.toList).getD j 0)) := by
      intro j hj
      rw [Addr.add_lit, Nat.zero_add]
      refine cellAt (heap_alloc_new W.drew _) j _ ?_
      rw [Array.getElem?_append_left (by simpa using hj)]
      simp [hj, List.getD]
    exact key _ _ _ hcells

set_option maxHeartbeats 12800000 in
theorem objectRunes_core (w : World) (Ab : Option Addr) (nb cb : Nat) (xs : List Ent) (hb : Es w (.slice Ab nb cb) xs) (hxb : ∀ x ∈ xs, x.1.size ≤ maxLen ∧ x.2.2 < 18446744073709551616)
    (t : Nat) (A : Option Addr) (n c : Nat) (ps : List Nat) (a : ByteArray) (d : Int) (x : ByteArray) (hs : Sl u64v w (.slice A n c) ps) (hn : n ≤ maxLen) (ha : a.size ≤ maxLen) (hx : x.size ≤ maxLen) :
    Calls Try.prog 3 #[.slice Ab nb cb, .agg #[.int .u64 (t : Int), .slice A n c, .string a, .int .i64 d, .string x]] w fun e w' => e = .returned (.bool true) ∧ Chg No w w' := by
  have mx : maxLen ≤ 9223372036854775807 := by unfold maxLen; omega
  have hl := hb.len
  have hnc : nb ≤ cb := by
    obtain ⟨A', c', he, h2, h3, -⟩ := hb
    simp only [Value.slice.injEq] at he
    omega
  have HB0 := Lib.hid hb
  have HL0 := Lib.hid hl
  have HX0 : Hid (∀ x ∈ xs, x.1.size ≤ 9223372036854775807) := fun x hx => Nat.le_trans (hxb x hx).1 mx
  have HCK : Hid (∀ W, Chg No w W → Calls Try.prog 14 #[commitV (t : Int) (.slice A n c) a d x] W fun e w' => e = .returned (.int .i64 (commitF t ps a.data.toList x.data.toList : Nat)) ∧ Chg No W w') := fun W hW => check_commit W t A n c ps a d x (hs.no hW) (by omega) (by omega) (by omega)
  have HCZ : Hid (commitF t ps a.data.toList x.data.toList = 0 → Good a ∧ Good x) := by
    intro h
    obtain ⟨-, -, -, z4, z5, z6, z7⟩ := commitF_zero h
    rw [size_list] at z4 z6
    exact ⟨⟨z5, by omega⟩, z7, by omega⟩
  have HQ := Lib.hid (heap_alloc_new w (.cells #[.int .u64 (t : Int), .slice A n c, .string a, .int .i64 d, .string x] 27))
  clear hb hl hxb hs hn ha hx mx
  generalize commitF t ps a.data.toList x.data.toList = F2 at *
  go_enter Try.func3, Try.ntmps3
  go_wp2_with fail
  refine (wakes_calls _).mono ?_
  rintro e w1 ⟨rfl, hc1⟩
  have HQ1 := Lib.hid (hc1.heap HQ.out (fun x => x))
  have HC1 := Lib.hid (((Chg.refl No w).alloc _).no hc1)
  clear hc1 HQ
  generalize hg : w.heap.size = g at *
  have hcap : (min (nb : Int) 256) ≤ (cb : Int) := by omega
  have hcap0 : 0 ≤ (min (nb : Int) 256) := by omega
  go_upto_region 5 with fail
  have hN1 : (min (nb : Int) 256).toNat ≤ nb := by omega
  have hN : (min (nb : Int) 256).toNat ≤ 256 := by omega
  clear hcap hcap0
  generalize (min (nb : Int) 256).toNat = N at *
  have HB : Hid (Es w (.slice Ab N cb) (xs.take N)) := HB0.out.take hN1
  have HLN : Hid ((xs.take N).length = N) := by rw [Hid, List.length_take, HL0.out]; omega
  have HX : Hid (∀ x ∈ xs.take N, x.1.size ≤ 9223372036854775807) := fun x hx => HX0.out x (List.mem_of_mem_take hx)
  clear HB0 HL0 HX0 hN1
  generalize xs.take N = ys at *
  go_wp2_with fail
  refine (check_tree w1 Ab N cb ys (HB.out.no HC1.out) HX.out).mono ?_
  rintro e w2 ⟨rfl, hc2⟩
  have HQ2 := Lib.hid (hc2.heap HQ1.out (fun x => x))
  have HC2 := Lib.hid (HC1.out.no hc2)
  have hg2 : g ≤ w2.heap.size := by have := HC2.out.size; omega
  clear hc2 HQ1 HC1
  have HT : Hid (treeF ys = 0 → (∀ (k : Nat) (hk : k < ys.length), Good (ys[k]).1) ∧ ∀ (k : Nat) (hk : k + 1 < ys.length), Op.bytesLess (ys[k]'(by omega)).1.toList (ys[k + 1]).1.toList = true) := by
    intro h
    refine ⟨fun k hk => ?_, fun k hk => tree_less h k hk⟩
    have h2 := (treeF_zero h).1
    have h3 : treeG ⟨#[]⟩ ys = 0 := by rw [treeF, if_neg (by omega)] at h; exact h
    obtain ⟨g1, g2⟩ := spot_good (treeG_names ys _ h3 _ (List.getElem_mem hk)).1
    rw [size_list] at g2
    exact ⟨g1, by omega⟩
  generalize treeF ys = F1 at *
  · skip

    by_cases hF : F1 = 0
    · have hFb : (F1 == 0) = true := by rw [hF]; rfl
      have HT1 := Lib.hid (HT.out hF).1
      have HT2 := Lib.hid (HT.out hF).2
      clear HT hF
      go_wp2
      go_loopw [5, 26] (fun l i wr => ∃ (k : Nat) (Ak : Option Addr) (ck : Nat), k ≤ N ∧ i = .int .i64 (k : Int) ∧ l = .slice Ak k ck ∧ Hid (wr.ownsRow g 9 1 (.slice Ak k ck) k (((ys.take k).map (·.1)).map Value.string)) ∧ Hid (wr.heap[g]? = some (.cells #[.int .u64 (t : Int), .slice A n c, .string a, .int .i64 d, .string x] 27)) ∧ Hid (Chg No w wr)) (fun _ i _ => N - (intOf i).toNat)
      case atStart => exact ⟨0, none, 0, Nat.zero_le _, rfl, rfl, World.ownsRow_nil _ _ _ _, HQ2.out, HC2.out⟩
      case round =>
        obtain ⟨k, Ak, ck, hk, rfl, rfl, HO, HQk, HC⟩ := hrel
        by_cases hlt : k < N
        · have hkl : k < ys.length := by rw [HLN.out]; exact hlt
          obtain ⟨b, o, rfl, hcell⟩ := (HB.out.no HC.out).addr (by rw [HLN.out]; omega)
          obtain ⟨c0, c1, c2⟩ := hcell k hkl
          have HPK : Hid (∀ j (hj : j + 1 = k), wr.cell? ⟨b, o + j * 3, none⟩ = some (.string (ys[j]'(by omega)).1) ∧ Op.bytesLess (ys[j]'(by omega)).1.toList (ys[k]).1.toList = true) := by
            rintro j rfl
            exact ⟨(hcell j (by omega)).1, HT2.out j hkl⟩
          have HTK : Hid (ys.take (k + 1) = ys.take k ++ [ys[k]]) := by rw [Hid, List.take_succ_eq_append_getElem]
          have hsz : w.heap.size ≤ wr.heap.size := HC.out.size
          generalize ys[k] = y at *
          obtain ⟨s, f, id⟩ := y
          simp only at c0 c1 c2
          have hE := heap_alloc_new wr (.cells #[.string s, .bool f, .int .u64 (id : Int)] 35)
          have d0 := cellAt hE 0 (.string s) rfl
          have HPP : Hid (∀ j (hj : j + 1 = k), ∃ p : ByteArray, (wr.alloc (.cells #[.string s, .bool f, .int .u64 (id : Int)] 35)).cell? ⟨b, o + j * 3, none⟩ = some (.string p) ∧ Op.bytesLess p.toList s.toList = true) := fun j hj => ⟨_, ((Chg.refl No wr).alloc _).cell (HPK.out j hj).1 (fun x => x), (HPK.out j hj).2⟩
          have HCe : Hid (Chg No w (wr.alloc (.cells #[.string s, .bool f, .int .u64 (id : Int)] 35))) := HC.out.alloc _
          have HQe := Lib.hid (((Chg.refl No wr).alloc (.cells #[.string s, .bool f, .int .u64 (id : Int)] 35)).heap HQk.out (fun x => x))
          have HOe := Lib.hid (World.ownsRow.alloc HO.out (.cells #[.string s, .bool f, .int .u64 (id : Int)] 35))
          clear hcell HPK hkl hE
          have HEe := Lib.hid (heap_alloc_new wr (.cells #[.string s, .bool f, .int .u64 (id : Int)] 35))
          go_upto_region 9 with fail
          by_cases hk0 : k = 0
          · subst hk0
            go_wp2
            go_quiet (fail)
            generalize hdd : (wr.alloc (.cells #[.string s, .bool f, .int .u64 (id : Int)] 35)).drewN nq = we at *
            have HCd : Hid (Chg No w we) := by rw [← hdd]; exact HCe.out.drewN _
            have HQd : Hid (we.heap[g]? = some (.cells #[.int .u64 (t : Int), .slice A n c, .string a, .int .i64 d, .string x] 27)) := by rw [← hdd]; exact HQe.out
            have HOd : Hid (we.ownsRow g 9 1 (.slice Ak 0 ck) 0 (((ys.take 0).map (·.1)).map Value.string)) := by rw [← hdd]; exact HOe.out
            have HEd : Hid (we.heap[wr.heap.size]? = some (.cells #[.string s, .bool f, .int .u64 (id : Int)] 35)) := by rw [← hdd]; exact HEe.out
            clear hdd HCe HQe HOe HEe d0 c0 c1 c2 HPP
            have d0 := cellAt HEd.out 0 (.string s) rfl
            have own8 := Lib.hid (World.ownsRow.alloc HOd.out (.cells #[.string s] 9))
            have src8 : Hid (Src Try.prog 1 29 (.slice (some ⟨we.heap.size, 0, none⟩) 1 1) 1 [.string s] (we.alloc (.cells #[.string s] 9))) := Src.one Try.underlying29 _ rfl
            have hge : g ≤ we.heap.size := by have := HCd.out.size; omega
            go_wp2_with (at_builtin; (refine wpList_app2 rfl (.tmp 44) (.tmp 47) 29 29 rfl g 9 (.string ⟨#[]⟩) 1 16 infoStr Try.underlying29 rfl (by decide) (.slice Ak 0 ck) (.slice (some ⟨we.heap.size, 0, none⟩) 1 1) 0 1 (((ys.take 0).map (·.1)).map Value.string) ([.string s]) rfl rfl ?own ?src ?b1 ?b2 ?b3 ?_; (case own => exact own8.out); (case src => exact src8.out); (case b1 => omega); (case b2 => unfold maxLen; omega); (case b3 => (simp only [World.size_alloc]; omega)); intro v8 w8 hown8 hg8 hfrom8; refine Hid.out ?_))
            refine Lib.hid ?_
            obtain ⟨A8, c8, rfl⟩ := ownsRow_form hown8
            have HC8 : Hid (Chg No w w8) := (HCd.out.alloc _).grown hg8 (fun q hq => .inl (Nat.le_trans (Nat.le_of_eq hg) (World.ownsRow.lt HOd.out q hq).1))
            have HQ8 : Hid (w8.heap[g]? = some (.cells #[.int .u64 (t : Int), .slice A n c, .string a, .int .i64 d, .string x] 27)) := row_keep own8.out hg8 (((Chg.refl No _).alloc _).heap HQd.out (fun x => x)) (by decide)
            have HO8 : Hid (w8.ownsRow g 9 1 (.slice A8 (0 + 1) c8) (0 + 1) (((ys.take (0 + 1)).map (·.1)).map Value.string)) := by
              have e : ((ys.take (0 + 1)).map (fun z : Ent => z.1)).map Value.string = ((ys.take 0).map (fun z : Ent => z.1)).map Value.string ++ [.string s] := by rw [HTK.out, List.map_append, List.map_append]; rfl
              rw [Hid, e]
              exact hown8
            clear hown8 hg8 hfrom8 own8 src8
            go_wp2
            go_roundw
            case rel => exact ⟨0 + 1, A8, c8, by omega, by simp, rfl, HO8.out, HQ8.out, HC8.out⟩
            case measure => simp [intOf]; omega
          · obtain ⟨j, rfl⟩ : ∃ j, k = j + 1 := ⟨k - 1, by omega⟩
            obtain ⟨p, pc, pl⟩ := HPP.out j rfl
            have hgt : (0 : Int) < ((j + 1 : Nat) : Int) := by omega
            have hjb2 : ((j + 1 : Nat) : Int) - 1 < (N : Int) := by omega
            clear hk0 HPP
            go_wp2
            go_quiet (fail)
            generalize hdd : (wr.alloc (.cells #[.string s, .bool f, .int .u64 (id : Int)] 35)).drewN nq = we at *
            have HCd : Hid (Chg No w we) := by rw [← hdd]; exact HCe.out.drewN _
            have HQd : Hid (we.heap[g]? = some (.cells #[.int .u64 (t : Int), .slice A n c, .string a, .int .i64 d, .string x] 27)) := by rw [← hdd]; exact HQe.out
            have HOd : Hid (we.ownsRow g 9 1 (.slice Ak (j + 1) ck) (j + 1) (((ys.take (j + 1)).map (·.1)).map Value.string)) := by rw [← hdd]; exact HOe.out
            have HEd : Hid (we.heap[wr.heap.size]? = some (.cells #[.string s, .bool f, .int .u64 (id : Int)] 35)) := by rw [← hdd]; exact HEe.out
            clear hdd HCe HQe HOe HEe d0 c0 c1 c2 pc pl
            have d0 := cellAt HEd.out 0 (.string s) rfl
            have own8 := Lib.hid (World.ownsRow.alloc HOd.out (.cells #[.string s] 9))
            have src8 : Hid (Src Try.prog 1 29 (.slice (some ⟨we.heap.size, 0, none⟩) 1 1) 1 [.string s] (we.alloc (.cells #[.string s] 9))) := Src.one Try.underlying29 _ rfl
            have hge : g ≤ we.heap.size := by have := HCd.out.size; omega
            go_wp2_with (at_builtin; (refine wpList_app2 rfl (.tmp 44) (.tmp 47) 29 29 rfl g 9 (.string ⟨#[]⟩) 1 16 infoStr Try.underlying29 rfl (by decide) (.slice Ak (j + 1) ck) (.slice (some ⟨we.heap.size, 0, none⟩) 1 1) (j + 1) 1 (((ys.take (j + 1)).map (·.1)).map Value.string) ([.string s]) rfl rfl ?own ?src ?b1 ?b2 ?b3 ?_; (case own => exact own8.out); (case src => exact src8.out); (case b1 => omega); (case b2 => unfold maxLen; omega); (case b3 => (simp only [World.size_alloc]; omega)); intro v8 w8 hown8 hg8 hfrom8; refine Hid.out ?_))
            refine Lib.hid ?_
            obtain ⟨A8, c8, rfl⟩ := ownsRow_form hown8
            have HC8 : Hid (Chg No w w8) := (HCd.out.alloc _).grown hg8 (fun q hq => .inl (Nat.le_trans (Nat.le_of_eq hg) (World.ownsRow.lt HOd.out q hq).1))
            have HQ8 : Hid (w8.heap[g]? = some (.cells #[.int .u64 (t : Int), .slice A n c, .string a, .int .i64 d, .string x] 27)) := row_keep own8.out hg8 (((Chg.refl No _).alloc _).heap HQd.out (fun x => x)) (by decide)
            have HO8 : Hid (w8.ownsRow g 9 1 (.slice A8 (j + 1 + 1) c8) (j + 1 + 1) (((ys.take (j + 1 + 1)).map (·.1)).map Value.string)) := by
              have e : ((ys.take (j + 1 + 1)).map (fun z : Ent => z.1)).map Value.string = ((ys.take (j + 1)).map (fun z : Ent => z.1)).map Value.string ++ [.string s] := by rw [HTK.out, List.map_append, List.map_append]; rfl
              rw [Hid, e]
              exact hown8
            clear hown8 hg8 hfrom8 own8 src8
            go_wp2
            go_roundw
            case rel => exact ⟨j + 1 + 1, A8, c8, by omega, by simp, rfl, HO8.out, HQ8.out, HC8.out⟩
            case measure => simp [intOf]; omega
        · have hkn : k = N := by omega
          subst hkn
          have HGT : Hid (∀ s ∈ (ys.take k).map (fun z : Ent => z.1), Good s) := by
            intro s hs
            obtain ⟨y, hy, rfl⟩ := List.mem_map.1 hs
            obtain ⟨i, hi, rfl⟩ := List.getElem_of_mem (List.mem_of_mem_take hy)
            exact HT1.out i hi
          clear HQ2 HC2 HT1 HT2 HLN HX hg2
          generalize wr = wz at *
          have HO5 : Hid (wz.ownsRow g 9 1 (.slice Ak k ck) k (((ys.take k).map (fun z : Ent => z.1)).map Value.string)) := HO.out
          have HG5 : Hid (∀ s ∈ (ys.take k).map (fun z : Ent => z.1), Good s) := HGT.out
          have HQ5 : Hid (wz.heap[g]? = some (.cells #[.int .u64 (t : Int), .slice A n c, .string a, .int .i64 d, .string x] 27)) := HQk.out
          have HC5 : Hid (Chg No w wz) := HC.out
          have hk5 : k ≤ 256 := by omega
          generalize (ys.take k).map (fun z : Ent => z.1) = ts at *
          generalize wz = w5 at *
          obtain ⟨q0, q1, q2, q3, q4⟩ := cells5b HQ5.out
          go_wp2_with fail
          refine (HCK.out w5 HC5.out).mono ?_
          rintro e w6 ⟨rfl, hc6⟩
          have HQ6 := Lib.hid (hc6.heap HQ5.out (fun x => x))
          have HC6 := Lib.hid (HC5.out.no hc6)
          have HO6 := Lib.hid (ownsRow_chg HO5.out hc6 (fun _ _ x => x))
          have hg6 : g ≤ w6.heap.size := by have := HC6.out.size; omega
          clear hc6 HQ5 HC5 HO5 q0 q1 q2 q3 q4 HCK
          by_cases hF : F2 = 0
          · have hFb : ((F2 : Int) == 0) = true := by rw [hF]; rfl
            obtain ⟨ga, gx⟩ := HCZ.out hF
            have HGA := Lib.hid ga
            have HGX := Lib.hid gx
            clear hF ga gx
            have q2 := cellAt HQ6.out 2 _ rfl
            have q4 := cellAt HQ6.out 4 _ rfl
            have own8 := Lib.hid (World.ownsRow.alloc HO6.out (.cells #[.string a, .string x] 9))
            have src8 : Hid (Src Try.prog 1 29 (.slice (some ⟨w6.heap.size, 0, none⟩) 2 2) 2 [.string a, .string x] (w6.alloc (.cells #[.string a, .string x] 9))) := Src.two Try.underlying29 _ _ _ (Chg.refl _ _) rfl (by simp [Value.oneCell'])
            go_wp2_with (at_builtin; (refine wpList_app2 rfl (.tmp 54) (.tmp 59) 29 29 rfl g 9 (.string ⟨#[]⟩) 1 16 infoStr Try.underlying29 rfl (by decide) (.slice Ak k ck) (.slice (some ⟨w6.heap.size, 0, none⟩) 2 2) k 2 (ts.map Value.string) ([.string a, .string x]) rfl rfl ?own ?src ?b1 ?b2 ?b3 ?_; (case own => exact own8.out); (case src => exact src8.out); (case b1 => omega); (case b2 => unfold maxLen; omega); (case b3 => (simp only [World.size_alloc]; omega)); intro v8 w8 hown8 hg8 hfrom8; refine Hid.out ?_))
            refine Lib.hid ?_
            obtain ⟨A8, c8, rfl⟩ := ownsRow_form hown8
            have HC8 : Hid (Chg No w w8) := (HC6.out.alloc _).grown hg8 (fun q hq => .inl (Nat.le_trans (Nat.le_of_eq hg) (World.ownsRow.lt HO6.out q hq).1))
            have HO8 : Hid (w8.ownsRow g 9 1 (.slice A8 (k + 2) c8) (k + 2) ((ts ++ [a, x]).map Value.string)) := by
              rw [Hid, List.map_append]
              exact hown8
            have HG8 : Hid (∀ s ∈ ts ++ [a, x], Good s) := by
              intro s hs
              rcases List.mem_append.1 hs with hs | hs
              · exact HG5.out s hs
              · simp only [List.mem_cons, List.not_mem_nil, or_false] at hs
                rcases hs with rfl | rfl
                · exact HGA.out
                · exact HGX.out
            clear hown8 hg8 hfrom8 own8 src8 q2 q4 HQ6 HC6 HO6 HG5 HCZ HGA HGX hg6
            have HO7 : Hid (w8.ownsRow g 9 1 (.slice A8 (k + 2) c8) (k + 2) ((ts ++ [a, x]).map Value.string)) := HO8.out
            have HG7 : Hid (∀ s ∈ ts ++ [a, x], Good s) := HG8.out
            have HC7 : Hid (Chg No w w8) := HC8.out
            have hk7 : k + 2 ≤ 258 := by omega
            generalize ts ++ [a, x] = us at *
            generalize k + 2 = k7 at *
            generalize w8 = w7 at *
            
            have HUL : Hid (us.length = k7) := by have := HO7.out.1; rw [List.length_map] at this; rw [Hid]; omega
            go_wp2
            go_loopw [63] (fun i wr => ∃ k : Nat, k ≤ k7 ∧ i = .int .i64 (k : Int) ∧ Hid (Chg No w7 wr)) (fun i _ => k7 - (intOf i).toNat)
            case atStart => exact ⟨0, Nat.zero_le _, rfl, Chg.refl _ _⟩
            case round =>
              obtain ⟨k, hk, rfl, HC⟩ := hrel
              generalize wr = wo at *
              by_cases hlt : k < k7
              · have HOk := Lib.hid (ownsRow_chg HO7.out HC.out (fun _ _ x => x))
                obtain ⟨gr, rfl, hgr, -, hput⟩ := own_put HOk.out (by omega)
                obtain ⟨⟨u, hu, hux⟩, -, -⟩ := hput k (by omega)
                have hku : k < us.length := by rw [HUL.out]; exact hlt
                have hgd := HG7.out _ (List.getElem_mem hku)
                have hus : u = .string us[k] := by
                  rw [List.getElem?_map, List.getElem?_eq_getElem hku] at hux
                  exact (Option.some.inj hux).symm
                subst hus
                generalize us[k] = s at *
                have HGD := Lib.hid hgd
                obtain ⟨M, CP, RW, hcv, hbk, hrw⟩ := conv_back s hgd
                have HRW := Lib.hid hrw
                have HS := Lib.hid (size_list s)
                clear hput hux hku hgd hrw
                go_wp2
                have HC2 : Hid (Chg No w7 (RW wo)) := HC.out.no (HRW.out wo)
                generalize RW wo = w8 at *
                go_loopw [] (fun wr => ∃ pos : Nat, pos ≤ s.size ∧ Hid (wr.heap[w8.heap.size]? = some (.stringIter s pos)) ∧ Hid ((pcs (s.data.toList.drop pos)).all okP = true) ∧ Hid (Chg No w8 wr)) (fun wr => s.size - wr.iterPos w8.heap.size)
                case atStart => exact ⟨0, Nat.zero_le _, World.iter_heap _ _ _, HGD.out.1, (Chg.refl No w8).alloc _⟩
                case round =>
                  obtain ⟨pos, hpos, HI, HU, HCr⟩ := hrel
                  by_cases hp : pos < s.size
                  · have hl := drop_ne hp
                    obtain ⟨f1, f2, f3⟩ := decL_facts _ hl
                    have HPC := Lib.hid (pcs_cons _ hl)
                    have hnx := fun ty => Lib.run_next_any_at (P := Try.prog) wr w8.heap.size s pos ty HI.out hp
                    rw [decode_drop] at hnx
                    rw [List.length_drop, HS.out] at f2
                    rw [List.drop_drop] at HPC
                    generalize decL (s.data.toList.drop pos) = D at *
                    obtain ⟨r, kk⟩ := D
                    simp only at f1 f2 f3 hnx HPC
                    have HC1 : Hid (Chg No w8 (wr.iterAt w8.heap.size s (pos + kk))) := Chg.iterAt HCr.out (Nat.le_refl _) _ _
                    have HI1 : Hid ((wr.iterAt w8.heap.size s (pos + kk)).heap[w8.heap.size]? = some (.stringIter s (pos + kk))) := Lib.iterAt_heap wr w8.heap.size s pos (pos + kk) HI.out
                    have hip : wr.iterPos w8.heap.size = pos := iterPos_of HI.out
                    have hip2 : (wr.iterAt w8.heap.size s (pos + kk)).iterPos w8.heap.size = pos + kk := iterPos_of HI1.out
                    have hall := HU.out
                    rw [HPC.out, List.all_cons, Bool.and_eq_true_iff] at hall
                    have HN := Lib.hid hall.2
                    have hr0 : ((r : Int) == 0) = false := by
                      have h1 := hall.1
                      rw [okP, Bool.and_eq_true_iff] at h1
                      have h2 := h1.1
                      simp at h2
                      simp
                      omega
                    generalize brk (s.data.toList.drop pos) = bk at *
                    generalize (s.data.toList.drop pos).take kk = bs at *
                    clear hl hall
                    generalize wr.iterAt w8.heap.size s (pos + kk) = wn at *
                    go_wp2
                    go_roundw
                    case rel => exact ⟨pos + kk, by omega, HI1.out, HN.out, HC1.out⟩
                    case measure => rw [hip, hip2]; omega
                  · have hnx := fun ty => Lib.run_next_end_at (P := Try.prog) wr w8.heap.size s pos ty HI.out hp
                    go_wp2
                    go_roundw
                    case rel => exact ⟨k + 1, by omega, by simp, HC2.out.no HCr.out⟩
                    case measure => simp [intOf]; omega
              · have hk3 : ¬ (k : Int) < (k7 : Int) := by omega
                go_wp2_with fail
                refine (wakes_calls _).mono ?_
                rintro e w9 ⟨rfl, hc9⟩
                go_wp2
                go_ret
                exact ⟨rfl, (HC7.out.no HC.out).no hc9⟩
          · have hFb : ((F2 : Int) == 0) = false := by simp; omega
            clear hF
            have HO7 : Hid (w6.ownsRow g 9 1 (.slice Ak (k) ck) (k) ((ts).map Value.string)) := HO6.out
            have HG7 : Hid (∀ s ∈ ts, Good s) := HG5.out
            have HC7 : Hid (Chg No w w6) := HC6.out
            have hk7 : k ≤ 258 := by omega
            generalize ts = us at *
            generalize k = k7 at *
            generalize w6 = w7 at *
            
            have HUL : Hid (us.length = k7) := by have := HO7.out.1; rw [List.length_map] at this; rw [Hid]; omega
            go_wp2
            go_loopw [63] (fun i wr => ∃ k : Nat, k ≤ k7 ∧ i = .int .i64 (k : Int) ∧ Hid (Chg No w7 wr)) (fun i _ => k7 - (intOf i).toNat)
            case atStart => exact ⟨0, Nat.zero_le _, rfl, Chg.refl _ _⟩
            case round =>
              obtain ⟨k, hk, rfl, HC⟩ := hrel
              generalize wr = wo at *
              by_cases hlt : k < k7
              · have HOk := Lib.hid (ownsRow_chg HO7.out HC.out (fun _ _ x => x))
                obtain ⟨gr, rfl, hgr, -, hput⟩ := own_put HOk.out (by omega)
                obtain ⟨⟨u, hu, hux⟩, -, -⟩ := hput k (by omega)
                have hku : k < us.length := by rw [HUL.out]; exact hlt
                have hgd := HG7.out _ (List.getElem_mem hku)
                have hus : u = .string us[k] := by
                  rw [List.getElem?_map, List.getElem?_eq_getElem hku] at hux
                  exact (Option.some.inj hux).symm
                subst hus
                generalize us[k] = s at *
                have HGD := Lib.hid hgd
                obtain ⟨M, CP, RW, hcv, hbk, hrw⟩ := conv_back s hgd
                have HRW := Lib.hid hrw
                have HS := Lib.hid (size_list s)
                clear hput hux hku hgd hrw
                go_wp2
                have HC2 : Hid (Chg No w7 (RW wo)) := HC.out.no (HRW.out wo)
                generalize RW wo = w8 at *
                go_loopw [] (fun wr => ∃ pos : Nat, pos ≤ s.size ∧ Hid (wr.heap[w8.heap.size]? = some (.stringIter s pos)) ∧ Hid ((pcs (s.data.toList.drop pos)).all okP = true) ∧ Hid (Chg No w8 wr)) (fun wr => s.size - wr.iterPos w8.heap.size)
                case atStart => exact ⟨0, Nat.zero_le _, World.iter_heap _ _ _, HGD.out.1, (Chg.refl No w8).alloc _⟩
                case round =>
                  obtain ⟨pos, hpos, HI, HU, HCr⟩ := hrel
                  by_cases hp : pos < s.size
                  · have hl := drop_ne hp
                    obtain ⟨f1, f2, f3⟩ := decL_facts _ hl
                    have HPC := Lib.hid (pcs_cons _ hl)
                    have hnx := fun ty => Lib.run_next_any_at (P := Try.prog) wr w8.heap.size s pos ty HI.out hp
                    rw [decode_drop] at hnx
                    rw [List.length_drop, HS.out] at f2
                    rw [List.drop_drop] at HPC
                    generalize decL (s.data.toList.drop pos) = D at *
                    obtain ⟨r, kk⟩ := D
                    simp only at f1 f2 f3 hnx HPC
                    have HC1 : Hid (Chg No w8 (wr.iterAt w8.heap.size s (pos + kk))) := Chg.iterAt HCr.out (Nat.le_refl _) _ _
                    have HI1 : Hid ((wr.iterAt w8.heap.size s (pos + kk)).heap[w8.heap.size]? = some (.stringIter s (pos + kk))) := Lib.iterAt_heap wr w8.heap.size s pos (pos + kk) HI.out
                    have hip : wr.iterPos w8.heap.size = pos := iterPos_of HI.out
                    have hip2 : (wr.iterAt w8.heap.size s (pos + kk)).iterPos w8.heap.size = pos + kk := iterPos_of HI1.out
                    have hall := HU.out
                    rw [HPC.out, List.all_cons, Bool.and_eq_true_iff] at hall
                    have HN := Lib.hid hall.2
                    have hr0 : ((r : Int) == 0) = false := by
                      have h1 := hall.1
                      rw [okP, Bool.and_eq_true_iff] at h1
                      have h2 := h1.1
                      simp at h2
                      simp
                      omega
                    generalize brk (s.data.toList.drop pos) = bk at *
                    generalize (s.data.toList.drop pos).take kk = bs at *
                    clear hl hall
                    generalize wr.iterAt w8.heap.size s (pos + kk) = wn at *
                    go_wp2
                    go_roundw
                    case rel => exact ⟨pos + kk, by omega, HI1.out, HN.out, HC1.out⟩
                    case measure => rw [hip, hip2]; omega
                  · have hnx := fun ty => Lib.run_next_end_at (P := Try.prog) wr w8.heap.size s pos ty HI.out hp
                    go_wp2
                    go_roundw
                    case rel => exact ⟨k + 1, by omega, by simp, HC2.out.no HCr.out⟩
                    case measure => simp [intOf]; omega
              · have hk3 : ¬ (k : Int) < (k7 : Int) := by omega
                go_wp2_with fail
                refine (wakes_calls _).mono ?_
                rintro e w9 ⟨rfl, hc9⟩
                go_wp2
                go_ret
                exact ⟨rfl, (HC7.out.no HC.out).no hc9⟩
    · have hFb : (F1 == 0) = false := by simpa using hF
      clear HT hF HB HLN HX
      have HO5 : Hid (w2.ownsRow g 9 1 (.slice none 0 0) 0 ((([] : List ByteArray)).map Value.string)) := World.ownsRow_nil _ _ _ _
      have HG5 : Hid (∀ s ∈ ([] : List ByteArray), Good s) := (fun _ h => by cases h)
      have HQ5 : Hid (w2.heap[g]? = some (.cells #[.int .u64 (t : Int), .slice A n c, .string a, .int .i64 d, .string x] 27)) := HQ2.out
      have HC5 : Hid (Chg No w w2) := HC2.out
      have hk5 : 0 ≤ 256 := by omega
      generalize ([] : List ByteArray) = ts at *
      generalize w2 = w5 at *
      obtain ⟨q0, q1, q2, q3, q4⟩ := cells5b HQ5.out
      go_wp2_with fail
      refine (HCK.out w5 HC5.out).mono ?_
      rintro e w6 ⟨rfl, hc6⟩
      have HQ6 := Lib.hid (hc6.heap HQ5.out (fun x => x))
      have HC6 := Lib.hid (HC5.out.no hc6)
      have HO6 := Lib.hid (ownsRow_chg HO5.out hc6 (fun _ _ x => x))
      have hg6 : g ≤ w6.heap.size := by have := HC6.out.size; omega
      clear hc6 HQ5 HC5 HO5 q0 q1 q2 q3 q4 HCK
      by_cases hF : F2 = 0
      · have hFb : ((F2 : Int) == 0) = true := by rw [hF]; rfl
        obtain ⟨ga, gx⟩ := HCZ.out hF
        have HGA := Lib.hid ga
        have HGX := Lib.hid gx
        clear hF ga gx
        have q2 := cellAt HQ6.out 2 _ rfl
        have q4 := cellAt HQ6.out 4 _ rfl
        have own8 := Lib.hid (World.ownsRow.alloc HO6.out (.cells #[.string a, .string x] 9))
        have src8 : Hid (Src Try.prog 1 29 (.slice (some ⟨w6.heap.size, 0, none⟩) 2 2) 2 [.string a, .string x] (w6.alloc (.cells #[.string a, .string x] 9))) := Src.two Try.underlying29 _ _ _ (Chg.refl _ _) rfl (by simp [Value.oneCell'])
        go_wp2_with (at_builtin; (refine wpList_app2 rfl (.tmp 54) (.tmp 59) 29 29 rfl g 9 (.string ⟨#[]⟩) 1 16 infoStr Try.underlying29 rfl (by decide) (.slice none 0 0) (.slice (some ⟨w6.heap.size, 0, none⟩) 2 2) 0 2 (ts.map Value.string) ([.string a, .string x]) rfl rfl ?own ?src ?b1 ?b2 ?b3 ?_; (case own => exact own8.out); (case src => exact src8.out); (case b1 => omega); (case b2 => unfold maxLen; omega); (case b3 => (simp only [World.size_alloc]; omega)); intro v8 w8 hown8 hg8 hfrom8; refine Hid.out ?_))
        refine Lib.hid ?_
        obtain ⟨A8, c8, rfl⟩ := ownsRow_form hown8
        have HC8 : Hid (Chg No w w8) := (HC6.out.alloc _).grown hg8 (fun q hq => .inl (Nat.le_trans (Nat.le_of_eq hg) (World.ownsRow.lt HO6.out q hq).1))
        have HO8 : Hid (w8.ownsRow g 9 1 (.slice A8 (0 + 2) c8) (0 + 2) ((ts ++ [a, x]).map Value.string)) := by
          rw [Hid, List.map_append]
          exact hown8
        have HG8 : Hid (∀ s ∈ ts ++ [a, x], Good s) := by
          intro s hs
          rcases List.mem_append.1 hs with hs | hs
          · exact HG5.out s hs
          · simp only [List.mem_cons, List.not_mem_nil, or_false] at hs
            rcases hs with rfl | rfl
            · exact HGA.out
            · exact HGX.out
        clear hown8 hg8 hfrom8 own8 src8 q2 q4 HQ6 HC6 HO6 HG5 HCZ HGA HGX hg6
        have HO7 : Hid (w8.ownsRow g 9 1 (.slice A8 (0 + 2) c8) (0 + 2) ((ts ++ [a, x]).map Value.string)) := HO8.out
        have HG7 : Hid (∀ s ∈ ts ++ [a, x], Good s) := HG8.out
        have HC7 : Hid (Chg No w w8) := HC8.out
        have hk7 : 0 + 2 ≤ 258 := by omega
        generalize ts ++ [a, x] = us at *
        generalize 0 + 2 = k7 at *
        generalize w8 = w7 at *
        
        have HUL : Hid (us.length = k7) := by have := HO7.out.1; rw [List.length_map] at this; rw [Hid]; omega
        go_wp2
        go_loopw [63] (fun i wr => ∃ k : Nat, k ≤ k7 ∧ i = .int .i64 (k : Int) ∧ Hid (Chg No w7 wr)) (fun i _ => k7 - (intOf i).toNat)
        case atStart => exact ⟨0, Nat.zero_le _, rfl, Chg.refl _ _⟩
        case round =>
          obtain ⟨k, hk, rfl, HC⟩ := hrel
          generalize wr = wo at *
          by_cases hlt : k < k7
          · have HOk := Lib.hid (ownsRow_chg HO7.out HC.out (fun _ _ x => x))
            obtain ⟨gr, rfl, hgr, -, hput⟩ := own_put HOk.out (by omega)
            obtain ⟨⟨u, hu, hux⟩, -, -⟩ := hput k (by omega)
            have hku : k < us.length := by rw [HUL.out]; exact hlt
            have hgd := HG7.out _ (List.getElem_mem hku)
            have hus : u = .string us[k] := by
              rw [List.getElem?_map, List.getElem?_eq_getElem hku] at hux
              exact (Option.some.inj hux).symm
            subst hus
            generalize us[k] = s at *
            have HGD := Lib.hid hgd
            obtain ⟨M, CP, RW, hcv, hbk, hrw⟩ := conv_back s hgd
            have HRW := Lib.hid hrw
            have HS := Lib.hid (size_list s)
            clear hput hux hku hgd hrw
            go_wp2
            have HC2 : Hid (Chg No w7 (RW wo)) := HC.out.no (HRW.out wo)
            generalize RW wo = w8 at *
            go_loopw [] (fun wr => ∃ pos : Nat, pos ≤ s.size ∧ Hid (wr.heap[w8.heap.size]? = some (.stringIter s pos)) ∧ Hid ((pcs (s.data.toList.drop pos)).all okP = true) ∧ Hid (Chg No w8 wr)) (fun wr => s.size - wr.iterPos w8.heap.size)
            case atStart => exact ⟨0, Nat.zero_le _, World.iter_heap _ _ _, HGD.out.1, (Chg.refl No w8).alloc _⟩
            case round =>
              obtain ⟨pos, hpos, HI, HU, HCr⟩ := hrel
              by_cases hp : pos < s.size
              · have hl := drop_ne hp
                obtain ⟨f1, f2, f3⟩ := decL_facts _ hl
                have HPC := Lib.hid (pcs_cons _ hl)
                have hnx := fun ty => Lib.run_next_any_at (P := Try.prog) wr w8.heap.size s pos ty HI.out hp
                rw [decode_drop] at hnx
                rw [List.length_drop, HS.out] at f2
                rw [List.drop_drop] at HPC
                generalize decL (s.data.toList.drop pos) = D at *
                obtain ⟨r, kk⟩ := D
                simp only at f1 f2 f3 hnx HPC
                have HC1 : Hid (Chg No w8 (wr.iterAt w8.heap.size s (pos + kk))) := Chg.iterAt HCr.out (Nat.le_refl _) _ _
                have HI1 : Hid ((wr.iterAt w8.heap.size s (pos + kk)).heap[w8.heap.size]? = some (.stringIter s (pos + kk))) := Lib.iterAt_heap wr w8.heap.size s pos (pos + kk) HI.out
                have hip : wr.iterPos w8.heap.size = pos := iterPos_of HI.out
                have hip2 : (wr.iterAt w8.heap.size s (pos + kk)).iterPos w8.heap.size = pos + kk := iterPos_of HI1.out
                have hall := HU.out
                rw [HPC.out, List.all_cons, Bool.and_eq_true_iff] at hall
                have HN := Lib.hid hall.2
                have hr0 : ((r : Int) == 0) = false := by
                  have h1 := hall.1
                  rw [okP, Bool.and_eq_true_iff] at h1
                  have h2 := h1.1
                  simp at h2
                  simp
                  omega
                generalize brk (s.data.toList.drop pos) = bk at *
                generalize (s.data.toList.drop pos).take kk = bs at *
                clear hl hall
                generalize wr.iterAt w8.heap.size s (pos + kk) = wn at *
                go_wp2
                go_roundw
                case rel => exact ⟨pos + kk, by omega, HI1.out, HN.out, HC1.out⟩
                case measure => rw [hip, hip2]; omega
              · have hnx := fun ty => Lib.run_next_end_at (P := Try.prog) wr w8.heap.size s pos ty HI.out hp
                go_wp2
                go_roundw
                case rel => exact ⟨k + 1, by omega, by simp, HC2.out.no HCr.out⟩
                case measure => simp [intOf]; omega
          · have hk3 : ¬ (k : Int) < (k7 : Int) := by omega
            go_wp2_with fail
            refine (wakes_calls _).mono ?_
            rintro e w9 ⟨rfl, hc9⟩
            go_wp2
            go_ret
            exact ⟨rfl, (HC7.out.no HC.out).no hc9⟩
      · have hFb : ((F2 : Int) == 0) = false := by simp; omega
        clear hF
        have HC7 : Hid (Chg No w w6) := HC6.out
        clear HO6 HG5 HC6
        go_wp2
        go_loopw [63] (fun i wr => ∃ k : Nat, k ≤ 0 ∧ i = .int .i64 (k : Int) ∧ Hid (Chg No w wr)) (fun i _ => 0 - (intOf i).toNat)
        case atStart => exact ⟨0, Nat.zero_le _, rfl, HC7.out⟩
        case round =>
          obtain ⟨k, hk, rfl, HC⟩ := hrel
          have hk3 : ¬ (k : Int) < 0 := by omega
          go_wp2_with fail
          refine (wakes_calls _).mono ?_
          rintro e w9 ⟨rfl, hc9⟩
          go_wp2
          go_ret
          exact ⟨rfl, HC.out.no hc9⟩

theorem objectRunes_walk (w : World) (Al : Option Addr) (nl cl : Nat) (ys0 : List Ent) (hy : Es w (.slice Al nl cl) ys0) (hyb : ∀ x ∈ ys0, x.1.size ≤ maxLen ∧ x.2.2 < 18446744073709551616) (hnl : nl ≤ maxLen)
    (t : Nat) (A : Option Addr) (n c : Nat) (ps : List Nat) (a : ByteArray) (d : Int) (x : ByteArray) (hs : Sl u64v w (.slice A n c) ps) (hp : ∀ q ∈ ps, q < 18446744073709551616) (ht : t < 18446744073709551616) (hn : n ≤ maxLen) (ha : a.size ≤ maxLen) (hx : x.size ≤ maxLen) (hd1 : -9223372036854775808 ≤ d) (hd2 : d ≤ 9223372036854775807) :
    Calls Try.prog 3 #[.slice Al nl cl, .agg #[.int .u64 (t : Int), .slice A n c, .string a, .int .i64 d, .string x]] w fun e w' => e = .returned (.bool true) ∧ Below w.heap.size w w' :=
  (objectRunes_core w Al nl cl ys0 hy hyb t A n c ps a d x hs hn ha hx).mono fun _ _ h => ⟨h.1, h.2.below⟩
end Go.Proofs.Ytkmnkbmmgopldaa
