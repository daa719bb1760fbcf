/-
  RuleDress, RuleDressClose: in one text.
-/
import Derived.Test.YtcomcoolmabmgaaDoorBa13
import Derived.Test.YtcomcoolmabmgaaDoorBa12
import Derived.Test.YtcomcoolmabmgaaDoorRows
import Derived.Test.YtcomcoolmabmgaaDoorBa1
import Derived.Test.YtcomcoolmabmgaaDoorTie
import Derived.Test.YtcomcoolmabmgaaDoorCards
import Derived.LaidMore
import Derived.JoinedCond
import Derived.Lay
import Derived.SevenTiedAt
import Derived.Stop.Joined
namespace Go.Proofs.YtcomcoolmabmgaaDoor
set_option linter.unnecessarySimpa false
open Go.RowKit Go.Shelf
set_option linter.unusedVariables false
set_option linter.unusedSimpArgs false
set_option maxRecDepth 100000

attribute [local go_sem] Oper.semAt_some

theorem readF_err {t : List UInt8} (h : (readF t).2.1 ≠ 0) : (readF t).1 = [] := by
  have key : ∀ (ls : List (List UInt8)) (a : Nat) (acc : List Rul), (readG a acc ls).2.1 ≠ 0 → (readG a acc ls).1 = [] := by
    intro ls
    induction ls with
    | nil => intro a acc h; exact absurd rfl h
    | cons l r ih =>
      intro a acc h
      rw [readG] at h ⊢
      cases hw : wordsF 0 [] l with
      | inl p => rfl
      | inr ws =>
        rw [hw] at h
        cases ws with
        | nil => exact ih _ _ h
        | cons w ws =>
          simp only at h ⊢
          cases hr : readR (w :: ws) with
          | none => rfl
          | some x =>
            rw [hr] at h
            simp only at h ⊢
            by_cases h64 : acc.length = 64
            · rw [if_pos h64]
            · rw [if_neg h64] at h ⊢; exact ih _ _ h
  rw [readF] at h ⊢
  split
  · rfl
  · rename_i h1; rw [if_neg h1] at h; exact key _ _ _ h
/-- The text in a box, of which all else stands. -/
def DB (B : Nat) (W0 W : World) (T : List UInt8) : Prop := Chg (One B) W0 W ∧ Boxed W B 9 (.string (mkS T))
theorem DB.no {B : Nat} {W0 W W' : World} {T : List UInt8} (h : DB B W0 W T) (hc : Chg No W W') : DB B W0 W' T := ⟨h.1.no hc, hc.heap h.2 (fun x => x)⟩
theorem DB.set {B : Nat} {W0 W : World} {T : List UInt8} (h : DB B W0 W T) (T' : List UInt8) : DB B W0 (W.setCell ⟨B, 0, none⟩ (.string (mkS T'))) T' :=
  ⟨h.1.setCell (p := ⟨B, 0, none⟩) (.inr rfl) _, h.2.set _⟩
theorem DB.trans {B : Nat} {W0 W1 W : World} {T T' : List UInt8} (h : DB B W0 W1 T) (k : DB B W1 W T') : DB B W0 W T' := ⟨h.1.one k.1 (.inr rfl), k.2⟩
theorem DB.others {B : Nat} {W0 W : World} {T T' : List UInt8} (h0 : Boxed W0 B 9 (.string (mkS T'))) (h : DB B W0 W T) : KeepsOthers W0 W :=
  ⟨h.1.size, fun k o ho hn => h.1.heap ho (fun e => by
    have e : k = B := e
    subst e
    have h0 : W0.heap[k]? = some (.cells #[.string (mkS T')] 9 (0, 0)) := h0
    rw [h0] at ho
    cases ho
    cases hn)⟩
theorem DB.below {B n : Nat} {W0 W : World} {T : List UInt8} (h : DB B W0 W T) (hB : n ≤ B) (hn : n ≤ W0.heap.size) : Below n W0 W :=
  ⟨h.1.os, h.1.tape, h.1.output, h.1.size, fun k hk => h.1.block k (by omega) (fun e => by have e : k = B := e; omega)⟩
theorem below_no {n : Nat} {w a b : World} (h : Below n w a) (hn : n ≤ w.heap.size) (hc : Chg No a b) : Below n w b :=
  h.trans ((Chg.below hc).mono (Nat.le_trans hn h.size))
theorem rs_len {w : World} {A : Option Addr} {n c : Nat} {l : List Rul} (h : Rs w (.slice A n c) l) : n ≤ 9223372036854775807 := by
  obtain ⟨A9, c9, he9, h1, h2, -⟩ := h
  simp only [Value.slice.injEq] at he9
  unfold maxLen at h2; omega
theorem max_tmod (b : Int) : ∃ k : Nat, 1 ≤ k ∧ k ≤ 5 ∧ ((max b 0) % 5 + 1 : Int) = (k : Int) := by
  have h1 := Int.emod_nonneg (max b 0) (show (5 : Int) ≠ 0 by decide)
  have h2 := Int.emod_lt_of_pos (max b 0) (show (0 : Int) < 5 by decide)
  exact ⟨((max b 0) % 5).toNat + 1, by omega, by omega, by omega⟩
set_option maxHeartbeats 12800000 in
theorem ruleDress_core (n₀ : Nat) (hn₀ : 3 ≤ n₀) (w : World) (s r : ByteArray) (bl : Int) (hb0 : -9223372036854775808 ≤ bl) (hb1 : bl ≤ 9223372036854775807) (hs : s.size ≤ 1048576) (hr : r.size ≤ 1048576) :
    CallsIn Fence.wide n₀ Tryd.prog 6 #[.string s, .string r, .int .i64 bl] w fun e W' => e = .returned (.bool true) ∧ Below w.heap.size w W' := by
  have h1 : 1 ≤ n₀ := by omega
  have HS := Lib.hid (size_list s)
  have HWK := Lib.hid fun w => rwakes_calls w
  have HRD := Lib.hid fun w => readall_calls w s (by omega)
  have HRE := Lib.hid (fun h : (readF s.data.toList).2.1 ≠ 0 => readF_err h)
  obtain ⟨⟨l, e0, q0⟩, hR⟩ : ∃ R, R = readF s.data.toList := ⟨_, rfl⟩
  rw [← hR] at HRD HRE
  have HR := Lib.hid hR
  clear hR
  have HCB : Hid (Chg No w ((w.alloc (.cells #[.string r] 9)).alloc (.cells #[.int .i64 bl] 3))) := ((Chg.refl No w).alloc _).alloc _
  have B4 := Boxed.new w 9 (.string r)
  have B5 := Boxed.new (w.alloc (.cells #[.string r] 9)) 3 (.int .i64 bl)
  rw [World.size_alloc] at B5
  have HB4 := Lib.hid (B4.alloc (.cells #[.int .i64 bl] 3))
  have HB5 := Lib.hid B5
  clear B4 B5
  refine callsIn_of_wp_marks Tryd.func6 rfl trivial ?_ rfl
  simp only [Tryd.ntmps6, List.size_toArray, List.length_cons, List.length_nil, Nat.reduceAdd, Nat.reduceSub, Array.replicate_succ, Array.replicate_zero, List.push_toArray, List.append_toArray, List.nil_append, List.cons_append]
  gi_wp2_with (refine ⟨trivial, ?_⟩; gi_at_call 8; refine (callsIn_wide.2 (HWK.out _)).mono ?_; rintro e w1 ⟨rfl, hc1⟩; refine Hid.out ?_)
  refine Lib.hid ?_
  have HC1 := Lib.hid (HCB.out.no hc1)
  have HB41 : Hid (Boxed w1 w.heap.size 9 (.string r)) := hc1.heap HB4.out (fun x => x)
  have HB51 : Hid (Boxed w1 (w.heap.size + 1) 3 (.int .i64 bl)) := hc1.heap HB5.out (fun x => x)
  clear hc1 HB4 HB5 HCB
  gi_wp2_with (refine ⟨trivial, ?_⟩; gi_at_call 9; refine (callsIn_wide.2 (HRD.out _)).mono ?_; rintro e w2 ⟨⟨A, n, c, he, ho⟩, hc2⟩; have he : e = .returned (.tuple #[.slice A n c, .agg #[.int .i64 e0, .int .i64 q0]]) := he; subst he; refine Hid.out ?_)
  refine Lib.hid ?_
  have HC2 := Lib.hid (HC1.out.no hc2)
  have HB42 : Hid (Boxed w2 w.heap.size 9 (.string r)) := hc2.heap HB41.out (fun x => x)
  have HB52 : Hid (Boxed w2 (w.heap.size + 1) 3 (.int .i64 bl)) := hc2.heap HB51.out (fun x => x)
  have ho : OwnR w2 w1.heap.size (.slice A n c) n l := ho
  have HO2 := Lib.hid ho.rs
  have HLN := Lib.hid ho.len
  clear ho hc2 HB41 HB51
  by_cases hz : e0 = 0
  · subst hz
    have HRR := Lib.hid (read_dress (t := s.data.toList) (l := l) (q := q0) HR.out.symm)
    obtain ⟨rfl, hsz, hw, hok, h64, hdr⟩ := HRR.out
    have HWD := Lib.hid hw
    have HOK := Lib.hid hok
    have HDR := Lib.hid hdr
    clear hw hok hdr HRR HRE
    rw [size_list] at hsz
    have hn64 : n ≤ 64 := by have := HLN.out; omega
    have HLC := Lib.hid fun W => lines_calls W s
    gi_wp2_with (refine ⟨trivial, ?_⟩; gi_at_call 17; refine (callsIn_wide.2 (HLC.out _)).mono ?_; rintro e w3 ⟨rfl, rfl⟩)
    obtain ⟨k, hk1, hk5, hkv⟩ := max_tmod bl
    have HNB : Hid (∀ b ∈ noteF r.data.toList, b ≠ 10) := note_bytes _
    have HNL : Hid ((noteF r.data.toList).length ≤ 1048576) := by
      have := List.length_filter_le (fun x : UInt8 => decide (x ≠ 10)) r.data.toList
      rw [size_list] at this
      exact Nat.le_trans this hr
    have HLM : Hid (∀ x ∈ linesF s.data.toList, x.length ≤ 131072) := fun x hx => by
      have := (lines_mem _ s.data.toList (Nat.le_refl _) x hx).2
      rw [size_list] at this; omega
    have hcount : Hid ((linesF s.data.toList).length ≤ 131072) := by
      have := lines_count _ s.data.toList (Nat.le_refl _)
      rw [Hid]; rw [size_list] at this; omega
    have HLS : Hid (∀ (w' : World) (B : Nat), w'.cell? ⟨B, 0, none⟩ = some (.string s) → B < w'.heap.size → SeqStopsK Fence.wide (n₀ - 1) Tryd.prog 34 #[.pointer (some ⟨B, 0, none⟩)] (fun x : RN s.data.toList => lencs x.1) (Below w.heap.size) (fun xs => xs = (idx 0 (linesF s.data.toList)).attach) (fun pre => pre <+: (idx 0 (linesF s.data.toList)).attach) (idx 0 (linesF s.data.toList)).attach.length w') := fun w' B hb hB => lines_stops (fun x : RN s.data.toList => x.1) (idx 0 (linesF s.data.toList)).attach (n₀ - 1) (by omega) B s (by omega) (Below w.heap.size) w' hb hB (List.attach_map_subtype_val _)
    have X3 := ((Chg.refl No w2).alloc (.cells #[.int .i64 0, .int .i64 0] 26)).alloc (.cells #[.string ⟨#[]⟩] 9) |>.alloc (.cells #[.string s] 9)
    have b9 := Boxed.new (w2.alloc (.cells #[.int .i64 0, .int .i64 0] 26)) 9 (.string (mkS []))
    have bL := Boxed.new ((w2.alloc (.cells #[.int .i64 0, .int .i64 0] 26)).alloc (.cells #[.string ⟨#[]⟩] 9)) 9 (.string s)
    simp only [World.size_alloc] at b9 bL
    have b9' := b9.alloc (.cells #[.string s] 9)
    rw [mkS_nil] at b9'
    obtain ⟨B9, hB9⟩ : ∃ b, b = w2.heap.size + 1 := ⟨_, rfl⟩
    obtain ⟨BL, hBL⟩ : ∃ b, b = w2.heap.size + 1 + 1 := ⟨_, rfl⟩
    have hw2 := HC2.out.size
    have h54 := HB52.out.lt
    have hlw9 : w.heap.size ≤ B9 := by omega
    have hn94 : ¬ w.heap.size = B9 := by omega
    have hn95 : ¬ w.heap.size + 1 = B9 := by omega
    have hn49 : ¬ B9 = w.heap.size := by omega
    have hn59 : ¬ B9 = w.heap.size + 1 := by omega
    have HOW := Lib.hid (ho.chg X3)
    have hA9 : Hid (∀ b, (Value.slice A n c).ownBlock = some b → ¬ One B9 b) := fun b hb h => by
      have h1 := (World.ownsRow.lt ho b hb).2
      have h : b = B9 := h
      omega
    rw [← hBL] at bL ⊢
    rw [← hB9] at b9' ⊢
    generalize (((w2.alloc (.cells #[.int .i64 0, .int .i64 0] 26)).alloc (.cells #[.string ⟨#[]⟩] 9)).alloc (.cells #[.string s] 9)) = W0 at *
    have HC0 := Lib.hid (HC2.out.no X3)
    have HB40 : Hid (Boxed W0 w.heap.size 9 (.string r)) := X3.heap HB42.out (fun x => x)
    have HB50 : Hid (Boxed W0 (w.heap.size + 1) 3 (.int .i64 bl)) := X3.heap HB52.out (fun x => x)
    have HO0 := Lib.hid (HO2.out.no X3)
    have F0 : DB B9 W0 W0 [] := ⟨Chg.refl _ _, by rw [mkS_nil]; exact b9'⟩
    have hW0 : w.heap.size ≤ W0.heap.size := HC0.out.size
    have h9W0 : B9 < W0.heap.size := b9'.lt
    clear b9 b9' hB9 hBL hw2 h54 HB42 HB52 HO2 HC2 HC1 X3 HLC
    refine wpIn_rangeFunc_ownF rfl h1 (gf := 34) (lb := #[.pointer (some ⟨BL, 0, none⟩)]) rfl trivial (enters_of Tryd.func34 (by kernel_rfl) rfl)
      (HLS.out W0 BL bL.cell bL.lt) belowK_t (belowK_b hW0) (Below.refl _ _) (fun _ => rfl)
      (fun pre W => DB B9 W0 W (drL k (noteF r.data.toList) (pre.map (·.1.2))))
      (fun c' pre W => False)
      ?own1 (fun c' => ?own2) F0 ?frame ?assign ?body ?done ?stop
    case own1 =>
      rintro pre X Y row ⟨hd1, hd2⟩ hg hr
      exact ⟨hd1.grown hg (fun k e => .inl (hr k e).1), boxed_kept hd2 hg hr⟩
    case own2 =>
      rintro pre X Y row hf hg hr
      exact hf
    case stop =>
      rintro D c' pre W hD hpre hf
      exact hf.elim
    case assign =>
      intro lr x W K hK
      gi_wp2
      exact hK
    case body =>
      rintro lr pre x W2 F hlen
      have HX := Lib.hid (HLM.out x.1.2 (idx_mem _ _ _ x.2))
      have hxm2 : x.1.2 ∈ linesF s.data.toList := idx_mem _ _ _ x.2
      have HWX := Lib.hid (HWD.out _ hxm2)
      have hpc : pre.length < 131072 := by
        rw [List.length_attach, idx_len] at hlen
        have := hcount.out; omega
      have HMP : Hid (drL k (noteF r.data.toList) ((pre ++ [x]).map (fun y : RN s.data.toList => y.1.2)) = drL k (noteF r.data.toList) (pre.map (fun y : RN s.data.toList => y.1.2)) ++ (drX k (noteF r.data.toList) (wordsOf x.1.2) ++ [10, 10])) := by rw [Hid, List.map_append]; simp [drL]
      have HTL := Lib.hid (drL_len k hk5 _ HNL.out (pre.map (fun y : RN s.data.toList => y.1.2)) (fun y hy => by
        obtain ⟨z, -, rfl⟩ := List.mem_map.1 hy
        have hz : z.1.2 ∈ linesF s.data.toList := idx_mem _ _ _ z.2
        exact ⟨HLM.out _ hz, HWD.out _ hz⟩))
      rw [List.length_map] at HTL
      have HTL2 : Hid ((drL k (noteF r.data.toList) (pre.map (fun y : RN s.data.toList => y.1.2))).length ≤ 131072 * 68721606660) := Nat.le_trans HTL.out (Nat.mul_le_mul_right _ (by omega))
      have HWF := Lib.hid (words_few HX.out HWX.out)
      obtain ⟨⟨kx, lx⟩, hxm⟩ := x
      simp only at HX HWX HMP HWF hxm2
      generalize drL k (noteF r.data.toList) (pre.map (fun y : RN s.data.toList => y.1.2)) = T at *
      have hll : lx.length ≤ 131072 := HX.out
      have HWC := Lib.hid (words_calls W2 (mkS lx) (by rw [mkS_size]; omega))
      rw [mkS_list, HWX.out] at HWC
      have hsz : (mkS lx).size = lx.length := mkS_size lx
      have hW2 : w.heap.size ≤ W2.heap.size := Nat.le_trans hW0 F.1.size
      have h9W2 : B9 < W2.heap.size := F.2.lt
      generalize wordsOf lx = ws at *
      clear HTL hlen
      gi_wp2_with (refine ⟨trivial, (fun h => by cases h), ?_⟩; gi_at_call 18; refine (CallsIn.inRound lr (callsIn_wide.2 HWC.out)).mono ?_; rintro e w3 ⟨he, hc3⟩; obtain ⟨A1, m1, c1, he, hm1, ho1⟩ : WordsR _ _ _ (.inr ws) := he; subst he; refine Hid.out ?_)
      refine Lib.hid ?_
      obtain ⟨W4, hW4⟩ : ∃ W4, W4 = w3.alloc (.cells #[.int .i64 0, .int .i64 0] 26) := ⟨_, rfl⟩
      have hc4 : Chg No W2 W4 := by rw [hW4]; exact hc3.alloc _
      have G4 : DB B9 W2 W4 T := (show DB B9 W2 W2 T from ⟨Chg.refl _ _, F.2⟩).no hc4
      have D4 : DB B9 W4 W4 T := ⟨Chg.refl _ _, G4.2⟩
      have HB44 : Hid (Boxed W4 w.heap.size 9 (.string r)) := (F.1.one G4.1 (.inr rfl)).heap HB40.out hn94
      have HB54 : Hid (Boxed W4 (w.heap.size + 1) 3 (.int .i64 bl)) := (F.1.one G4.1 (.inr rfl)).heap HB50.out hn95
      have HCL : Hid (∀ j, j < m1 → ∃ b o, A1 = some ⟨b, o, none⟩ ∧ ¬ b = B9 ∧ W4.cell? ⟨b, o + j, none⟩ = some (.string (mkS (ws.getD j [])))) := by
        intro j hj
        have HSL : Sl strv W4 (.slice A1 m1 c1) ws := by
          have h3 : Sl strv w3 (.slice A1 m1 c1) ws := by rw [Sl, hm1]; exact Holds.ofOwn ho1
          rw [hW4]; exact h3.no ((Chg.refl No w3).alloc _)
        obtain ⟨b, o, rfl, hcell⟩ := HSL.addr (by rw [hm1]; omega)
        refine ⟨b, o, rfl, ?_, ?_⟩
        · have := (World.ownsRow.lt ho1 b rfl).1
          omega
        · have := hcell j (by rw [hm1]; omega)
          rw [this, strv_text, List.getD, List.getElem?_eq_getElem (by rw [hm1]; omega)]; rfl
      have HM1 := Lib.hid hm1
      have HF := Lib.hid F
      have HG4 := Lib.hid G4
      have h94 : B9 < W4.heap.size := G4.2.lt
      have hm8 : m1 ≤ 131072 := by have := HWF.out.1; omega
      clear hc3 hc4 ho1 hm1 F G4 HWC HX HWX hll hsz
      gi_wp2
      rw [← hW4]
      clear hW4
      gi_loopw [51] (fun i wr => ∃ j : Nat, j ≤ m1 ∧ i = .int .i64 (j : Int) ∧ Hid (DB B9 W4 wr (T ++ drW k (ws.take j)))) (fun i _ => m1 - (intOf i).toNat)
      case atStart => exact ⟨0, Nat.zero_le _, rfl, by rw [Hid]; simpa [drW] using D4⟩
      case round =>
        obtain ⟨j, hj, rfl, HG⟩ := hrel
        generalize wr = W5 at *
        obtain ⟨T1, hT1⟩ : ∃ T1, T1 = T ++ drW k (ws.take j) := ⟨_, rfl⟩
        rw [← hT1] at HG
        have hT1L : T1.length ≤ 131072 * 68721606660 + 131072 * 524295 := by
          have h1 := drW_len k hk5 (ws.take j) (fun x hx => HWF.out.2 x (List.mem_of_mem_take hx))
          have h2 : (ws.take j).length * 524295 ≤ 131072 * 524295 := Nat.mul_le_mul_right _ (by rw [List.length_take]; omega)
          have h3 := HTL2.out
          rw [hT1, List.length_append]; omega
        have HT1 := Lib.hid hT1
        clear hT1
        have hb9 := HG.out.2.cell
        have hf9 := HG.out.2.frozen
        by_cases hlt : j < m1
        · obtain ⟨b, o, rfl, hne, hcl⟩ := HCL.out j hlt
          have hcw := HG.out.1.cell hcl hne
          have hb5 : Boxed W5 (w.heap.size + 1) 3 (.int .i64 bl) := HG.out.1.heap HB54.out hn95
          have hb5c := hb5.cell
          have HXJ : Hid (ws.take (j + 1) = ws.take j ++ [ws.getD j []]) := by
            rw [Hid, List.take_add_one, List.getD]
            have : j < ws.length := by have := HM1.out; omega
            rw [List.getElem?_eq_getElem this]; rfl
          have hxl : (ws.getD j []).length ≤ 131072 := by
            have hj2 : j < ws.length := by have := HM1.out; omega
            rw [List.getD, List.getElem?_eq_getElem hj2]
            exact HWF.out.2 _ (List.getElem_mem hj2)
          generalize ws.getD j [] = x at *
          clear hcl hb5
          have HQC := Lib.hid fun W => quote_calls W (mkS x) (by rw [mkS_size]; omega)
          rw [mkS_list] at HQC
          have hql := quoteF_le x
          gi_wp2
          gi_loopw [59] (fun i wr => ∃ q : Nat, q ≤ k ∧ i = .int .i64 (q : Int) ∧ Hid (DB B9 W5 wr (T1 ++ List.replicate q 32))) (fun i _ => k - (intOf i).toNat)
          case atStart => exact ⟨0, Nat.zero_le _, rfl, by rw [Hid, List.replicate_zero, List.append_nil]; exact ⟨Chg.refl _ _, HG.out.2⟩⟩
          case round =>
            obtain ⟨q, hq, rfl, HG2⟩ := hrel
            obtain ⟨T2, hT2⟩ : ∃ T2, T2 = T1 ++ List.replicate q 32 := ⟨_, rfl⟩
            rw [← hT2] at HG2
            have hT2L : T2.length ≤ 131072 * 68721606660 + 131072 * 524295 + 5 := by rw [hT2, List.length_append, List.length_replicate]; omega
            have HT2 := Lib.hid hT2
            have hb9' := HG2.out.2.cell
            have hf9' := HG2.out.2.frozen
            clear hT2
            by_cases hqk : q < k
            · have hqi : (q : Int) < (k : Int) := by omega
              have a1 := fun W => add_to W T2 32 (by omega)
              have HT3 : Hid (T2 ++ [32] = T1 ++ List.replicate (q + 1) 32) := by rw [Hid, HT2.out, List.replicate_succ', List.append_assoc]
              have HG3 := Lib.hid (HG2.out.set (T2 ++ [32]))
              generalize T2 ++ [32] = T3 at *
              gi_wp2
              go_roundw
              case rel => exact ⟨q + 1, by omega, by simp, by rw [← HT3.out]; exact HG3⟩
              case measure => simp [intOf]; omega
            · have hqq : q = k := by omega
              subst hqq
              have a2 := fun W => add_mk W T2 (quoteF x) (by omega)
              have HT4 : Hid (T2 ++ quoteF x = T ++ drW q (ws.take (j + 1))) := by rw [Hid, HT2.out, HT1.out, HXJ.out]; simp [drW]
              have HG5 := Lib.hid (HG.out.trans HG2.out)
              generalize T2 ++ quoteF x = T4 at *
              generalize quoteF x = qx at *
              generalize wr = W6 at *
              clear hqk
              gi_wp2
              have HG7 : Hid (DB B9 W4 W6.drew T2) := HG5.out.no (Chg.refl No W6).drew
              refine wpIn_region_any (by kernel_rfl) ?_
              rw [show ∀ W : World, ({ W with drawn := W.drawn + 1 } : World) = W.drew from fun _ => rfl]
              generalize W6.drew = W7 at *
              have hb7 := HG7.out.2.cell
              have hf7 := HG7.out.2.frozen
              clear hb9 hf9 hb9' hf9'
              refine wpAnyIn_ready (rs := [0, 1]) (by kernel_rfl) (by simp) ?_
              refine (AllReadyIn.cons rfl (fun K hK => ?_) (AllReadyIn.cons rfl (fun K hK => ?_) AllReadyIn.nil))
              · skip
                rw [if_pos (by rfl)]
                gi_wp2
                try (refine hK _ _ ?_; clear hK K)
                refine wpAnyIn_ready (rs := [1]) (by kernel_rfl) (by simp) ?_
                refine (AllReadyIn.cons rfl (fun K hK => ?_) AllReadyIn.nil)
                rw [if_pos (by rfl)]
                gi_wp2
                try (refine hK _ _ ?_; clear hK K)
                refine wpAnyIn_ready (rs := [2]) (by kernel_rfl) (by simp) ?_
                refine (AllReadyIn.cons rfl (fun K hK => ?_) AllReadyIn.nil)
                rw [if_pos (by rfl)]
                gi_wp2_with (refine ⟨trivial, (fun h => by cases h), ?_⟩; gi_at_call 19; refine (CallsIn.inRound lr (callsIn_wide.2 (HQC.out _))).mono ?_; rintro e w8 ⟨rfl, hc8⟩; have HG8 := Lib.hid (HG7.out.no hc8); have hb8 := HG8.out.2.cell; have hf8 := HG8.out.2.frozen; clear hc8; refine Hid.out ?_)
                refine Lib.hid ?_
                try (refine hK _ _ ?_; clear hK K)
                refine wpAnyIn_ready (rs := [3]) (by kernel_rfl) (by simp) ?_
                refine (AllReadyIn.cons rfl (fun K hK => ?_) AllReadyIn.nil)
                rw [if_pos (by rfl)]
                gi_wp2
                try (refine hK _ _ ?_; clear hK K)
                refine wpAnyIn_ready (rs := [4]) (by kernel_rfl) (by simp) ?_
                refine (AllReadyIn.cons rfl (fun K hK => ?_) AllReadyIn.nil)
                rw [if_pos (by rfl)]
                gi_wp2
                try (refine hK _ _ ?_; clear hK K)
                refine wpAnyIn_done (by kernel_rfl) ?_ _
                have HG9 := Lib.hid (HG8.out.set T4)
                gi_wp2
                go_roundw
                case rel => exact ⟨j + 1, by omega, by simp, by rw [← HT4.out]; exact HG9⟩
                case measure => simp [intOf]; omega
              · skip
                rw [if_pos (by rfl)]
                gi_wp2
                try (refine hK _ _ ?_; clear hK K)
                refine wpAnyIn_ready (rs := [0, 2]) (by kernel_rfl) (by simp) ?_
                refine (AllReadyIn.cons rfl (fun K hK => ?_) (AllReadyIn.cons rfl (fun K hK => ?_) AllReadyIn.nil))
                · skip
                  rw [if_pos (by rfl)]
                  gi_wp2
                  try (refine hK _ _ ?_; clear hK K)
                  refine wpAnyIn_ready (rs := [2]) (by kernel_rfl) (by simp) ?_
                  refine (AllReadyIn.cons rfl (fun K hK => ?_) AllReadyIn.nil)
                  rw [if_pos (by rfl)]
                  gi_wp2_with (refine ⟨trivial, (fun h => by cases h), ?_⟩; gi_at_call 19; refine (CallsIn.inRound lr (callsIn_wide.2 (HQC.out _))).mono ?_; rintro e w8 ⟨rfl, hc8⟩; have HG8 := Lib.hid (HG7.out.no hc8); have hb8 := HG8.out.2.cell; have hf8 := HG8.out.2.frozen; clear hc8; refine Hid.out ?_)
                  refine Lib.hid ?_
                  try (refine hK _ _ ?_; clear hK K)
                  refine wpAnyIn_ready (rs := [3]) (by kernel_rfl) (by simp) ?_
                  refine (AllReadyIn.cons rfl (fun K hK => ?_) AllReadyIn.nil)
                  rw [if_pos (by rfl)]
                  gi_wp2
                  try (refine hK _ _ ?_; clear hK K)
                  refine wpAnyIn_ready (rs := [4]) (by kernel_rfl) (by simp) ?_
                  refine (AllReadyIn.cons rfl (fun K hK => ?_) AllReadyIn.nil)
                  rw [if_pos (by rfl)]
                  gi_wp2
                  try (refine hK _ _ ?_; clear hK K)
                  refine wpAnyIn_done (by kernel_rfl) ?_ _
                  have HG9 := Lib.hid (HG8.out.set T4)
                  gi_wp2
                  go_roundw
                  case rel => exact ⟨j + 1, by omega, by simp, by rw [← HT4.out]; exact HG9⟩
                  case measure => simp [intOf]; omega
                · skip
                  rw [if_pos (by rfl)]
                  gi_wp2_with (refine ⟨trivial, (fun h => by cases h), ?_⟩; gi_at_call 19; refine (CallsIn.inRound lr (callsIn_wide.2 (HQC.out _))).mono ?_; rintro e w8 ⟨rfl, hc8⟩; have HG8 := Lib.hid (HG7.out.no hc8); have hb8 := HG8.out.2.cell; have hf8 := HG8.out.2.frozen; clear hc8; refine Hid.out ?_)
                  refine Lib.hid ?_
                  try (refine hK _ _ ?_; clear hK K)
                  refine wpAnyIn_ready (rs := [0]) (by kernel_rfl) (by simp) ?_
                  refine (AllReadyIn.cons rfl (fun K hK => ?_) AllReadyIn.nil)
                  rw [if_pos (by rfl)]
                  gi_wp2
                  try (refine hK _ _ ?_; clear hK K)
                  refine wpAnyIn_ready (rs := [3]) (by kernel_rfl) (by simp) ?_
                  refine (AllReadyIn.cons rfl (fun K hK => ?_) AllReadyIn.nil)
                  rw [if_pos (by rfl)]
                  gi_wp2
                  try (refine hK _ _ ?_; clear hK K)
                  refine wpAnyIn_ready (rs := [4]) (by kernel_rfl) (by simp) ?_
                  refine (AllReadyIn.cons rfl (fun K hK => ?_) AllReadyIn.nil)
                  rw [if_pos (by rfl)]
                  gi_wp2
                  try (refine hK _ _ ?_; clear hK K)
                  refine wpAnyIn_done (by kernel_rfl) ?_ _
                  have HG9 := Lib.hid (HG8.out.set T4)
                  gi_wp2
                  go_roundw
                  case rel => exact ⟨j + 1, by omega, by simp, by rw [← HT4.out]; exact HG9⟩
                  case measure => simp [intOf]; omega
        · have hjm : j = m1 := by omega
          subst hjm
          have HT1' : Hid (T1 = T ++ drW k ws) := by rw [Hid, HT1.out, List.take_of_length_le (by rw [HM1.out]; exact Nat.le_refl _)]
          have hb4 : Boxed W5 w.heap.size 9 (.string r) := HG.out.1.heap HB44.out hn94
          have hb4c := hb4.cell
          clear hlt hb4 HT1
          gi_wp2
          gi_loopw [16, 17] (fun nt i wr => ∃ q : Nat, q ≤ r.size ∧ i = .int .i64 (q : Int) ∧ nt = .string (mkS (noteF (r.data.toList.take q))) ∧ wr = W5) (fun _ i _ => r.size - (intOf i).toNat)
          case atStart => exact ⟨0, Nat.zero_le _, rfl, rfl, rfl⟩
          case round =>
            obtain ⟨q, hq, rfl, rfl, rfl⟩ := hrel
            have hntl : (noteF (r.data.toList.take q)).length ≤ 1048576 := by
              have := List.length_filter_le (fun x : UInt8 => decide (x ≠ 10)) (r.data.toList.take q)
              rw [List.length_take] at this
              exact Nat.le_trans this (by omega)
            by_cases hqr : q < r.size
            · have i1 : (q : Int) < (r.size : Int) := by omega
              have i2 : (q : Int) + 1 ≤ (r.size : Int) := by omega
              obtain ⟨x, hx⟩ : ∃ x, r[q] = x := ⟨_, rfl⟩
              have HTK : Hid (r.data.toList.take (q + 1) = r.data.toList.take q ++ [x]) := by
                rw [Hid, List.take_add_one, get_list r q hqr, hx]; rfl
              by_cases h10 : x = 10
              · have HN9 : Hid (noteF (r.data.toList.take (q + 1)) = noteF (r.data.toList.take q)) := by rw [Hid, HTK.out, noteF, List.filter_append, h10]; simp [noteF]
                subst h10
                clear HTK
                gi_wp2
                go_roundw
                case rel => exact ⟨q + 1, by omega, by simp, by rw [HN9.out], (by first | rfl | trivial)⟩
                case measure => simp [intOf]; omega
              · have HN9 : Hid (noteF (r.data.toList.take (q + 1)) = noteF (r.data.toList.take q) ++ [x]) := by rw [Hid, HTK.out, noteF, List.filter_append]; simp [noteF, h10]
                have hx10 : ((x.toNat : Int) != 10) = true := by
                  rw [bne_iff_ne]; intro e; exact h10 (UInt8.toNat.inj (by show x.toNat = 10; omega))
                have hex : r.extract q (q + 1) = mkS [x] := by
                  rw [← mkS_self (r.extract q (q + 1)), ByteArray.data_extract, Array.toList_extract, List.extract_eq_take_drop, show q + 1 - q = 1 by omega, List.drop_eq_getElem_cons (by rw [Array.length_toList]; exact hqr), ← hx]; rfl
                have a1 := fun W => add_mk W (noteF (r.data.toList.take q)) [x] (by simp; omega)
                generalize noteF (r.data.toList.take q) = nt at *
                generalize nt ++ [x] = nt2 at *
                clear HTK h10
                gi_wp2
                go_roundw
                case rel => exact ⟨q + 1, by omega, by simp, by rw [HN9.out], (by first | rfl | trivial)⟩
                case measure => simp [intOf]; omega
            · have hqq : q = r.size := by omega
              subst hqq
              have HNN : Hid (noteF (r.data.toList.take r.size) = noteF r.data.toList) := by rw [Hid, List.take_of_length_le (by rw [size_list]; exact Nat.le_refl _)]
              rw [HNN.out] at hntl ⊢
              have b1 := fun W => add_mk W [32, 35] (noteF r.data.toList) (by simp; omega)
              have b2 := fun W => add_mk W ([32, 35] ++ noteF r.data.toList) [10, 10] (by simp; omega)
              have b3 := fun W => add_mk W T1 ([32, 35] ++ noteF r.data.toList ++ [10, 10]) (by simp; omega)
              have HE : Hid (T1 ++ ([32, 35] ++ noteF r.data.toList ++ [10, 10]) = drL k (noteF r.data.toList) ((pre ++ [(⟨(kx, lx), hxm⟩ : RN s.data.toList)]).map (fun y : RN s.data.toList => y.1.2))) := by
                rw [Hid, HMP.out, HT1'.out]; simp [drX]
              rw [show mkS [32, 35] = (⟨#[32, 35]⟩ : ByteArray) from rfl] at b1
              rw [show mkS [10, 10] = (⟨#[10, 10]⟩ : ByteArray) from rfl] at b2
              have HGS := Lib.hid (HG.out.set (T1 ++ ([32, 35] ++ noteF r.data.toList ++ [10, 10])))
              generalize T1 ++ ([32, 35] ++ noteF r.data.toList ++ [10, 10]) = T9 at *
              generalize [32, 35] ++ noteF r.data.toList ++ [10, 10] = z2 at *
              generalize [32, 35] ++ noteF r.data.toList = z1 at *
              have hqq : ¬ (r.size : Int) < (r.size : Int) := by omega
              gi_wp2
              have G9 := HG4.out.trans HGS.out
              have F9 := HF.out.trans G9
              refine ⟨G9.others HF.out.2, G9.below hlw9 hW2, ?_⟩
              show DB B9 W0 _ (drL k (noteF r.data.toList) ((pre ++ [(⟨(kx, lx), hxm⟩ : RN s.data.toList)]).map (fun y : RN s.data.toList => y.1.2)))
              rw [← HE.out]; exact F9
    case done =>
      rintro D xs W hD rfl F hK
      have F : DB B9 W0 W (drL k (noteF r.data.toList) ((idx 0 (linesF s.data.toList)).attach.map (fun y : RN s.data.toList => y.1.2))) := F
      rw [map_lines] at F
      have HOW1 := Lib.hid (HOW.out.chgS F.1 hA9.out)
      have HBW := Lib.hid ((HC0.out.below).trans (F.below hlw9 hW0))
      have HKD := Lib.hid hK
      have hTL := drL_len k hk5 _ HNL.out (linesF s.data.toList) (fun y hy => ⟨HLM.out _ hy, HWD.out _ hy⟩)
      have hTL2 : (linesF s.data.toList).length * 68721606660 ≤ 131072 * 68721606660 := Nat.mul_le_mul_right _ hcount.out
      have HDD := Lib.hid (HDR.out k (noteF r.data.toList) hk1 HNB.out)
      have HOKI := Lib.hid (okR_iff.1 HOK.out)
      have hps := print_small HOK.out h64
      have HRC := Lib.hid (read_cat HOKI.out h64 (by omega))
      have hpf : printF l = (catR l, 0) := by rw [printF, if_neg (by omega), if_pos HOK.out]
      generalize drL k (noteF r.data.toList) (linesF s.data.toList) = T at *
      have hb9 := F.2.cell
      have HTS : Hid ((mkS T).size = T.length) := mkS_size T
      clear HRD HLS HLM HWD hcount HNB HNL F0 bL HB40 HB50 HO0 ho he HR HDR h9W0 hn94 hn95 hn49 hn59 HOW hA9 hkv
      by_cases hbig : 131072 < T.length
      · have i1 : (131072 : Int) < ((mkS T).size : Int) := by rw [HTS.out]; omega
        clear hbig HDD HTS
        gi_wp2_with (refine ⟨trivial, ?_⟩; gi_at_call 8; refine (callsIn_wide.2 (HWK.out _)).mono ?_; rintro e w5 ⟨rfl, hc5⟩; refine Hid.out ?_)
        refine Lib.hid ?_
        have HB5 := Lib.hid (below_no HBW.out (Nat.le_refl _) hc5)
        have HK5 : Hid (w5.heap[D]? = some (.deferred (some []))) := hc5.heap HKD.out (fun x => x)
        clear hc5
        gi_wp2
        refine ⟨by simp, .inl ⟨_, _, rfl, run_takeDeferred HK5.out, ?_⟩⟩
        refine ⟨.bool true, ?_, rfl, HB5.out.trans (belowK_b (w := w) (Nat.le_refl _) _ D _ _ (by omega) HK5.out rfl rfl)⟩
        simp [results, Tryd.f6, go_sem]
      · have i1 : ¬ (131072 : Int) < ((mkS T).size : Int) := by rw [HTS.out]; omega
        have hd := HDD.out (by omega)
        have HR1 := Lib.hid fun w => readall_calls w (mkS T) (by rw [HTS.out]; omega)
        rw [mkS_list, hd] at HR1
        have HR2 := Lib.hid fun w => readall_calls w (mkS (catR l)) (by rw [mkS_size]; omega)
        rw [mkS_list, HRC.out] at HR2
        have hx : ∀ x ∈ l, x.2.1.length ≤ 9223372036854775807 ∧ x.2.2.length ≤ 9223372036854775807 := fun x hx => by
          obtain ⟨kd, p, q⟩ := x
          obtain ⟨-, h2, h3, -⟩ := chk_ok (HOKI.out _ hx)
          have := isP_len h2
          have := isP_len h3
          exact ⟨by show p.length ≤ _; omega, by show q.length ≤ _; omega⟩
        have hn63 : n ≤ 9223372036854775807 := by omega
        have HPR : Hid (∀ W, Rs W (.slice A n c) l → Calls Tryd.prog 16 #[.slice A n c] W fun e w' => e = .returned (.tuple #[.string (mkS (catR l)), .int .i64 0]) ∧ Chg No W w') := fun W h => by
          have := print_calls W A n c l h hn63 hx
          rwa [hpf] at this
        have sg := fun w x y xs ys => spot_guard w x y xs ys
        have se := fun w a b c d => spot_eq w a b c d
        have i3 : ¬ (131072 : Int) < ((mkS (catR l)).size : Int) := by rw [mkS_size]; omega
        clear hbig HDD HTS hd hx hpf HRC hps hTL hTL2 HOK HOKI
        generalize catR l = cl at *
        gi_wp2_with (refine ⟨trivial, ?_⟩; gi_at_call 9; refine (callsIn_wide.2 (HR1.out _)).mono ?_; rintro e w5 ⟨⟨A5, n5, c5, he, ho5⟩, hc5⟩; have he : e = .returned (.tuple #[.slice A5 n5 c5, .agg #[.int .i64 0, .int .i64 0]]) := he; subst he; refine Hid.out ?_)
        refine Lib.hid ?_
        have HX5 := Lib.hid hc5
        have HO5 := Lib.hid (show OwnR w5 W.heap.size (.slice A5 n5 c5) n5 l from ho5).rs
        clear hc5 ho5
        have HP5 := Lib.hid (HPR.out (w5.alloc (.cells #[.int .i64 0, .int .i64 0] 26)) ((HOW1.out.rs.no HX5.out).no ((Chg.refl No w5).alloc _)))
        gi_wp2_with (refine ⟨trivial, ?_⟩; gi_at_call 16; refine (callsIn_wide.2 HP5.out).mono ?_; rintro e w6 ⟨rfl, hc6⟩; refine Hid.out ?_)
        refine Lib.hid ?_
        have HX6 := Lib.hid (((Chg.refl No w5).alloc (.cells #[.int .i64 0, .int .i64 0] 26)).no hc6)
        have HG6 : Hid (w6.heap[w5.heap.size]? = some (.cells #[.int .i64 0, .int .i64 0] 26)) := hc6.heap (heap_alloc_new w5 _) (fun x => x)
        clear hc6 HP5
        gi_wp2_with (refine ⟨trivial, ?_⟩; gi_at_call 9; refine (callsIn_wide.2 (HR2.out _)).mono ?_; rintro e w7 ⟨⟨A7, n7, c7, he, ho7⟩, hc7⟩; have he : e = .returned (.tuple #[.slice A7 n7 c7, .agg #[.int .i64 0, .int .i64 0]]) := he; subst he; refine Hid.out ?_)
        refine Lib.hid ?_
        have HX7 := Lib.hid hc7
        have HO7 := Lib.hid (show OwnR w7 w6.heap.size (.slice A7 n7 c7) n7 l from ho7).rs
        have HX8 := Lib.hid (hc7.alloc (.cells #[.int .i64 0, .int .i64 0] 26))
        have HA8 := Lib.hid ((Chg.refl No w7).alloc (.cells #[.int .i64 0, .int .i64 0] 26))
        have HG8 : Hid ((w7.alloc (.cells #[.int .i64 0, .int .i64 0] 26)).heap[w5.heap.size]? = some (.cells #[.int .i64 0, .int .i64 0] 26)) := HX8.out.heap HG6.out (fun x => x)
        have HH8 : Hid ((w7.alloc (.cells #[.int .i64 0, .int .i64 0] 26)).heap[w7.heap.size]? = some (.cells #[.int .i64 0, .int .i64 0] 26)) := heap_alloc_new w7 _
        clear hc7 ho7
        have HS1 := Lib.hid (rsame_calls (w7.alloc (.cells #[.int .i64 0, .int .i64 0] 26)) A5 n5 c5 l A n c l ((HO5.out.no HX6.out).no HX8.out) (((HOW1.out.rs.no HX5.out).no HX6.out).no HX8.out) (rs_len HO5.out))
        obtain ⟨x0, x1⟩ := heap2 HG8.out
        have y0 : decide True = true := rfl
        gi_wp2_with (refine ⟨trivial, ?_⟩; gi_at_call 11; refine (callsIn_wide.2 HS1.out).mono ?_; rintro e w9 ⟨rfl, hc9⟩; refine Hid.out ?_)
        refine Lib.hid ?_
        have HX9 := Lib.hid hc9
        obtain ⟨z0, z1⟩ := heap2 (hc9.heap HH8.out (fun x => x))
        have HS2 := Lib.hid (rsame_calls w9 A7 n7 c7 l A n c l ((HO7.out.no HA8.out).no hc9) ((((HOW1.out.rs.no HX5.out).no HX6.out).no HX8.out).no hc9) (rs_len HO7.out))
        clear hc9 HS1 x0 x1
        gi_wp2_with (refine ⟨trivial, ?_⟩; gi_at_call 11; refine (callsIn_wide.2 HS2.out).mono ?_; rintro e w10 ⟨rfl, hc10⟩; refine Hid.out ?_)
        refine Lib.hid ?_
        have HX10 := Lib.hid hc10
        clear hc10 HS2 z0 z1
        gi_wp2_with (refine ⟨trivial, ?_⟩; gi_at_call 8; refine (callsIn_wide.2 (HWK.out _)).mono ?_; rintro e w11 ⟨rfl, hc11⟩; refine Hid.out ?_)
        refine Lib.hid ?_
        have HXX := Lib.hid (((((HX5.out.no HX6.out).no HX8.out).no HX9.out).no HX10.out).no hc11)
        clear hc11
        have HB11 := Lib.hid (below_no HBW.out (Nat.le_refl _) HXX.out)
        have HK11 : Hid (w11.heap[D]? = some (.deferred (some []))) := HXX.out.heap HKD.out (fun x => x)
        gi_wp2
        refine ⟨by simp, .inl ⟨_, _, rfl, run_takeDeferred HK11.out, ?_⟩⟩
        refine ⟨.bool true, ?_, rfl, HB11.out.trans (belowK_b (w := w) (Nat.le_refl _) _ D _ _ (by omega) HK11.out rfl rfl)⟩
        simp [results, Tryd.f6, go_sem]
  · have hb : (e0 != 0) = true := bne_iff_ne.2 hz
    have hl : l = [] := HRE.out hz
    subst hl
    have hn0 : n = 0 := HLN.out.symm
    subst hn0
    clear hz HRE
    have HC2a := Lib.hid (HC2.out.alloc (.cells #[.int .i64 e0, .int .i64 q0] 26))
    gi_wp2_with (refine ⟨trivial, ?_⟩; gi_at_call 8; refine (callsIn_wide.2 (HWK.out _)).mono ?_; rintro e w3 ⟨rfl, hc3⟩; refine Hid.out ?_)
    refine Lib.hid ?_
    have HC3 := Lib.hid (HC2a.out.no hc3)
    clear hc3
    gi_wp2
    refine ⟨.bool true, by simp [results, Tryd.f6, go_sem], rfl, HC3.out.below⟩
theorem ruleDress_walk (w : World) (s : ByteArray) (hs : s.size ≤ 1048576) (r : ByteArray) (hr : r.size ≤ 1048576) (bl : Int) (hw : (Lit.int .i64 bl).wf = true) :
    Calls Tryd.prog 6 #[.string s, .string r, .int .i64 bl] w fun e w' => e = .returned (.bool true) ∧ Below w.heap.size w w' :=
  have hb : -9223372036854775808 ≤ bl ∧ bl ≤ 9223372036854775807 := by simpa [Lit.wf, IntKind.min, IntKind.max, IntKind.signed, IntKind.bits] using hw
  callsIn_wide.1 (ruleDress_core 3 (Nat.le_refl _) w s r bl hb.1 hb.2 hs hr)
end Go.Proofs.YtcomcoolmabmgaaDoor

namespace Go.Proofs.YtcomcoolmabmgaaDoor.ruleDress
set_option linter.unnecessarySimpa false
open Go.Proofs.YtcomcoolmabmgaaDoor
open Go.ChangeShapes Go.WideShapes Go.ChangeAt Go.RowKit
open Go.ChangeMaps (open_string shut_string)
set_option linter.unusedVariables false
set_option linter.unusedSimpArgs false

theorem pre_heap {H : Type} {enc : TypeId × Value → H} {w w' : World} {args : Array Value} (hh : w.heap = w'.heap) (h : (Rows.OpenSpec.upto Rows.ruleDressSpec).pre enc Tryd.prog Tryd.f6 Rows.ruleDressUptoRow.domain false w args) : (Rows.OpenSpec.upto Rows.ruleDressSpec).pre enc Tryd.prog Tryd.f6 Rows.ruleDressUptoRow.domain false w' args := by
  obtain ⟨ds, gs, before, h1, h2, h3⟩ := (OpenSpec.pre_some (s := (Rows.OpenSpec.upto Rows.ruleDressSpec)) (k := Rows.uptoSmall) rfl _ _ _ _).1 h
  exact (OpenSpec.pre_some (s := (Rows.OpenSpec.upto Rows.ruleDressSpec)) (k := Rows.uptoSmall) rfl _ _ _ _).2 ⟨ds, gs, before, DataW.Whole.of_heap hh h1, h2, h3⟩
theorem pre_bare {H : Type} {enc : TypeId × Value → H} {w : World} {args : Array Value} (h : (Rows.OpenSpec.upto Rows.ruleDressSpec).pre enc Tryd.prog Tryd.f6 Rows.ruleDressUptoRow.domain false w args) : Rows.ruleDressSpec.pre enc Tryd.prog Tryd.f6 Rows.ruleDressUptoRow.domain false w args := by
  obtain ⟨ds, gs, before, h1, h2, h3⟩ := (OpenSpec.pre_some (s := (Rows.OpenSpec.upto Rows.ruleDressSpec)) (k := Rows.uptoSmall) rfl _ _ _ _).1 h
  exact ⟨ds, gs, before, h1, h2⟩
set_option maxRecDepth 100000 in
theorem lifted (os : Os) (started : os.Started) (H : Type) (enc : TypeId × Value → H) :
    ReturnsInHanded {} Tryd.checked os 6 .any (fun w args => (Rows.ruleDressSpec.pre enc Tryd.prog Tryd.f6 Rows.ruleDressUptoRow.domain false w args ∧ ((Rows.OpenSpec.upto Rows.ruleDressSpec).pre enc Tryd.prog Tryd.f6 Rows.ruleDressUptoRow.domain false w args ∧ laidMetH Tryd.prog Rows.ruleDressUptoRow.laid w)) ∧ sizedMet enc Tryd.prog Tryd.f6 (OpenSpec.ofChange Rows.ruleDressSpec) false w args)
      (Rows.ruleDressSpec.post enc Tryd.prog Tryd.f6 false true false false) := by
  refine returnsInHanded_of_change_and (C := Tryd.checked) (X := fun w args => ((Rows.OpenSpec.upto Rows.ruleDressSpec).pre enc Tryd.prog Tryd.f6 Rows.ruleDressUptoRow.domain false w args ∧ laidMetH Tryd.prog Rows.ruleDressUptoRow.laid w)) (fun _ _ _ hh h => ⟨pre_heap hh h.1, h.2.of_heap hh⟩) own started (by kernel_rfl) Tryd.func6
    (ChangeSpec.witness_shaped (enc := enc) (C := Tryd.checked) (os := os) (X := fun w args => ((Rows.OpenSpec.upto Rows.ruleDressSpec).pre enc Tryd.prog Tryd.f6 Rows.ruleDressUptoRow.domain false w args ∧ laidMetH Tryd.prog Rows.ruleDressUptoRow.laid w)) false (World.laidAll Tryd.prog os Rows.ruleDressUptoRow.laid) #[.string ⟨#[]⟩, .string ⟨#[]⟩, .int .i64 0] 8 (World.laidAll_os _ _ _)
      (World.shaped_of_ZipB (by kernel_rfl) (by kernel_rfl)) (by kernel_rfl) (by kernel_rfl) (by kernel_rfl)
      ⟨(OpenSpec.pre_some (s := (Rows.OpenSpec.upto Rows.ruleDressSpec)) (k := Rows.uptoSmall) rfl _ _ _ _).2 ⟨[.lit (.string []), .lit (.string []), .lit (.int .i64 0)], [], [], DataW.Whole_of_whole (x := ([.lit (.string []), .lit (.string []), .lit (.int .i64 0)], [], [])) (fuel := 8) (by kernel_rfl), rfl, by kernel_rfl⟩, (by rw [MakeChecks.laidMetH_plain _ _ _ (by kernel_rfl)]; exact laidMet_laidAll _ (by kernel_rfl) (by kernel_rfl))⟩) ?_
  intro W base args ds gs before hval0 hW hcnd hsz0 hL _
  have hval : ∀ (j : Nat) t v, Tryd.f6.params[j]? = some t → args[j]? = some v → Value.okWide Tryd.prog W .any base t v := hval0
  have hsz : (DataW.weightsEach Tryd.prog (Tryd.f6.params.toList ++ Rows.ruleDressSpec.plain.varTypes Tryd.prog) (ds ++ gs)).all (· ≤ reachBytes) = true := hsz0
  have hW' := hW
  obtain ⟨p, q, hA0, hV, rfl, hfz, hnd⟩ := hW
  have hA : DataW.TrodAll enc Tryd.prog W 0 (fun _ => true) true Tryd.f6.params.toList args.toList ds p := hA0
  rw [Tryd.params6] at hA hval
  rw [Tryd.params6] at hsz
  obtain ⟨v0, vs0, d0, ds0, p0, q0, hargs, rfl, rfl, h0, r0⟩ := trodAll_cons hA
  obtain ⟨v1, vs1, d1, ds1, p1, q1, rfl, rfl, rfl, h1, r1⟩ := trodAll_cons r0
  obtain ⟨v2, vs2, d2, ds2, p2, q2, rfl, rfl, rfl, h2, r2⟩ := trodAll_cons r1
  obtain ⟨rfl, rfl, rfl⟩ := trodAll_nil r2
  obtain rfl : args = #[v0, v1, v2] := by cases args; simp_all
  obtain ⟨rfl, rfl⟩ := trodVars_none hV
  have k0 := h0
  have lt0 : ∀ x ∈ p0, x.block < W.heap.size := by obtain ⟨m, hm⟩ := k0; exact DataW.trod_lt m _ _ _ hm
  obtain ⟨s0, rfl, hd0, rfl, hs0⟩ := open_string Tryd.underlying9 (hval 0 9 v0 rfl rfl) h0
  have k1 := h1
  have lt1 : ∀ x ∈ p1, x.block < W.heap.size := by obtain ⟨m, hm⟩ := k1; exact DataW.trod_lt m _ _ _ hm
  obtain ⟨s1, rfl, hd1, rfl, hs1⟩ := open_string Tryd.underlying9 (hval 1 9 v1 rfl rfl) h1
  have k2 := h2
  have lt2 : ∀ x ∈ p2, x.block < W.heap.size := by obtain ⟨m, hm⟩ := k2; exact DataW.trod_lt m _ _ _ hm
  obtain ⟨a2, rfl, rfl, rfl, w2⟩ := open_int Tryd.underlying3 (hval 2 3 v2 rfl rfl) h2
  have hbk : (s0.size + 1) + (s1.size + 1) + 0 ≤ 1048576 := by
    obtain ⟨ds', gs', before', hW2, -, hkk⟩ := (OpenSpec.pre_some (s := (Rows.OpenSpec.upto Rows.ruleDressSpec)) (k := Rows.uptoSmall) rfl _ _ _ _).1 hL.1
    obtain ⟨p', q', hA2, hV2, -, -, -⟩ := hW2
    have hA2 : DataW.TrodAll enc Tryd.prog W 0 (fun _ => true) true Tryd.f6.params.toList [.string s0, .string s1, .int .i64 a2] ds' p' := hA2
    rw [Tryd.params6] at hA2
    obtain ⟨w0', vs0', d0', ds0', p0', q0', eq0, rfl, rfl, h0', r0'⟩ := trodAll_cons hA2
    simp only [List.cons.injEq] at eq0
    obtain ⟨rfl, rfl⟩ := eq0
    obtain ⟨w1', vs1', d1', ds1', p1', q1', eq1, rfl, rfl, h1', r1'⟩ := trodAll_cons r0'
    simp only [List.cons.injEq] at eq1
    obtain ⟨rfl, rfl⟩ := eq1
    obtain ⟨w2', vs2', d2', ds2', p2', q2', eq2, rfl, rfl, h2', r2'⟩ := trodAll_cons r1'
    simp only [List.cons.injEq] at eq2
    obtain ⟨rfl, rfl⟩ := eq2
    obtain ⟨-, rfl, -⟩ := trodAll_nil r2'
    have hk := bulks.bound hkk
    simp only [List.cons_append, List.nil_append, Rows.uptoBulkAll] at hk
    obtain ⟨z0, ez0, hz0, -, -⟩ := open_string Tryd.underlying9 (hval 0 9 (.string s0) rfl rfl) h0'
    obtain rfl : s0 = z0 := Value.string.inj ez0
    have y0 := bulks.string_eq (H := H) s0.data.toList
    rw [← hz0, size_list] at y0
    obtain ⟨z1, ez1, hz1, -, -⟩ := open_string Tryd.underlying9 (hval 1 9 (.string s1) rfl rfl) h1'
    obtain rfl : s1 = z1 := Value.string.inj ez1
    have y1 := bulks.string_eq (H := H) s1.data.toList
    rw [← hz1, size_list] at y1
    omega
  have b0 : s0.size ≤ 1048576 := by omega
  have b1 : s1.size ≤ 1048576 := by omega
  clear hA0 hval0
  refine (ruleDress_walk W s0 b0 s1 b1 a2 w2).mono fun e W' ⟨he, bel⟩ => ?_
  subst he
  exact ⟨_, rfl, _, _, _, [], _, [], hW', trodAll_mk1 (shut_bool Tryd.underlying4 _), (trodAll_cons_mk (Below.trod laidOut (by kernel_rfl) (of_decide_eq_true (by kernel_rfl)) k0 bel lt0) (trodAll_cons_mk (Below.trod laidOut (by kernel_rfl) (of_decide_eq_true (by kernel_rfl)) k1 bel lt1) (trodAll_cons_mk (Below.trod laidOut (by kernel_rfl) (of_decide_eq_true (by kernel_rfl)) k2 bel lt2) trodAll_mk0))), rfl, bel.frame _, fun h => by cases h⟩

theorem over : Rows.ruleDressUptoRow.holds Tryd.pinned (Rows.OpenSpec.upto Rows.ruleDressSpec) :=
  OpenClaim.holds_of_cond 6 Tryd.f6 rfl rfl rfl rfl rfl rfl rfl ⟨rfl, rfl, rfl, rfl, rfl⟩ rfl rfl rfl rfl rfl (by kernel_rfl) Tryd.func6 (by kernel_rfl)
    (of_decide_eq_true (by kernel_rfl)) (by unfold Func.isWrapper; first | (rw [if_pos (by decide +kernel)]; kernel_rfl) | (rw [if_neg (by decide +kernel)]; exact ⟨rfl, rfl⟩))
    (fun os started H enc _ F => by
      have h := lifted os started H enc
      have e : (Rows.ruleDressUptoRow.pre enc Tryd.prog Tryd.f6 (Rows.OpenSpec.upto Rows.ruleDressSpec)) = (fun w args => (Rows.ruleDressSpec.pre enc Tryd.prog Tryd.f6 Rows.ruleDressUptoRow.domain false w args ∧ ((Rows.OpenSpec.upto Rows.ruleDressSpec).pre enc Tryd.prog Tryd.f6 Rows.ruleDressUptoRow.domain false w args ∧ laidMetH Tryd.prog Rows.ruleDressUptoRow.laid w)) ∧ sizedMet enc Tryd.prog Tryd.f6 (OpenSpec.ofChange Rows.ruleDressSpec) false w args) := by
        funext w args
        refine propext ⟨fun x => ⟨⟨pre_bare x.1.1, x.1.1, x.1.2⟩, x.2⟩, fun x => ⟨⟨x.1.2.1, x.1.2.2⟩, x.2⟩⟩
      show ReturnsInHanded _ _ _ _ _ (Rows.ruleDressUptoRow.pre enc Tryd.prog Tryd.f6 (Rows.OpenSpec.upto Rows.ruleDressSpec)) _
      rw [e]; exact h)

theorem proved : Rows.RuleDressUptoCardSaid :=
  Claim7.holds_tied_plain_at .later [] [.data, .pinned] true _ true over (fun _ h => by cases h) (by kernel_rfl) (fun _ h => by cases h) ruleDressUpto_row_tie rfl ⟨rfl, rfl⟩ (by kernel_rfl) rfl
    (fun f fn hf hfn => by
      obtain rfl : f = 6 := Option.some.inj ((show Tryd.prog.funcNamed "espalier/espalierlaw13.RuleDress" = some 6 by kernel_rfl).symm.trans hf) |>.symm
      obtain rfl : fn = Tryd.f6 := (Option.some.inj (Tryd.func6.symm.trans hfn)).symm
      exact ⟨by kernel_rfl, fun j t ht => by
        rw [Tryd.params6] at ht
        have hm : t ∈ [9, 9, 3] := by simpa using Array.mem_of_getElem? ht
        have hall : ([9, 9, 3].all fun u => !Tryd.prog.wantsStandIn u) = true := by kernel_rfl
        exact (show Tryd.prog.wantsStandIn t = false by simpa using List.all_eq_true.1 hall t hm)⟩)
    (by kernel_rfl)
#print axioms proved
end Go.Proofs.YtcomcoolmabmgaaDoor.ruleDress


