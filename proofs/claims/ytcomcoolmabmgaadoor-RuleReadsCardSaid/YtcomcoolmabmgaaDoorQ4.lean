/-
  Quote.
-/
import Derived.Test.YtcomcoolmabmgaaDoorN3
import Derived.Test.YtcomcoolmabmgaaDoorOwn
import Derived.Test.YtcomcoolmabmgaaDoorQ3
namespace Go.Proofs.YtcomcoolmabmgaaDoor
open Go.RowKit
set_option linter.unusedVariables false
set_option linter.unusedSimpArgs false

/-- How a piece is quoted. -/
def quoteP (p : Nat × Bool × List UInt8) : List UInt8 :=
  if p.1 = 34 ∨ p.1 = 92 then [92, UInt8.ofNat p.1]
  else if p.1 = 10 then [92, 110]
  else if p.2.1 = true ∨ ctl p.1 = true then hexs p.2.2
  else p.2.2
def quoteF (l : List UInt8) : List UInt8 := [34] ++ (pcs l).flatMap quoteP ++ [34]

theorem hexs_len (bs : List UInt8) : (hexs bs).length = 4 * bs.length := by
  induction bs with
  | nil => rfl
  | cons a t ih => simp only [hexs, List.flatMap_cons, List.length_append, List.length_cons, List.length_nil] at *; omega
theorem quoteP_len (p : Nat × Bool × List UInt8) (h : 1 ≤ p.2.2.length) : (quoteP p).length ≤ 4 * p.2.2.length := by
  unfold quoteP
  split
  · simp; omega
  · split
    · simp; omega
    · split
      · rw [hexs_len]; exact Nat.le_refl _
      · omega

theorem OwnB.iterAt {w : World} {base k : Nat} {v : Value} {xs : List UInt8} {s : ByteArray} {pos : Nat} (h : OwnB w base v xs) (hk : w.heap[k]? = some (.stringIter s pos)) (pos' : Nat) : OwnB (w.iterAt k s pos') base v xs :=
  h.chg (Chg.iterOne w k s pos') (fun b hb hx => by
    obtain ⟨c, fz, hc⟩ := h.cells b hb
    have hx : b = k := hx
    subst hx
    rw [hk] at hc
    cases hc)
/-- What is left of a row and of an iterator behind an append. -/
theorem app_left {w wn w1 w' : World} {base k : Nat} {v : Value} {xs : List UInt8} {s : ByteArray} {pos : Nat} (hb : w.heap.size ≤ base) (h0 : Chg No w wn) (hk : wn.heap[k]? = some (.stringIter s pos)) (ho : OwnB wn base v xs) (h1 : Chg No wn w1) (hg : w1.grownBy w' v.ownBlock) :
    Chg No w w' ∧ w'.heap[k]? = some (.stringIter s pos) ∧ wn.heap.size ≤ w'.heap.size := by
  have hc := Chg.rows (base := base) (a := wn) (h1.mono (fun _ _ x => x.elim)) (ho.chg h1 (fun _ _ x => x)) hg
  exact ⟨Chg.rowsNew h0 hc hb, hc.iter hk, hc.size⟩

set_option maxRecDepth 100000 in
set_option maxHeartbeats 3200000 in
theorem quote_calls (w : World) (s : ByteArray) (hs : s.size ≤ 35184372088000) :
    Calls Tryd.prog 19 #[.string s] w fun e w' => e = .returned (.string (mkS (quoteF s.data.toList))) ∧ Chg No w w' := by
  have HS := Lib.hid (size_list s)
  have own0 : Hid (OwnB ((w.alloc (.cells #[.int .u8 34] 5)).iter s 0) w.heap.size (.slice (some ⟨w.heap.size, 0, none⟩) 1 1) [34]) :=
    OwnB.chg (S := No) (OwnB.lit w [34] (by decide)) ((Chg.refl No _).alloc _) (fun _ _ x => x)
  have hit0 : Hid (((w.alloc (.cells #[.int .u8 34] 5)).iter s 0).heap[w.heap.size + 1]? = some (.stringIter s 0)) := by
    have := World.iter_heap (w.alloc (.cells #[.int .u8 34] 5)) s 0
    simpa [Hid] using this
  go_enter Tryd.func19, Tryd.ntmps19
  go_wp2
  go_loopw [3] (fun v wr => ∃ (pos : Nat) (A : Option Addr) (n c : Nat) (ys : List UInt8), pos ≤ s.size ∧ v = .slice A n c ∧ n ≤ 1 + 4 * pos ∧ Hid (wr.heap[w.heap.size + 1]? = some (.stringIter s pos)) ∧ Hid (quoteF s.data.toList = ys ++ ((pcs (s.data.toList.drop pos)).flatMap quoteP ++ [34])) ∧ Hid (ys.length = n) ∧ Hid (OwnB wr w.heap.size (.slice A n c) ys) ∧ w.heap.size ≤ wr.heap.size ∧ Hid (Chg No w wr)) (fun _ wr => s.size - wr.iterPos (w.heap.size + 1))
  case atStart => exact ⟨0, _, 1, 1, [34], Nat.zero_le _, rfl, by omega, hit0.out, by simp [Hid, quoteF], rfl, own0.out, (((Chg.refl No w).alloc (.cells #[.int .u8 34] 5)).alloc (.stringIter s 0)).size, ((Chg.refl No w).alloc _).alloc _⟩
  case round =>
    clear own0 hit0
    obtain ⟨pos, A, n, c, ys, hpos, rfl, hn4, HI, HQ, HL, HO, hsz, HC⟩ := hrel
    by_cases hp : pos < s.size
    · have hl := drop_ne hp
      obtain ⟨f1, f2, f3⟩ := decL_facts _ hl
      have HPC := Lib.hid (pcs_cons _ hl)
      have HEN := Lib.hid (enc_piece _ hl)
      have HONE := Lib.hid (brk_one (s.data.toList.drop pos))
      have hnx := fun ty => Lib.run_next_any_at (P := Tryd.prog) wr (w.heap.size + 1) s pos ty HI.out hp
      rw [decode_drop] at hnx
      have HCT : Hid (∀ w1, Calls Tryd.prog 42 #[.int .i32 (((decL (s.data.toList.drop pos)).1 : Nat) : Int)] w1 fun e w' => e = .returned (.bool (ctl (decL (s.data.toList.drop pos)).1)) ∧ w1 = w') := fun w1 => control_calls w1 _
      have HBR : Hid (∀ w1, Calls Tryd.prog 40 #[.string s, .int .i64 (pos : Int), .int .i32 (((decL (s.data.toList.drop pos)).1 : Nat) : Int)] w1 fun e w' => e = .returned (.bool (brk (s.data.toList.drop pos))) ∧ w1 = w') := fun w1 => broken_calls w1 s (by omega) pos hpos
      rw [List.length_drop, HS.out] at f2
      rw [List.drop_drop] at HPC
      have HTL : Hid (((s.data.toList.drop pos).take (decL (s.data.toList.drop pos)).2).length = (decL (s.data.toList.drop pos)).2) := by
        rw [Hid, List.length_take, List.length_drop, HS.out]; omega
      have HT1 : Hid (((s.extract pos (pos + 1)).data.toList) = (s.data.toList.drop pos).take 1) := by
        rw [Hid, ByteArray.data_extract, Array.toList_extract, List.extract_eq_take_drop]
        congr 1
        omega
      generalize decL (s.data.toList.drop pos) = D at *
      obtain ⟨r, k⟩ := D
      simp only at f1 f2 f3 hnx HCT HBR HPC HEN HTL HONE
      have HC1 : Hid (Chg No w (wr.iterAt (w.heap.size + 1) s (pos + k))) := Chg.iterAt HC.out (by omega) _ _
      have HI1 : Hid ((wr.iterAt (w.heap.size + 1) s (pos + k)).heap[w.heap.size + 1]? = some (.stringIter s (pos + k))) := Lib.iterAt_heap wr (w.heap.size + 1) s pos (pos + k) HI.out
      have HO1 : Hid (OwnB (wr.iterAt (w.heap.size + 1) s (pos + k)) w.heap.size (.slice A n c) ys) := HO.out.iterAt HI.out _
      have hsz1 : w.heap.size ≤ (wr.iterAt (w.heap.size + 1) s (pos + k)).heap.size := by rw [Lib.iterAt_size]; exact hsz
      have hip : wr.iterPos (w.heap.size + 1) = pos := iterPos_of HI.out
      generalize brk (s.data.toList.drop pos) = bk at *
      generalize hbs : (s.data.toList.drop pos).take k = bs at *
      have HBS := Lib.hid hbs
      clear hl hbs
      generalize wr.iterAt (w.heap.size + 1) s (pos + k) = wn at *
      have HCL : Hid (∀ (w' : World) (v' : Value) (news : List UInt8), quoteP (r, bk, bs) = news → OwnB w' w.heap.size v' (ys ++ news) → Chg No w w' → w'.heap[w.heap.size + 1]? = some (.stringIter s (pos + k)) → wn.heap.size ≤ w'.heap.size →
          (∃ (pos : Nat) (A : Option Addr) (n c : Nat) (ys : List UInt8), pos ≤ s.size ∧ v' = .slice A n c ∧ n ≤ 1 + 4 * pos ∧ Hid (w'.heap[w.heap.size + 1]? = some (.stringIter s pos)) ∧ Hid (quoteF s.data.toList = ys ++ ((pcs (s.data.toList.drop pos)).flatMap quoteP ++ [34])) ∧ Hid (ys.length = n) ∧ Hid (OwnB w' w.heap.size (.slice A n c) ys) ∧ w.heap.size ≤ w'.heap.size ∧ Hid (Chg No w w')) ∧ s.size - w'.iterPos (w.heap.size + 1) < s.size - wr.iterPos (w.heap.size + 1)) := by
        intro w' v' news hq ho hc hi hz
        obtain ⟨A', c', rfl, -, -⟩ := ho.bytes.form
        have hlen := quoteP_len (r, bk, bs) (by show 1 ≤ bs.length; rw [HTL.out]; exact f1)
        rw [hq] at hlen
        have hlen : news.length ≤ 4 * k := by rw [← HTL.out]; exact hlen
        refine ⟨⟨pos + k, A', _, c', ys ++ news, by omega, rfl, ?_, hi, ?_, rfl, ho, by omega, hc⟩, ?_⟩
        · have := HL.out; rw [List.length_append]; omega
        · rw [Hid, HQ.out, HPC.out, List.flatMap_cons, hq]; simp
        · rw [hip, iterPos_of hi]; omega
      by_cases h34 : r = 34
      · subst h34
        go_wp2_with (first | (go_at_call 42; refine (HCT.out _).mono ?_; rintro e w' ⟨rfl, rfl⟩) | (go_at_call 40; refine (HBR.out _).mono ?_; rintro e w' ⟨rfl, rfl⟩) | (at_builtin; (refine wpList_app _ rfl (.tmp 24) (.tmp 27) 57 57 rfl w.heap.size 5 (.int .u8 0) 1 1 infoU8 Tryd.underlying57 rfl (by decide) (.slice A n c) (.slice (some ⟨wn.heap.size, 0, none⟩) 2 2) n 2 (u8s ys) (u8s [92, 34]) rfl rfl ?own ?src ?b1 ?b2 ?b3 ?_; (case own => exact OwnB.n (HO1.out.alloc _) HL.out); (case src => exact Src.two Tryd.underlying57 _ _ _ (Chg.refl No _) rfl (u8s_one _)); (case b1 => omega); (case b2 => unfold maxLen; omega); (case b3 => simp; omega); intro v' w' hown hg; refine Hid.out ?_)))
        refine Lib.hid ?_
        obtain ⟨a1, a2, a3⟩ := app_left (Nat.le_refl _) HC1.out HI1.out HO1.out ((Chg.refl No wn).alloc _) hg
        have HX := Lib.hid (HCL.out w' v' [92, 34] (by simp [quoteP]) (.of hown (by rw [u8s_append])) a1 a2 a3)
        clear hown hg a1 a2 a3
        go_wp2
        go_roundw
        case rel => exact HX.out.1
        case measure => exact HX.out.2
      · have hb34 : ((r : Int) == 34) = false := by simp; omega
        by_cases h92 : r = 92
        · subst h92
          go_wp2_with (first | (go_at_call 42; refine (HCT.out _).mono ?_; rintro e w' ⟨rfl, rfl⟩) | (go_at_call 40; refine (HBR.out _).mono ?_; rintro e w' ⟨rfl, rfl⟩) | (at_builtin; (refine wpList_app _ rfl (.tmp 24) (.tmp 27) 57 57 rfl w.heap.size 5 (.int .u8 0) 1 1 infoU8 Tryd.underlying57 rfl (by decide) (.slice A n c) (.slice (some ⟨wn.heap.size, 0, none⟩) 2 2) n 2 (u8s ys) (u8s [92, 92]) rfl rfl ?own ?src ?b1 ?b2 ?b3 ?_; (case own => exact OwnB.n (HO1.out.alloc _) HL.out); (case src => exact Src.two Tryd.underlying57 _ _ _ (Chg.refl No _) rfl (u8s_one _)); (case b1 => omega); (case b2 => unfold maxLen; omega); (case b3 => simp; omega); intro v' w' hown hg; refine Hid.out ?_)))
          refine Lib.hid ?_
          obtain ⟨a1, a2, a3⟩ := app_left (Nat.le_refl _) HC1.out HI1.out HO1.out ((Chg.refl No wn).alloc _) hg
          have HX := Lib.hid (HCL.out w' v' [92, 92] (by simp [quoteP]) (.of hown (by rw [u8s_append])) a1 a2 a3)
          clear hown hg a1 a2 a3
          go_wp2
          go_roundw
          case rel => exact HX.out.1
          case measure => exact HX.out.2
        · have hb92 : ((r : Int) == 92) = false := by simp; omega
          by_cases h10 : r = 10
          · subst h10
            go_wp2_with (first | (go_at_call 42; refine (HCT.out _).mono ?_; rintro e w' ⟨rfl, rfl⟩) | (go_at_call 40; refine (HBR.out _).mono ?_; rintro e w' ⟨rfl, rfl⟩) | (at_builtin; (refine wpList_app _ rfl (.tmp 32) (.tmp 33) 57 57 rfl w.heap.size 5 (.int .u8 0) 1 1 infoU8 Tryd.underlying57 rfl (by decide) (.slice A n c) (.slice (some ⟨wn.heap.size, 0, none⟩) 2 2) n 2 (u8s ys) (u8s [92, 110]) rfl rfl ?own ?src ?b1 ?b2 ?b3 ?_; (case own => exact OwnB.n (HO1.out.alloc _) HL.out); (case src => exact Src.two Tryd.underlying57 _ _ _ (Chg.refl No _) rfl (u8s_one _)); (case b1 => omega); (case b2 => unfold maxLen; omega); (case b3 => simp; omega); intro v' w' hown hg; refine Hid.out ?_)))
            refine Lib.hid ?_
            obtain ⟨a1, a2, a3⟩ := app_left (Nat.le_refl _) HC1.out HI1.out HO1.out ((Chg.refl No wn).alloc _) hg
            have HX := Lib.hid (HCL.out w' v' [92, 110] (by simp [quoteP]) (.of hown (by rw [u8s_append])) a1 a2 a3)
            clear hown hg a1 a2 a3
            go_wp2
            go_roundw
            case rel => exact HX.out.1
            case measure => exact HX.out.2
          · have hb10 : ((r : Int) == 10) = false := by simp; omega
            cases bk with
            | true =>
              have h1 : k = 1 := by have := HONE.out rfl; simp only [Prod.mk.injEq] at this; exact this.2
              have HK := Lib.hid h1
              clear h1
              have hes : (s.extract pos (pos + 1)).size ≤ 1 := by rw [← size_list, HT1.out, List.length_take]; omega
              have hpi : (pos : Int) + 1 ≤ (s.size : Int) := by omega
              have HNW : Hid (quoteP (r, true, bs) = hexs (s.extract pos (pos + 1)).data.toList) := by
                rw [Hid, HT1.out, ← HK.out, HBS.out]
                simp [quoteP, h34, h92, h10]
              clear h34 h92 h10
              go_wp2_with (first | (go_at_call 42; refine (HCT.out _).mono ?_; rintro e w' ⟨rfl, rfl⟩) | (go_at_call 40; refine (HBR.out _).mono ?_; rintro e w' ⟨rfl, rfl⟩) | (go_at_call 41; refine Hid.out ?_))
              refine Lib.hid ?_
              refine (byhex_calls _ w.heap.size A n c ys HO1.out HL.out hsz1 (s.extract pos (pos + 1)) (by omega)).mono ?_
              rintro e w' ⟨v', rfl, ho, hc⟩
              have HX := Lib.hid (HCL.out w' v' _ HNW.out ho (Chg.rowsNew HC1.out hc (Nat.le_refl _)) (hc.iter HI1.out) hc.size)
              clear ho hc
              go_wp2
              go_roundw
              case rel => exact HX.out.1
              case measure => exact HX.out.2
            | false =>
              have hE : Utf8.encode (r : Int) = mkS bs := HEN.out rfl
              have hm1 : (mkS bs).size ≤ k := by rw [mkS_size, HTL.out]; exact Nat.le_refl _
              generalize hct : ctl r = ct at *
              have HCTR := Lib.hid hct
              clear hct
              cases ct with
              | true =>
                have HNW : Hid (quoteP (r, false, bs) = hexs (mkS bs).data.toList) := by
                  rw [Hid, mkS_list]
                  simp [quoteP, h34, h92, h10, HCTR.out]
                clear h34 h92 h10
                go_wp2_with (first | (go_at_call 42; refine (HCT.out _).mono ?_; rintro e w' ⟨rfl, rfl⟩) | (go_at_call 40; refine (HBR.out _).mono ?_; rintro e w' ⟨rfl, rfl⟩) | (go_at_call 41; refine Hid.out ?_))
                refine Lib.hid ?_
                refine (byhex_calls _ w.heap.size A n c ys HO1.out HL.out hsz1 (mkS bs) (by omega)).mono ?_
                rintro e w' ⟨v', rfl, ho, hc⟩
                have HX := Lib.hid (HCL.out w' v' _ HNW.out ho (Chg.rowsNew HC1.out hc (Nat.le_refl _)) (hc.iter HI1.out) hc.size)
                clear ho hc
                go_wp2
                go_roundw
                case rel => exact HX.out.1
                case measure => exact HX.out.2
              | false =>
                have HNW : Hid (quoteP (r, false, bs) = (mkS bs).data.toList) := by
                  rw [Hid, mkS_list]
                  simp [quoteP, h34, h92, h10, HCTR.out]
                clear h34 h92 h10
                go_wp2_with (first | (go_at_call 42; refine (HCT.out _).mono ?_; rintro e w' ⟨rfl, rfl⟩) | (go_at_call 40; refine (HBR.out _).mono ?_; rintro e w' ⟨rfl, rfl⟩) | (at_builtin; (refine wpList_app _ rfl (.tmp 13) (.tmp 15) 57 9 rfl w.heap.size 5 (.int .u8 0) 1 1 infoU8 Tryd.underlying57 rfl (by decide) (.slice A n c) (.string (mkS bs)) n (mkS bs).size (u8s ys) (u8s (mkS bs).data.toList) rfl rfl ?own ?src ?b1 ?b2 ?b3 ?_; (case own => exact OwnB.n HO1.out HL.out); (case src => exact Src.ofText Tryd.underlying9 (mkS bs)); (case b1 => omega); (case b2 => unfold maxLen; omega); (case b3 => omega); intro v' w' hown hg; refine Hid.out ?_)))
                refine Lib.hid ?_
                obtain ⟨a1, a2, a3⟩ := app_left (Nat.le_refl _) HC1.out HI1.out HO1.out (Chg.refl No wn) hg
                have HX := Lib.hid (HCL.out w' v' _ HNW.out (.of hown (by rw [u8s_append])) a1 a2 a3)
                clear hown hg a1 a2 a3
                go_wp2
                go_roundw
                case rel => exact HX.out.1
                case measure => exact HX.out.2
    · have hnx := fun ty => Lib.run_next_end_at (P := Tryd.prog) wr (w.heap.size + 1) s pos ty HI.out hp
      have HE : Hid (s.data.toList.drop pos = []) := by rw [Hid]; exact List.drop_of_length_le (by rw [HS.out]; omega)
      have hn : n ≤ 1 + 4 * s.size := by omega
      go_wp2_with (at_builtin; (refine wpList_app _ rfl (.tmp 54) (.tmp 55) 57 57 rfl w.heap.size 5 (.int .u8 0) 1 1 infoU8 Tryd.underlying57 rfl (by decide) (.slice A n c) (.slice (some ⟨wr.heap.size, 0, none⟩) 1 1) n 1 (u8s ys) [.int .u8 34] rfl rfl ?own ?src ?b1 ?b2 ?b3 ?_; (case own => exact OwnB.n (HO.out.alloc _) HL.out); (case src => exact Src.one Tryd.underlying57 _ rfl); (case b1 => omega); (case b2 => unfold maxLen; omega); (case b3 => simp; omega); intro v' w' hown hg; refine Hid.out ?_))
      refine Lib.hid ?_
      have hown' : OwnB w' w.heap.size v' (ys ++ [34]) := .of hown (by rw [u8s_append]; rfl)
      obtain ⟨A', n', c', rfl, HL', HO'⟩ := hown'.form
      have hcv := HO'.out.bytes.text (P := Tryd.prog) Tryd.underlying57 Tryd.underlying5 Tryd.underlying9
      have HCW : Hid (Chg No w w') := (HC.out.alloc _).grown hg (fun k hk => .inl (HO.out.block k hk).1)
      clear hown hown' hg
      go_wp2
      go_ret
      exact ⟨by rw [HQ.out, HE.out]; rfl, HCW.out⟩
end Go.Proofs.YtcomcoolmabmgaaDoor
