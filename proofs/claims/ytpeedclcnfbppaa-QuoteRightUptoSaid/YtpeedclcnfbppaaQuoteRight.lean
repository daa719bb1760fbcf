/-
  The walk of QuoteRight.
-/
import Derived.Test.YtpeedclcnfbppaaQ18
import Derived.Test.YtpeedclcnfbppaaBulk
namespace Go.Proofs.Ytpeedclcnfbppaa
open Go.RowKit
set_option linter.unusedVariables false
set_option linter.unusedSimpArgs false
set_option maxRecDepth 100000

theorem enc_fffd : Utf8.encode (65533 : Int) = ⟨#[239, 191, 189]⟩ := by decide +kernel
theorem quoteF_len : ∀ (n : Nat) (l : List UInt8), l.length ≤ n → ((pcs l).flatMap quoteP).length ≤ 4 * l.length := by
  intro n
  induction n with
  | zero =>
    intro l hl
    have : l = [] := List.eq_nil_of_length_eq_zero (by omega)
    subst this
    simp [pcs_nil]
  | succ n ih =>
    intro l hl
    by_cases h : l = []
    · subst h; simp [pcs_nil]
    · obtain ⟨f1, f2, f3⟩ := decL_facts l h
      have i1 := ih (l.drop (decL l).2) (by rw [List.length_drop]; omega)
      have hk : (l.take (decL l).2).length = (decL l).2 := by rw [List.length_take]; omega
      have i2 := quoteP_len ((decL l).1, brk l, l.take (decL l).2) (by show 1 ≤ (l.take (decL l).2).length; omega)
      rw [pcs_cons l h, List.flatMap_cons, List.length_append]
      rw [List.length_drop] at i1
      simp only at i2
      omega

theorem hold_lit3 (w : World) (a b c : List UInt8) (s : ByteArray) (hs : mkS b = s) (t : TypeId) : Holds (w.alloc (.cells #[.string (mkS a), .string s, .string (mkS c)] t)) (.slice (some ⟨w.heap.size, 0, none⟩) 3 3) 3 (strs [a, b, c]) := by
  subst hs
  refine ⟨_, _, rfl, Nat.le_refl _, by decide, fun _ => ⟨w.heap.size, 0, rfl, fun j u hj => ?_⟩⟩
  rw [Nat.zero_add, World.cell?_alloc_new]
  match j, hj with
  | 0, hj => simpa [strs] using hj
  | 1, hj => simpa [strs] using hj
  | 2, hj => simpa [strs] using hj
  | j + 3, hj => simp [strs] at hj

set_option maxHeartbeats 6400000 in
theorem quoteRight_walk (w : World) (s : ByteArray) (hs : s.size ≤ 1048576) :
    Calls Try.prog 4 #[.string s] w fun e w' => e = .returned (.bool true) ∧ Below w.heap.size w w' := by
  refine Calls.mono (R := fun e w' => e = .returned (.bool true) ∧ Chg No w w') ?_ (fun e w' h => ⟨h.1, h.2.below⟩)
  have HS := Lib.hid (size_list s)
  have hql : (mkS (quoteF s.data.toList)).size ≤ 4 * 1048576 + 2 := by
    rw [mkS_size, quoteF_parts]
    have := quoteF_len _ s.data.toList (Nat.le_refl _)
    rw [HS.out] at this
    simp only [List.length_cons, List.length_append, List.length_nil]
    omega
  obtain ⟨q, hq⟩ : ∃ q, mkS (quoteF s.data.toList) = q := ⟨_, rfl⟩
  have HQ : Hid (q.data.toList = quoteF s.data.toList) := by rw [Hid, ← hq, mkS_list]
  have HGQ : Hid ((pcs q.data.toList).all goodP = true) := by rw [Hid, HQ.out]; exact good_quote _
  have CQ := Lib.hid (fun w => quote_calls w s (by omega))
  rw [hq] at hql CQ
  clear hq
  go_enter Try.func4, Try.ntmps4
  go_wp2_with fail
  refine (wakes_calls _).mono ?_
  rintro e w1 ⟨rfl, hc1⟩
  have HC := Lib.hid hc1
  clear hc1
  go_wp2_with fail
  refine (CQ.out _).mono ?_
  rintro e w2 ⟨rfl, hc2⟩
  have HC2 : Hid (Chg No w w2) := HC.out.no hc2
  have hKw : w.heap.size ≤ w2.heap.size := HC2.out.size
  clear HC hc2
  go_wp2
  go_loopw [4, 5] (fun v a wr => ∃ (pos : Nat) (b : Bool) (m : Nat), pos ≤ s.size ∧ v = .bool b ∧ a = .int .i64 (m : Int) ∧ m ≤ s.size ∧ Hid (wr.heap[w2.heap.size]? = some (.stringIter s pos)) ∧ Hid ((pcs s.data.toList).all okP = (b && (pcs (s.data.toList.drop pos)).all okP)) ∧ Hid (Chg No w wr)) (fun _ _ wr => s.size - wr.iterPos w2.heap.size)
  case atStart => exact ⟨0, true, 0, Nat.zero_le _, rfl, rfl, Nat.zero_le _, World.iter_heap _ _ _, by simp [Hid], HC2.out.alloc _⟩
  case round =>
    clear HC2
    obtain ⟨pos, b, m, hpos, rfl, rfl, hm, HI, HU, HC⟩ := hrel
    by_cases hp : pos < s.size
    · have hl := drop_ne hp
      obtain ⟨f1, f2, f3⟩ := decL_facts _ hl
      have HPC := Lib.hid (pcs_cons _ hl)
      have HONE := Lib.hid (brk_one (s.data.toList.drop pos))
      have hnx := fun ty => Lib.run_next_any_at (P := Try.prog) wr (w2.heap.size) s pos ty HI.out hp
      rw [decode_drop] at hnx
      have HBK : Hid (brk (s.data.toList.drop pos) = ((decL (s.data.toList.drop pos)).1 == 65533 && !([239, 191, 189] : List UInt8).isPrefixOf (s.data.toList.drop pos))) := rfl
      have HPF : Hid (([239, 191, 189] : List UInt8).isPrefixOf (s.data.toList.drop pos) = true → 3 ≤ s.size - pos) := by
        intro h
        have := (List.isPrefixOf_iff_prefix.1 h).length_le
        rw [List.length_drop, size_list] at this
        exact this
      have HX3 : Hid ((((s.extract pos (pos + 3)).toList == [239, 191, 189])) = ([239, 191, 189] : List UInt8).isPrefixOf (s.data.toList.drop pos)) := by rw [Hid, ext3_list, take3_pre]
      rw [List.length_drop, HS.out] at f2
      rw [List.drop_drop] at HPC
      generalize ([239, 191, 189] : List UInt8).isPrefixOf (s.data.toList.drop pos) = pf at *
      generalize decL (s.data.toList.drop pos) = D at *
      obtain ⟨r, k⟩ := D
      simp only at f1 f2 f3 hnx HPC HONE HBK
      have HC1 : Hid (Chg No w (wr.iterAt (w2.heap.size) s (pos + k))) := Chg.iterAt HC.out hKw _ _
      have HI1 : Hid ((wr.iterAt (w2.heap.size) s (pos + k)).heap[w2.heap.size]? = some (.stringIter s (pos + k))) := Lib.iterAt_heap wr (w2.heap.size) s pos (pos + k) HI.out
      have hip : wr.iterPos (w2.heap.size) = pos := iterPos_of HI.out
      have hip2 : (wr.iterAt (w2.heap.size) s (pos + k)).iterPos (w2.heap.size) = pos + k := iterPos_of HI1.out
      generalize brk (s.data.toList.drop pos) = bk at *
      generalize (s.data.toList.drop pos).take k = bs at *
      clear hl
      generalize wr.iterAt (w2.heap.size) s (pos + k) = wn at *
      by_cases h1 : r < 32
      · have HOK : Hid (okP (r, bk, bs) = false) := by simp [Hid, okP, ctl, h1]
        have t1 : (r : Int) < 32 := by omega
        have tf : ((r : Int) == 65533) = false := by rw [beq_eq_false_iff_ne]; omega
        go_wp2
        go_roundw
        case rel => exact ⟨pos + k, false, pos, by omega, rfl, rfl, by omega, HI1.out, by rw [Hid, HU.out, HPC.out, List.all_cons, HOK.out]; first | rfl | (cases b <;> rfl) | simp, HC1.out⟩
        case measure => rw [hip, hip2]; omega
      have t1 : ¬ ((r : Int) < 32) := by omega
      by_cases h2 : 127 ≤ r ∧ r < 160
      · have HOK : Hid (okP (r, bk, bs) = false) := by
          have : ctl r = true := by simp [ctl]; omega
          simp [Hid, okP, this]
        have t2 : (127 : Int) ≤ (r : Int) := by omega
        have t3 : (r : Int) < 160 := by omega
        have tf : ((r : Int) == 65533) = false := by rw [beq_eq_false_iff_ne]; omega
        clear h2
        go_wp2
        go_roundw
        case rel => exact ⟨pos + k, false, pos, by omega, rfl, rfl, by omega, HI1.out, by rw [Hid, HU.out, HPC.out, List.all_cons, HOK.out]; first | rfl | (cases b <;> rfl) | simp, HC1.out⟩
        case measure => rw [hip, hip2]; omega
      have hct : ctl r = false := by simp [ctl]; omega
      have HCT := Lib.hid hct
      clear hct
      by_cases h34 : r = 34
      · subst h34
        have HOK : Hid (okP (34, bk, bs) = false) := by simp [Hid, okP]
        go_wp2
        go_roundw
        case rel => exact ⟨pos + k, false, pos, by omega, rfl, rfl, by omega, HI1.out, by rw [Hid, HU.out, HPC.out, List.all_cons, HOK.out]; first | rfl | (cases b <;> rfl) | simp, HC1.out⟩
        case measure => rw [hip, hip2]; omega
      have t34 : ((r : Int) == 34) = false := by rw [beq_eq_false_iff_ne]; omega
      by_cases h92 : r = 92
      · subst h92
        have HOK : Hid (okP (92, bk, bs) = false) := by simp [Hid, okP]
        go_wp2
        go_roundw
        case rel => exact ⟨pos + k, false, pos, by omega, rfl, rfl, by omega, HI1.out, by rw [Hid, HU.out, HPC.out, List.all_cons, HOK.out]; first | rfl | (cases b <;> rfl) | simp, HC1.out⟩
        case measure => rw [hip, hip2]; omega
      have t92 : ((r : Int) == 92) = false := by rw [beq_eq_false_iff_ne]; omega
      by_cases hf : r = 65533
      · subst hf
        have hbk : bk = !pf := HBK.out
        have HOK : Hid (okP (65533, bk, bs) = pf) := by rw [hbk]; cases pf <;> simp [Hid, okP, ctl]
        clear hbk h2 h34 h92 t34 t92
        cases pf with
        | true =>
          have h3 := HPF.out rfl
          have t5 : ¬ ((s.size : Int) - (pos : Int) < 3) := by omega
          have t6 : (pos : Int) ≤ (pos : Int) + 3 := by omega
          have t7 : (pos : Int) + 3 ≤ (s.size : Int) := by omega
          have t8 : ((s.extract pos (pos + 3)).toList == [239, 191, 189]) = true := HX3.out
          have t9 := enc_fffd
          go_wp2
          go_roundw
          case rel => exact ⟨pos + k, b, pos, by omega, rfl, rfl, by omega, HI1.out, by rw [Hid, HU.out, HPC.out, List.all_cons, HOK.out]; rfl, HC1.out⟩
          case measure => rw [hip, hip2]; omega
        | false =>
          by_cases h3 : s.size - pos < 3
          · have t5 : (s.size : Int) - (pos : Int) < 3 := by omega
            go_wp2
            go_roundw
            case rel => exact ⟨pos + k, false, pos, by omega, rfl, rfl, by omega, HI1.out, by rw [Hid, HU.out, HPC.out, List.all_cons, HOK.out]; first | rfl | (cases b <;> rfl) | simp, HC1.out⟩
            case measure => rw [hip, hip2]; omega
          · have t5 : ¬ ((s.size : Int) - (pos : Int) < 3) := by omega
            have t6 : (pos : Int) ≤ (pos : Int) + 3 := by omega
            have t7 : (pos : Int) + 3 ≤ (s.size : Int) := by omega
            have t8 : ((s.extract pos (pos + 3)).toList == [239, 191, 189]) = false := HX3.out
            have t9 := enc_fffd
            go_wp2
            go_roundw
            case rel => exact ⟨pos + k, false, pos, by omega, rfl, rfl, by omega, HI1.out, by rw [Hid, HU.out, HPC.out, List.all_cons, HOK.out]; first | rfl | (cases b <;> rfl) | simp, HC1.out⟩
            case measure => rw [hip, hip2]; omega
      have tf : ((r : Int) == 65533) = false := by rw [beq_eq_false_iff_ne]; omega
      have hbk : bk = false := by
        rw [HBK.out]
        have : (r == 65533) = false := by rw [beq_eq_false_iff_ne]; exact hf
        rw [this, Bool.false_and]
      have HOK : Hid (okP (r, bk, bs) = true) := by
        rw [Hid, hbk]
        have e1 : (r == 34) = false := by rw [beq_eq_false_iff_ne]; exact h34
        have e2 : (r == 92) = false := by rw [beq_eq_false_iff_ne]; exact h92
        simp only [okP, HCT.out, e1, e2, Bool.or_false, Bool.not_false]
      clear hbk h2 h34 h92 hf
      by_cases h7 : r < 127
      · have t2 : ¬ ((127 : Int) ≤ (r : Int)) := by omega
        go_wp2
        go_roundw
        case rel => exact ⟨pos + k, b, pos, by omega, rfl, rfl, by omega, HI1.out, by rw [Hid, HU.out, HPC.out, List.all_cons, HOK.out]; first | rfl | (cases b <;> rfl) | simp, HC1.out⟩
        case measure => rw [hip, hip2]; omega
      · have t2 : (127 : Int) ≤ (r : Int) := by omega
        have t3 : ¬ ((r : Int) < 160) := by
          have := HCT.out
          simp [ctl] at this
          omega
        go_wp2
        go_roundw
        case rel => exact ⟨pos + k, b, pos, by omega, rfl, rfl, by omega, HI1.out, by rw [Hid, HU.out, HPC.out, List.all_cons, HOK.out]; first | rfl | (cases b <;> rfl) | simp, HC1.out⟩
        case measure => rw [hip, hip2]; omega
    · have hnx := fun ty => Lib.run_next_end_at (P := Try.prog) wr w2.heap.size s pos ty HI.out hp
      have HPL : Hid ((pcs s.data.toList).all okP = b) := by
        rw [Hid, HU.out, List.drop_of_length_le (by rw [HS.out]; omega), pcs_nil]
        simp
      have HSQ := Lib.hid (size_list q)
      clear HU HI hp
      obtain ⟨K, hK⟩ : ∃ K, wr.heap.size = K := ⟨_, rfl⟩
      have hKw2 : w.heap.size ≤ K := by rw [← hK]; exact HC.out.size
      have HIT : Hid ((wr.iter q 0).heap[K]? = some (.stringIter q 0)) := by rw [Hid, ← hK]; exact World.iter_heap _ _ _
      have HC0 : Hid (Chg No w (wr.iter q 0)) := HC.out.alloc _
      clear HC hKw
      have hKw := hKw2
      clear hKw2
      have HSS := HS
      go_wp2
      clear hK hnx
      go_loopw [] (fun wr => ∃ (pos : Nat), pos ≤ q.size ∧ Hid (wr.heap[K]? = some (.stringIter q pos)) ∧ Hid ((pcs (q.data.toList.drop pos)).all goodP = true) ∧ Hid (Chg No w wr)) (fun wr => q.size - wr.iterPos K)
      case atStart => exact ⟨0, Nat.zero_le _, HIT.out, HGQ.out, HC0.out⟩
      case round =>
        clear HC0 HIT
        have HS := HSQ
        obtain ⟨pos, hpos, HI, HG, HC⟩ := hrel
        by_cases hp : pos < q.size
        · have hl := drop_ne hp
          obtain ⟨f1, f2, f3⟩ := decL_facts _ hl
          have HPC := Lib.hid (pcs_cons _ hl)
          have HONE := Lib.hid (brk_one (q.data.toList.drop pos))
          have hnx := fun ty => Lib.run_next_any_at (P := Try.prog) wr (K) q pos ty HI.out hp
          rw [decode_drop] at hnx
          have HBK : Hid (brk (q.data.toList.drop pos) = ((decL (q.data.toList.drop pos)).1 == 65533 && !([239, 191, 189] : List UInt8).isPrefixOf (q.data.toList.drop pos))) := rfl
          have HPF : Hid (([239, 191, 189] : List UInt8).isPrefixOf (q.data.toList.drop pos) = true → 3 ≤ q.size - pos) := by
            intro h
            have := (List.isPrefixOf_iff_prefix.1 h).length_le
            rw [List.length_drop, size_list] at this
            exact this
          have HX3 : Hid ((((q.extract pos (pos + 3)).toList == [239, 191, 189])) = ([239, 191, 189] : List UInt8).isPrefixOf (q.data.toList.drop pos)) := by rw [Hid, ext3_list, take3_pre]
          rw [List.length_drop, HS.out] at f2
          rw [List.drop_drop] at HPC
          generalize ([239, 191, 189] : List UInt8).isPrefixOf (q.data.toList.drop pos) = pf at *
          generalize decL (q.data.toList.drop pos) = D at *
          obtain ⟨r, k⟩ := D
          simp only at f1 f2 f3 hnx HPC HONE HBK
          have HC1 : Hid (Chg No w (wr.iterAt (K) q (pos + k))) := Chg.iterAt HC.out hKw _ _
          have HI1 : Hid ((wr.iterAt (K) q (pos + k)).heap[K]? = some (.stringIter q (pos + k))) := Lib.iterAt_heap wr (K) q pos (pos + k) HI.out
          have hip : wr.iterPos (K) = pos := iterPos_of HI.out
          have hip2 : (wr.iterAt (K) q (pos + k)).iterPos (K) = pos + k := iterPos_of HI1.out
          generalize brk (q.data.toList.drop pos) = bk at *
          generalize (q.data.toList.drop pos).take k = bs at *
          clear hl
          generalize wr.iterAt (K) q (pos + k) = wn at *
          have HG1 := HG.out
          rw [HPC.out, List.all_cons, Bool.and_eq_true_iff] at HG1
          have HG2 : Hid ((pcs (q.data.toList.drop (pos + k))).all goodP = true) := HG1.2
          have HG3 : ctl r = false ∧ bk = false := by
            have := HG1.1
            simp only [goodP, Bool.not_eq_true', Bool.or_eq_false_iff] at this
            exact this
          have t1 : ¬ ((r : Int) < 32) := by
            have := HG3.1
            simp [ctl] at this
            omega
          have h7' : r < 127 ∨ 160 ≤ r := by
            have := HG3.1
            simp [ctl] at this
            omega
          have HBF := Lib.hid HG3.2
          clear HG1 HG3 HG
          by_cases hf : r = 65533
          · subst hf
            have hpf : pf = true := by
              have := HBK.out
              rw [HBF.out] at this
              simpa using this.symm
            subst hpf
            have h3 := HPF.out rfl
            have t5 : ¬ ((q.size : Int) - (pos : Int) < 3) := by omega
            have t6 : (pos : Int) ≤ (pos : Int) + 3 := by omega
            have t7 : (pos : Int) + 3 ≤ (q.size : Int) := by omega
            have t8 : ((q.extract pos (pos + 3)).toList == [239, 191, 189]) = true := HX3.out
            have t9 := enc_fffd
            clear h7'
            go_wp2
            go_roundw
            case rel => exact ⟨pos + k, by omega, HI1.out, HG2.out, HC1.out⟩
            case measure => rw [hip, hip2]; omega
          have tf : ((r : Int) == 65533) = false := by rw [beq_eq_false_iff_ne]; omega
          clear hf
          rcases h7' with h7 | h7
          · have t2 : ¬ ((127 : Int) ≤ (r : Int)) := by omega
            go_wp2
            go_roundw
            case rel => exact ⟨pos + k, by omega, HI1.out, HG2.out, HC1.out⟩
            case measure => rw [hip, hip2]; omega
          · have t2 : (127 : Int) ≤ (r : Int) := by omega
            have t3 : ¬ ((r : Int) < 160) := by omega
            go_wp2
            go_roundw
            case rel => exact ⟨pos + k, by omega, HI1.out, HG2.out, HC1.out⟩
            case measure => rw [hip, hip2]; omega
        · have hnx := fun ty => Lib.run_next_end_at (P := Try.prog) wr K q pos ty HI.out hp
          clear HG HI hp
          have HEQ : (q.toList == ((⟨#[34]⟩ : ByteArray) ++ s ++ (⟨#[34]⟩ : ByteArray)).toList) = b := by
            rw [← HPL.out, ← quote_plain, Lib.toList_data, Lib.toList_data, HQ.out]
            simp [ByteArray.data_append]
          have tm : (m : Int) ≤ (s.size : Int) := by omega
          have CWO : Hid (∀ w, Calls Try.prog 10 #[.string ((⟨#[97, 32]⟩ : ByteArray) ++ q ++ (⟨#[32, 98]⟩ : ByteArray))] w fun e w' => WordsR (w.heap.size + 1) w' e (.inr [[97], s.data.toList, [98]]) ∧ Chg No w w') := by
            intro w
            have h := words_calls w ((⟨#[97, 32]⟩ : ByteArray) ++ q ++ (⟨#[32, 98]⟩ : ByteArray)) (by
              have e : ((⟨#[97, 32]⟩ : ByteArray) ++ q ++ (⟨#[32, 98]⟩ : ByteArray)).size = 2 + q.size + 2 := by simp [ByteArray.size_append]; rfl
              rw [e]; omega)
            have e : ((⟨#[97, 32]⟩ : ByteArray) ++ q ++ (⟨#[32, 98]⟩ : ByteArray)).data.toList = [97, 32] ++ quoteF s.data.toList ++ [32, 98] := by
              rw [← HQ.out]; simp [ByteArray.data_append]
            rw [e, words_right] at h
            exact h
          go_wp2_with fail
          refine (CWO.out _).mono ?_
          rintro e w4 ⟨⟨A, n, c, rfl, hl, ho⟩, hc4⟩
          have HC4 : Hid (Chg No w w4) := HC.out.no hc4
          have HO := Lib.hid ho
          have HL := Lib.hid hl
          clear ho hc4 HC hnx
          have hl : n = 3 := by rw [← hl]; rfl
          subst hl
          go_wp2_with fail
          refine (same_calls _ A _ 3 c 3 3 [[97], s.data.toList, [98]] [[97], s.data.toList, [98]] ?_ rfl ?_ rfl (by decide) (by decide)).mono ?_
          · exact Holds.no (Holds.ofOwn HO.out) (((Chg.refl No _).alloc _).alloc _)
          · have h := hold_lit3 (w4.alloc (.cells #[.int .i64 0, .int .i64 0] 26)) [97] s.data.toList [98] s (mkS_self s) 9
            have e : (w4.alloc (.cells #[.int .i64 0, .int .i64 0] 26)).heap.size = w4.heap.size + 1 := by simp
            rw [e] at h
            exact h
          rw [decide_eq_true rfl]
          rintro e w5 ⟨rfl, hc5⟩
          have HC5 : Hid (Chg No w w5) := ((HC4.out.alloc _).alloc _).no hc5
          clear hc5
          go_wp2_with fail
          refine (wakes_calls _).mono ?_
          rintro e w6 ⟨rfl, hc6⟩
          have HC6 : Hid (Chg No w w6) := HC5.out.no hc6
          clear hc6
          go_wp2
          go_ret
          exact ⟨rfl, HC6.out⟩
end Go.Proofs.Ytpeedclcnfbppaa
