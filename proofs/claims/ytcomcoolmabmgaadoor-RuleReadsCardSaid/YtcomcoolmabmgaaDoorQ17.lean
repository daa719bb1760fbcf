/-
  The reference's Words.
-/
import Derived.Test.YtcomcoolmabmgaaDoorQ15
namespace Go.Proofs.YtcomcoolmabmgaaDoor
open Go.RowKit
set_option linter.unusedVariables false
set_option linter.unusedSimpArgs false
set_option maxRecDepth 100000

/-- What the reference's Words tells. -/
def RWordsR (base : Nat) (w' : World) (e : Ending) : Nat ⊕ List (List UInt8) → Prop
  | .inl p => e = .returned (.tuple #[.slice none 0 0, .int .i64 (p : Int)])
  | .inr ws => ∃ A n c, e = .returned (.tuple #[.slice A n c, .int .i64 (-1)]) ∧ ws.length = n ∧ w'.ownsRow base 9 1 (.slice A n c) n (strs ws)
theorem endV_neg {a : Nat} {o : Option Nat} (h : endV a o = -1) : o = none := by
  cases o with
  | none => rfl
  | some k => simp only [endV] at h; omega
theorem endV_pos {a q : Nat} {o : Option Nat} (h : endV a o = (q : Int)) : ∃ k, o = some k ∧ a + k = q := by
  cases o with
  | none => simp only [endV] at h; omega
  | some k => exact ⟨k, rfl, by simp only [endV] at h; omega⟩
theorem tw_mem (l : List UInt8) (x : UInt8) (h : x ∈ l.takeWhile (· ≠ 32)) : x ≠ 32 := by
  induction l with
  | nil => simp at h
  | cons b t ih =>
    by_cases hb : b = 32
    · subst hb; simp at h
    · rw [List.takeWhile_cons_of_pos (by simpa using hb)] at h
      rcases List.mem_cons.1 h with rfl | h
      · exact hb
      · exact ih h
theorem tw_lt (l : List UInt8) (i : Nat) (h : i < (l.takeWhile (· ≠ 32)).length) : ∃ h2 : i < l.length, l[i] ≠ 32 := by
  have hp := List.takeWhile_prefix (fun x : UInt8 => decide (x ≠ 32)) (l := l)
  have hl := Nat.lt_of_lt_of_le h hp.length_le
  refine ⟨hl, ?_⟩
  rw [← hp.getElem h]
  exact tw_mem l _ (List.getElem_mem h)
theorem tw_end (l : List UInt8) (h : (l.takeWhile (· ≠ 32)).length < l.length) : l[(l.takeWhile (· ≠ 32)).length] = 32 := by
  induction l with
  | nil => simp at h
  | cons b t ih =>
    by_cases hb : b = 32
    · subst hb; simp
    · have e : (b :: t).takeWhile (· ≠ 32) = b :: t.takeWhile (· ≠ 32) := List.takeWhile_cons_of_pos (by simpa using hb)
      simp only [e, List.length_cons] at h ⊢
      rw [List.getElem_cons_succ]
      exact ih (by omega)

set_option maxHeartbeats 6400000 in
theorem rwords_calls (w : World) (s : ByteArray) (hs : s.size ≤ 8796093022000) :
    Calls Tryd.prog 25 #[.string s] w fun e w' => RWordsR w.heap.size w' e (wordsF 0 [] s.data.toList) ∧ Chg No w w' := by
  have HS := Lib.hid (size_list s)
  go_enter Tryd.func25, Tryd.ntmps25
  go_wp2
  go_loopw [4, 5] (fun v a wr => ∃ (p n : Nat) (A : Option Addr) (c : Nat) (ws : List (List UInt8)), p ≤ s.size ∧ a = .int .i64 (p : Int) ∧ v = .slice A n c ∧ n ≤ p ∧ Hid (wr.ownsRow w.heap.size 9 1 (.slice A n c) n (strs ws)) ∧ Hid (ws.length = n) ∧ w.heap.size ≤ wr.heap.size ∧ Hid (wordsF 0 [] s.data.toList = wordsF p ws (s.data.toList.drop p)) ∧ Hid (Chg No w wr)) (fun _ a _ => s.size - (intOf a).toNat)
  case atStart => exact ⟨0, 0, none, 0, [], Nat.zero_le _, rfl, rfl, Nat.le_refl _, World.ownsRow_nil _ _ _ _, rfl, Nat.le_refl _, rfl, Chg.refl _ _⟩
  case round =>
    obtain ⟨p, n, A, c, ws, hp, rfl, rfl, hn, HO, HL, hsz, HP, HC⟩ := hrel
    by_cases hlt : p < s.size
    · have i1 : (p : Int) < (s.size : Int) := by omega
      obtain ⟨x, hx⟩ : ∃ x, s[p] = x := ⟨_, rfl⟩
      have HD : Hid (s.data.toList.drop p = x :: s.data.toList.drop (p + 1)) := by
        rw [Hid, List.drop_eq_getElem_cons (by rw [HS.out]; omega), ← hx]; rfl
      by_cases h35 : x = 35
      · subst h35
        have HU : Hid (wordsF 0 [] s.data.toList = .inr ws) := by rw [Hid, HP.out, HD.out, words_hash]
        clear HP HD
        go_wp2
        go_ret2
        rw [HU.out]
        exact ⟨⟨A, n, c, rfl, HL.out, HO.out⟩, HC.out⟩
      have hb35 : ((x.toNat : Int) != 35) = true := bne_iff_ne.2 (fun h => h35 (UInt8.toNat_inj.1 (Int.ofNat.inj h)))
      by_cases h32 : x = 32
      · subst h32
        have HP1 : Hid (wordsF 0 [] s.data.toList = wordsF (p + 1) ws (s.data.toList.drop (p + 1))) := by rw [Hid, HP.out, HD.out, words_space]
        clear HP HD
        go_wp2
        go_roundw
        case rel => exact ⟨p + 1, n, A, c, ws, by omega, by go_num, rfl, by omega, HO.out, HL.out, hsz, HP1.out, HC.out⟩
        case measure => simp only [intOf]; omega
      have hb32 : ((x.toNat : Int) == 32) = false := beq_eq_false_iff_ne.2 (fun h => h32 (UInt8.toNat_inj.1 (Int.ofNat.inj h)))
      by_cases h34 : x = 34
      · subst h34
        go_wp2
        go_loopw [6, 7] (fun t cl wr => ∃ (q : Nat) (b : Bool), p + 1 ≤ q ∧ q ≤ s.size + 1 ∧ t = .int .i64 (q : Int) ∧ cl = .bool b ∧ (b = true → q ≤ s.size) ∧ Hid (endV (p + 1) (endL (s.data.toList.drop (p + 1))) = if b then (q : Int) else endV q (endL (s.data.toList.drop q))) ∧ Hid (Chg No w wr) ∧ Hid (wr.ownsRow w.heap.size 9 1 (.slice A n c) n (strs ws)) ∧ w.heap.size ≤ wr.heap.size) (fun t _ _ => s.size + 2 - (intOf t).toNat)
        case atStart => exact ⟨p + 1, false, Nat.le_refl _, by omega, by go_num, rfl, by simp, rfl, HC.out, HO.out, hsz⟩
        case round =>
          clear HC HO hsz
          obtain ⟨q, b, hq1, hq2, rfl, rfl, hbq, HE, HC, HO, hsz⟩ := hrel
          cases b with
          | true =>
            by_cases hqx : q < s.size
            · have hqxx : (q : Int) < (s.size : Int) := by omega
              have hkq := HE.out
              rw [if_pos rfl] at hkq
              obtain ⟨k, hk, hq⟩ := endV_pos hkq
              have hqs : q ≤ s.size := hbq rfl
              have hkk := endL_pos _ _ (Nat.le_refl _) k hk
              have hqp : p + 1 < q := by omega
              have HX : Hid ((s.extract p q).data.toList = 34 :: (s.data.toList.drop (p + 1)).take k) := by
                rw [Hid, ByteArray.data_extract, Array.toList_extract, List.extract_eq_take_drop, HD.out]
                have : q - p = k + 1 := by omega
                rw [this, List.take_succ_cons]
              have HXD : Hid ((s.data.toList.drop (p + 1)).drop k = s.data.toList.drop q) := by rw [Hid, List.drop_drop, hq]
              have hi1 : (p : Int) ≤ (q : Int) := by omega
              have hi2 : (q : Int) ≤ (s.size : Int) := by omega
              have hqi : 0 ≤ (q : Int) := by omega
              have HUC : Hid (∀ w1, Calls Tryd.prog 47 #[.string (s.extract p q)] w1 fun e w' => e = plainlyR (unqF (s.extract p q).data.toList) ∧ Chg No w1 w') := fun w1 => runquote_calls w1 _ (by rw [ByteArray.size_extract]; omega)
              rw [HX.out] at HUC
              have HK := Lib.hid hk
              clear hk hkq HE
              by_cases hsp : (s.data.toList.drop q).head?.getD 32 = 32
              case neg =>
                have HU : Hid (wordsF 0 [] s.data.toList = .inl p) := by rw [Hid, HP.out, HD.out, words_q1 _ _ _ k HK.out (by rw [HXD.out]; exact hsp)]
                obtain ⟨y, hy⟩ : ∃ y, s[q] = y := ⟨_, rfl⟩
                have hy32 : y ≠ 32 := by
                  intro h
                  rw [List.drop_eq_getElem_cons (by rw [HS.out]; exact hqx)] at hsp
                  exact hsp (by show s.data.toList[q] = 32; rw [← h, ← hy]; rfl)
                have hby : ((y.toNat : Int) != 32) = true := bne_iff_ne.2 (fun h => hy32 (UInt8.toNat_inj.1 (Int.ofNat.inj h)))
                clear HP HD HUC HX HXD hsp hy32
                go_wp2
                go_ret2
                rw [HU.out]
                exact ⟨rfl, HC.out⟩
              have HWU : ∀ o, unqF (34 :: (s.data.toList.drop (p + 1)).take k) = o → Hid (wordsF 0 [] s.data.toList = match o with | none => .inl p | some x => wordsF q (ws ++ [x]) (s.data.toList.drop q)) := by
                intro o ho
                cases o with
                | none => rw [Hid, HP.out, HD.out, words_q2 _ _ _ k HK.out (by rw [HXD.out]; exact hsp) ho]
                | some x => rw [Hid, HP.out, HD.out, words_q3 _ _ _ k x HK.out (by rw [HXD.out]; exact hsp) ho, HXD.out, hq]
              generalize unqF (34 :: (s.data.toList.drop (p + 1)).take k) = o at HWU HUC
              have HW := HWU o rfl
              clear HWU HP HX HXD
              obtain ⟨y, hy⟩ : ∃ y, s[q] = y := ⟨_, rfl⟩
              have hy32 : y = 32 := by
                rw [List.drop_eq_getElem_cons (by rw [HS.out]; exact hqx)] at hsp
                rw [← hy]
                exact hsp
              subst hy32
              clear hsp
              go_wp2_with (go_at_call 47; refine Hid.out ?_)
              refine Lib.hid ?_
              refine (HUC.out _).mono ?_
              rintro e w3 ⟨rfl, hc2⟩
              have HC2 : Hid (Chg No w w3) := HC.out.no hc2
              have HO2 : Hid (w3.ownsRow w.heap.size 9 1 (.slice A n c) n (strs ws)) := own_chg HO.out hc2 (fun _ _ x => x)
              have hsz2 : w.heap.size ≤ w3.heap.size := Nat.le_trans hsz hc2.size
              clear hc2 HC HO hsz
              have HC := HC2
              have HO := HO2
              have hsz := hsz2
              clear HC2 HO2 hsz2
              cases o with
              | none =>
                have HU : Hid (wordsF 0 [] s.data.toList = .inl p) := HW
                simp only [plainlyR]
                go_wp2
                go_ret2
                rw [HU.out]
                exact ⟨rfl, HC.out⟩
              | some x =>
                have HP1 : Hid (wordsF 0 [] s.data.toList = wordsF q (ws ++ [x]) (s.data.toList.drop q)) := HW
                simp only [plainlyR]
                go_wp2_with (at_builtin; (refine wpList_app _ rfl (.tmp 78) (.tmp 80) 43 43 rfl w.heap.size 9 (.string ⟨#[]⟩) 1 16 infoStr Tryd.underlying43 rfl (by decide) (.slice A n c) (.slice (some ⟨w3.heap.size, 0, none⟩) 1 1) n 1 (strs ws) [.string (mkS x)] rfl rfl ?own ?src ?b1 ?b2 ?b3 ?_; (case own => exact own_chg HO.out ((Chg.refl No _).alloc _) (fun _ _ x => x)); (case src => exact Src.one Tryd.underlying43 _ rfl); (case b1 => omega); (case b2 => unfold maxLen; omega); (case b3 => simp; omega); intro v' w1 hown hg; refine Hid.out ?_))
                refine Lib.hid ?_
                obtain ⟨A', c', rfl⟩ := own_form hown
                have HO' : Hid (w1.ownsRow w.heap.size 9 1 (.slice A' (n + 1) c') (n + 1) (strs (ws ++ [x]))) := by rw [Hid, strs, List.map_append]; exact hown
                have HL' : Hid ((ws ++ [x]).length = n + 1) := by rw [Hid, List.length_append, HL.out]; rfl
                have HC1 : Hid (Chg No w w1) := ((HC.out).alloc _).grown hg (fun k hk => .inl ((World.ownsRow.lt HO.out) k hk).1)
                clear hown hg
                go_wp2
                go_roundw
                case rel => exact ⟨q, n + 1, A', c', ws ++ [x], by omega, by go_num, rfl, by omega, HO', HL', HC1.out.size, HP1, HC1.out⟩
                case measure => simp only [intOf]; omega
            · have hqxx : ¬ ((q : Int) < (s.size : Int)) := by omega
              have hkq := HE.out
              rw [if_pos rfl] at hkq
              obtain ⟨k, hk, hq⟩ := endV_pos hkq
              have hqs : q ≤ s.size := hbq rfl
              have hkk := endL_pos _ _ (Nat.le_refl _) k hk
              have hqp : p + 1 < q := by omega
              have HX : Hid ((s.extract p q).data.toList = 34 :: (s.data.toList.drop (p + 1)).take k) := by
                rw [Hid, ByteArray.data_extract, Array.toList_extract, List.extract_eq_take_drop, HD.out]
                have : q - p = k + 1 := by omega
                rw [this, List.take_succ_cons]
              have HXD : Hid ((s.data.toList.drop (p + 1)).drop k = s.data.toList.drop q) := by rw [Hid, List.drop_drop, hq]
              have hi1 : (p : Int) ≤ (q : Int) := by omega
              have hi2 : (q : Int) ≤ (s.size : Int) := by omega
              have hqi : 0 ≤ (q : Int) := by omega
              have HUC : Hid (∀ w1, Calls Tryd.prog 47 #[.string (s.extract p q)] w1 fun e w' => e = plainlyR (unqF (s.extract p q).data.toList) ∧ Chg No w1 w') := fun w1 => runquote_calls w1 _ (by rw [ByteArray.size_extract]; omega)
              rw [HX.out] at HUC
              have HK := Lib.hid hk
              clear hk hkq HE
              have hsp : (s.data.toList.drop q).head?.getD 32 = 32 := by rw [List.drop_of_length_le (by rw [HS.out]; omega)]; rfl
              have HWU : ∀ o, unqF (34 :: (s.data.toList.drop (p + 1)).take k) = o → Hid (wordsF 0 [] s.data.toList = match o with | none => .inl p | some x => wordsF q (ws ++ [x]) (s.data.toList.drop q)) := by
                intro o ho
                cases o with
                | none => rw [Hid, HP.out, HD.out, words_q2 _ _ _ k HK.out (by rw [HXD.out]; exact hsp) ho]
                | some x => rw [Hid, HP.out, HD.out, words_q3 _ _ _ k x HK.out (by rw [HXD.out]; exact hsp) ho, HXD.out, hq]
              generalize unqF (34 :: (s.data.toList.drop (p + 1)).take k) = o at HWU HUC
              have HW := HWU o rfl
              clear HWU HP HX HXD
              clear hsp
              go_wp2_with (go_at_call 47; refine Hid.out ?_)
              refine Lib.hid ?_
              refine (HUC.out _).mono ?_
              rintro e w3 ⟨rfl, hc2⟩
              have HC2 : Hid (Chg No w w3) := HC.out.no hc2
              have HO2 : Hid (w3.ownsRow w.heap.size 9 1 (.slice A n c) n (strs ws)) := own_chg HO.out hc2 (fun _ _ x => x)
              have hsz2 : w.heap.size ≤ w3.heap.size := Nat.le_trans hsz hc2.size
              clear hc2 HC HO hsz
              have HC := HC2
              have HO := HO2
              have hsz := hsz2
              clear HC2 HO2 hsz2
              cases o with
              | none =>
                have HU : Hid (wordsF 0 [] s.data.toList = .inl p) := HW
                simp only [plainlyR]
                go_wp2
                go_ret2
                rw [HU.out]
                exact ⟨rfl, HC.out⟩
              | some x =>
                have HP1 : Hid (wordsF 0 [] s.data.toList = wordsF q (ws ++ [x]) (s.data.toList.drop q)) := HW
                simp only [plainlyR]
                go_wp2_with (at_builtin; (refine wpList_app _ rfl (.tmp 78) (.tmp 80) 43 43 rfl w.heap.size 9 (.string ⟨#[]⟩) 1 16 infoStr Tryd.underlying43 rfl (by decide) (.slice A n c) (.slice (some ⟨w3.heap.size, 0, none⟩) 1 1) n 1 (strs ws) [.string (mkS x)] rfl rfl ?own ?src ?b1 ?b2 ?b3 ?_; (case own => exact own_chg HO.out ((Chg.refl No _).alloc _) (fun _ _ x => x)); (case src => exact Src.one Tryd.underlying43 _ rfl); (case b1 => omega); (case b2 => unfold maxLen; omega); (case b3 => simp; omega); intro v' w1 hown hg; refine Hid.out ?_))
                refine Lib.hid ?_
                obtain ⟨A', c', rfl⟩ := own_form hown
                have HO' : Hid (w1.ownsRow w.heap.size 9 1 (.slice A' (n + 1) c') (n + 1) (strs (ws ++ [x]))) := by rw [Hid, strs, List.map_append]; exact hown
                have HL' : Hid ((ws ++ [x]).length = n + 1) := by rw [Hid, List.length_append, HL.out]; rfl
                have HC1 : Hid (Chg No w w1) := ((HC.out).alloc _).grown hg (fun k hk => .inl ((World.ownsRow.lt HO.out) k hk).1)
                clear hown hg
                go_wp2
                go_roundw
                case rel => exact ⟨q, n + 1, A', c', ws ++ [x], by omega, by go_num, rfl, by omega, HO', HL', HC1.out.size, HP1, HC1.out⟩
                case measure => simp only [intOf]; omega
          | false =>
            have HE : Hid (endV (p + 1) (endL (s.data.toList.drop (p + 1))) = endV q (endL (s.data.toList.drop q))) := HE
            by_cases hqx : q < s.size
            · have hqxx : (q : Int) < (s.size : Int) := by omega
              obtain ⟨x, hx⟩ : ∃ x, s[q] = x := ⟨_, rfl⟩
              have HDQ : Hid (s.data.toList.drop q = x :: s.data.toList.drop (q + 1)) := by
                rw [Hid, List.drop_eq_getElem_cons (by rw [HS.out]; omega), ← hx]; rfl
              by_cases h92 : x = 92
              · subst h92
                have HE1 : Hid (endV (p + 1) (endL (s.data.toList.drop (p + 1))) = endV (q + 2) (endL (s.data.toList.drop (q + 2)))) := by
                  rw [Hid, HE.out, HDQ.out]
                  cases hh : s.data.toList.drop (q + 1) with
                  | nil =>
                    have e : s.data.toList.drop (q + 2) = [] := by
                      have := congrArg (List.drop 1) hh
                      rw [List.drop_drop] at this
                      simpa using this
                    rw [e, endL_esc1]
                    rfl
                  | cons d u =>
                    have e : s.data.toList.drop (q + 2) = u := by
                      have := congrArg (List.drop 1) hh
                      rw [List.drop_drop] at this
                      simpa using this
                    rw [e, endL_esc, endV_map]
                clear HE HDQ
                go_wp2
                go_roundw
                case rel => exact ⟨q + 2, false, by omega, by omega, by go_num, rfl, by simp, HE1.out, HC.out, HO.out, hsz⟩
                case measure => simp only [intOf]; omega
              have hb92 : ((x.toNat : Int) == 92) = false := beq_eq_false_iff_ne.2 (fun h => h92 (UInt8.toNat_inj.1 (Int.ofNat.inj h)))
              by_cases h34 : x = 34
              · subst h34
                have HE1 : Hid (endV (p + 1) (endL (s.data.toList.drop (p + 1))) = ((q + 1 : Nat) : Int)) := by
                  rw [Hid, HE.out, HDQ.out, endL_quote]
                  rfl
                clear HE HDQ
                go_wp2
                go_roundw
                case rel => exact ⟨q + 1, true, by omega, by omega, by go_num, rfl, by intro _; omega, HE1.out, HC.out, HO.out, hsz⟩
                case measure => simp only [intOf]; omega
              have hb34 : ((x.toNat : Int) == 34) = false := beq_eq_false_iff_ne.2 (fun h => h34 (UInt8.toNat_inj.1 (Int.ofNat.inj h)))
              have HE1 : Hid (endV (p + 1) (endL (s.data.toList.drop (p + 1))) = endV (q + 1) (endL (s.data.toList.drop (q + 1)))) := by
                rw [Hid, HE.out, HDQ.out, endL_any x _ h92 h34, endV_map]
              clear HE HDQ h92 h34
              go_wp2
              go_roundw
              case rel => exact ⟨q + 1, false, by omega, by omega, by go_num, rfl, by simp, HE1.out, HC.out, HO.out, hsz⟩
              case measure => simp only [intOf]; omega
            · have hqxx : ¬ ((q : Int) < (s.size : Int)) := by omega
              have HE1 : endV (p + 1) (endL (s.data.toList.drop (p + 1))) = -1 := by
                rw [HE.out, List.drop_of_length_le (by rw [HS.out]; omega)]
                rfl
              have HU : Hid (wordsF 0 [] s.data.toList = .inl p) := by rw [Hid, HP.out, HD.out, words_q0 _ _ _ (endV_neg HE1)]
              clear HE HE1 HP HD
              go_wp2
              go_ret2
              rw [HU.out]
              exact ⟨rfl, HC.out⟩
      have hb34 : ((x.toNat : Int) == 34) = false := beq_eq_false_iff_ne.2 (fun h => h34 (UInt8.toNat_inj.1 (Int.ofNat.inj h)))
      obtain ⟨k, hk⟩ : ∃ k, ((s.data.toList.drop (p + 1)).takeWhile (· ≠ 32)).length = k := ⟨_, rfl⟩
      have HPW := Lib.hid (words_plain p ws x (s.data.toList.drop (p + 1)) h35 h32 h34)
      have hkl := tw_len (s.data.toList.drop (p + 1))
      have HLT := Lib.hid (tw_lt (s.data.toList.drop (p + 1)))
      have HEND := Lib.hid (tw_end (s.data.toList.drop (p + 1)))
      simp only [hk] at HPW hkl HLT HEND
      rw [List.drop_drop] at HPW
      rw [List.length_drop, HS.out] at hkl
      have HTW : Hid ((s.data.toList.drop (p + 1)).takeWhile (· ≠ 32) = (s.data.toList.drop (p + 1)).take k) := by rw [Hid, ← hk, tw_drop]
      have HX : Hid ((s.extract p (p + 1 + k)).data.toList = x :: (s.data.toList.drop (p + 1)).takeWhile (· ≠ 32)) := by
        rw [Hid, ByteArray.data_extract, Array.toList_extract, List.extract_eq_take_drop, HD.out, HTW.out]
        have : p + 1 + k - p = k + 1 := by omega
        rw [this, List.take_succ_cons]
      have HPC : Hid (∀ w1, Calls Tryd.prog 48 #[.string (s.extract p (p + 1 + k))] w1 fun e w' => e = .returned (.bool (plainF (s.extract p (p + 1 + k)).data.toList)) ∧ Chg No w1 w') := fun w1 => rplain_calls w1 _ (by rw [ByteArray.size_extract]; omega)
      rw [HX.out] at HPC
      generalize x :: (s.data.toList.drop (p + 1)).takeWhile (· ≠ 32) = W at HPC HPW HX
      have HXS : Hid (s.extract p (p + 1 + k) = mkS W) := by rw [Hid, ← HX.out, mkS_self]
      have HWW : Hid (wordsF 0 [] s.data.toList = if plainF W then wordsF (p + 1 + k) (ws ++ [W]) (s.data.toList.drop (p + 1 + k)) else .inl p) := by rw [Hid, HP.out, HD.out, HPW.out]
      clear HP HPW HTW HD
      generalize hpb : plainF W = pb at HPC HWW
      clear hpb
      go_wp2
      go_loopw [6] (fun t wr => ∃ (q : Nat), p + 1 ≤ q ∧ q ≤ p + 1 + k ∧ t = .int .i64 (q : Int) ∧ Hid (Chg No w wr) ∧ Hid (wr.ownsRow w.heap.size 9 1 (.slice A n c) n (strs ws)) ∧ w.heap.size ≤ wr.heap.size) (fun t _ => s.size + 2 - (intOf t).toNat)
      case atStart => exact ⟨p + 1, Nat.le_refl _, by omega, by go_num, HC.out, HO.out, hsz⟩
      case round =>
        clear HC HO hsz
        obtain ⟨q, hq1, hq2, rfl, HC, HO, hsz⟩ := hrel
        by_cases hqk : q < p + 1 + k
        · have hqs : q < s.size := by omega
          have hqxx : (q : Int) < (s.size : Int) := by omega
          obtain ⟨y, hy⟩ : ∃ y, s[q] = y := ⟨_, rfl⟩
          have hy32 : y ≠ 32 := by
            obtain ⟨h2, h3⟩ := HLT.out (q - (p + 1)) (by omega)
            rw [List.getElem_drop] at h3
            have e : p + 1 + (q - (p + 1)) = q := by omega
            simp only [e] at h3
            rw [← hy]
            exact h3
          have hby : ((y.toNat : Int) != 32) = true := bne_iff_ne.2 (fun h => hy32 (UInt8.toNat_inj.1 (Int.ofNat.inj h)))
          go_wp2
          go_roundw
          case rel => exact ⟨q + 1, by omega, by omega, by go_num, HC.out, HO.out, hsz⟩
          case measure => simp only [intOf]; omega
        · have hqe : q = p + 1 + k := by omega
          have hi1 : (p : Int) ≤ (q : Int) := by omega
          have hi2 : (q : Int) ≤ (s.size : Int) := by omega
          have hqi : 0 ≤ (q : Int) := by omega
          simp only [← hqe] at HPC HX HXS HWW
          have HQE := Lib.hid hqe
          clear hqe
          have hqs2 : q ≤ s.size := by omega
          by_cases hqs : q < s.size
          · have hqxx : (q : Int) < (s.size : Int) := by omega
            obtain ⟨y, hy⟩ : ∃ y, s[q] = y := ⟨_, rfl⟩
            have hy32 : y = 32 := by
              have hqe := HQE.out
              have h3 := HEND.out (by rw [List.length_drop, HS.out]; omega)
              rw [List.getElem_drop] at h3
              simp only [← hqe] at h3
              rw [← hy]
              exact h3
            subst hy32
            clear HEND HLT
            go_wp2_with (go_at_call 48; refine Hid.out ?_)
            refine Lib.hid ?_
            refine (HPC.out _).mono ?_
            rintro e w2 ⟨rfl, hc2⟩
            have HC2 : Hid (Chg No w w2) := HC.out.no hc2
            have HO2 : Hid (w2.ownsRow w.heap.size 9 1 (.slice A n c) n (strs ws)) := own_chg HO.out hc2 (fun _ _ x => x)
            have hsz2 : w.heap.size ≤ w2.heap.size := Nat.le_trans hsz hc2.size
            clear hc2 HC HO hsz
            have HC := HC2
            have HO := HO2
            have hsz := hsz2
            clear HC2 HO2 hsz2
            cases pb with
            | false =>
              have HU : Hid (wordsF 0 [] s.data.toList = .inl p) := by rw [Hid, HWW.out]; rfl
              go_wp2
              go_ret2
              rw [HU.out]
              exact ⟨rfl, HC.out⟩
            | true =>
              have HP1 : Hid (wordsF 0 [] s.data.toList = wordsF q (ws ++ [W]) (s.data.toList.drop q)) := by rw [Hid, HWW.out, if_pos rfl]
              go_wp2_with (at_builtin; (refine wpList_app _ rfl (.tmp 102) (.tmp 107) 43 43 rfl w.heap.size 9 (.string ⟨#[]⟩) 1 16 infoStr Tryd.underlying43 rfl (by decide) (.slice A n c) (.slice (some ⟨w2.heap.size, 0, none⟩) 1 1) n 1 (strs ws) [.string (s.extract p q)] rfl rfl ?own ?src ?b1 ?b2 ?b3 ?_; (case own => exact own_chg HO.out ((Chg.refl No _).alloc _) (fun _ _ x => x)); (case src => exact Src.one Tryd.underlying43 _ rfl); (case b1 => omega); (case b2 => unfold maxLen; omega); (case b3 => simp; omega); intro v' w1 hown hg; refine Hid.out ?_))
              refine Lib.hid ?_
              obtain ⟨A', c', rfl⟩ := own_form hown
              have HO' : Hid (w1.ownsRow w.heap.size 9 1 (.slice A' (n + 1) c') (n + 1) (strs (ws ++ [W]))) := by rw [Hid, strs, List.map_append]; simp only [List.map_cons, List.map_nil, ← HXS.out]; exact hown
              have HL' : Hid ((ws ++ [W]).length = n + 1) := by rw [Hid, List.length_append, HL.out]; rfl
              have HC1 : Hid (Chg No w w1) := ((HC.out).alloc _).grown hg (fun k hk => .inl ((World.ownsRow.lt HO.out) k hk).1)
              clear hown hg
              go_wp2
              go_roundw
              case rel => exact ⟨q, n + 1, A', c', ws ++ [W], by omega, by go_num, rfl, by omega, HO', HL', HC1.out.size, HP1, HC1.out⟩
              case measure => simp only [intOf]; omega
          · have hqxx : ¬ ((q : Int) < (s.size : Int)) := by omega
            clear HEND HLT
            go_wp2_with (go_at_call 48; refine Hid.out ?_)
            refine Lib.hid ?_
            refine (HPC.out _).mono ?_
            rintro e w2 ⟨rfl, hc2⟩
            have HC2 : Hid (Chg No w w2) := HC.out.no hc2
            have HO2 : Hid (w2.ownsRow w.heap.size 9 1 (.slice A n c) n (strs ws)) := own_chg HO.out hc2 (fun _ _ x => x)
            have hsz2 : w.heap.size ≤ w2.heap.size := Nat.le_trans hsz hc2.size
            clear hc2 HC HO hsz
            have HC := HC2
            have HO := HO2
            have hsz := hsz2
            clear HC2 HO2 hsz2
            cases pb with
            | false =>
              have HU : Hid (wordsF 0 [] s.data.toList = .inl p) := by rw [Hid, HWW.out]; rfl
              go_wp2
              go_ret2
              rw [HU.out]
              exact ⟨rfl, HC.out⟩
            | true =>
              have HP1 : Hid (wordsF 0 [] s.data.toList = wordsF q (ws ++ [W]) (s.data.toList.drop q)) := by rw [Hid, HWW.out, if_pos rfl]
              go_wp2_with (at_builtin; (refine wpList_app _ rfl (.tmp 102) (.tmp 107) 43 43 rfl w.heap.size 9 (.string ⟨#[]⟩) 1 16 infoStr Tryd.underlying43 rfl (by decide) (.slice A n c) (.slice (some ⟨w2.heap.size, 0, none⟩) 1 1) n 1 (strs ws) [.string (s.extract p q)] rfl rfl ?own ?src ?b1 ?b2 ?b3 ?_; (case own => exact own_chg HO.out ((Chg.refl No _).alloc _) (fun _ _ x => x)); (case src => exact Src.one Tryd.underlying43 _ rfl); (case b1 => omega); (case b2 => unfold maxLen; omega); (case b3 => simp; omega); intro v' w1 hown hg; refine Hid.out ?_))
              refine Lib.hid ?_
              obtain ⟨A', c', rfl⟩ := own_form hown
              have HO' : Hid (w1.ownsRow w.heap.size 9 1 (.slice A' (n + 1) c') (n + 1) (strs (ws ++ [W]))) := by rw [Hid, strs, List.map_append]; simp only [List.map_cons, List.map_nil, ← HXS.out]; exact hown
              have HL' : Hid ((ws ++ [W]).length = n + 1) := by rw [Hid, List.length_append, HL.out]; rfl
              have HC1 : Hid (Chg No w w1) := ((HC.out).alloc _).grown hg (fun k hk => .inl ((World.ownsRow.lt HO.out) k hk).1)
              clear hown hg
              go_wp2
              go_roundw
              case rel => exact ⟨q, n + 1, A', c', ws ++ [W], by omega, by go_num, rfl, by omega, HO', HL', HC1.out.size, HP1, HC1.out⟩
              case measure => simp only [intOf]; omega
    · have i1 : ¬ ((p : Int) < (s.size : Int)) := by omega
      have HU : Hid (wordsF 0 [] s.data.toList = .inr ws) := by rw [Hid, HP.out, List.drop_of_length_le (by rw [HS.out]; omega), words_nil]
      clear HP
      go_wp2
      go_ret2
      rw [HU.out]
      exact ⟨⟨A, n, c, rfl, HL.out, HO.out⟩, HC.out⟩
end Go.Proofs.YtcomcoolmabmgaaDoor
