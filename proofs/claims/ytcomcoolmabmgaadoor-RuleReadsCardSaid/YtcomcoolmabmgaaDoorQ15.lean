/-
  Words.
-/
import Derived.Test.YtcomcoolmabmgaaDoorQ14
import Derived.Test.YtcomcoolmabmgaaDoorGoto
namespace Go.Proofs.YtcomcoolmabmgaaDoor
open Go.RowKit
set_option linter.unusedVariables false
set_option linter.unusedSimpArgs false
set_option maxRecDepth 100000

/-- What holds at every jump of Words. -/
def woJ (w : World) (s : ByteArray) (a' : Act) (w' : World) : Prop := Chg No w w' ∧ ∃ (p n : Nat) (ws : List (List UInt8)) (A : Option Addr) (c : Nat) (u : Nat → Value), a' = { tmps := #[.string s, u 1, .slice none 0 0, .pointer (some ⟨w.heap.size, 0, none⟩), .slice A n c, .int .i64 (p : Int), u 6, u 7, u 8, u 9, u 10, u 11, u 12, u 13, u 14, u 15, u 16, u 17, u 18, u 19, u 20, u 21, u 22, u 23, u 24, u 25, u 26, u 27, u 28, u 29, u 30, u 31, u 32, u 33, u 34, u 35, u 36, u 37, u 38, u 39, u 40, u 41, u 42, u 43, u 44, u 45, u 46, u 47, u 48, u 49, u 50, u 51, u 52, u 53, u 54, u 55, u 56, u 57, u 58, u 59, u 60, u 61, u 62, u 63, u 64, u 65, u 66, u 67, u 68, u 69, u 70, u 71, u 72, u 73, u 74, u 75, u 76, u 77, u 78, u 79, u 80, u 81, u 82, u 83, u 84, u 85, u 86, u 87, u 88, u 89, u 90, u 91, u 92, u 93, u 94, u 95, u 96, u 97, u 98, u 99, u 100, u 101, u 102], defers := [] } ∧ Hid (w'.heap[w.heap.size]? = some (.cells #[.int .i64 0, .int .i64 0] 26 (0, 0))) ∧ Hid (w'.ownsRow (w.heap.size + 1) 9 1 (.slice A n c) n (strs ws)) ∧ Hid (ws.length = n) ∧ n ≤ p ∧ p ≤ s.size ∧ Hid (wordsF 0 [] s.data.toList = wordsF p ws (s.data.toList.drop p))
def woM (s : ByteArray) (a' : Act) (w' : World) : Nat := s.size + 1 - (match a'.tmps.getD 5 undef with | .int _ q => q.toNat | _ => 0)
theorem woJ_intro {w w' : World} {s : ByteArray} (a' : Act) (hc : Chg No w w') (p n : Nat) (ws : List (List UInt8)) (A : Option Addr) (c : Nat) (hN : a'.tmps.size = 103) (hd : a'.defers = [])
    (h0 : a'.tmps.getD 0 undef = .string s) (h2 : a'.tmps.getD 2 undef = .slice none 0 0) (h3 : a'.tmps.getD 3 undef = .pointer (some ⟨w.heap.size, 0, none⟩)) (h4 : a'.tmps.getD 4 undef = .slice A n c) (h5 : a'.tmps.getD 5 undef = .int .i64 (p : Int))
    (HR : Hid (w'.heap[w.heap.size]? = some (.cells #[.int .i64 0, .int .i64 0] 26 (0, 0)))) (HO : Hid (w'.ownsRow (w.heap.size + 1) 9 1 (.slice A n c) n (strs ws))) (HL : Hid (ws.length = n)) (hn : n ≤ p) (hp : p ≤ s.size) (HP : Hid (wordsF 0 [] s.data.toList = wordsF p ws (s.data.toList.drop p))) : woJ w s a' w' := by
  refine ⟨hc, p, n, ws, A, c, fun i => a'.tmps.getD i undef, ?_, HR, HO, HL, hn, hp, HP⟩
  refine (act_range a' 103 hN hd).trans ?_
  rw [← h0, ← h2, ← h3, ← h4, ← h5]
  rfl
/-- What Words tells. -/
def WordsR (base : Nat) (w' : World) (e : Ending) : Nat ⊕ List (List UInt8) → Prop
  | .inl p => e = .returned (.tuple #[.slice none 0 0, .agg #[.int .i64 150, .int .i64 (p : Int)]])
  | .inr ws => ∃ A n c, e = .returned (.tuple #[.slice A n c, .agg #[.int .i64 0, .int .i64 0]]) ∧ ws.length = n ∧ w'.ownsRow base 9 1 (.slice A n c) n (strs ws)

theorem indexByte_tw (l : List UInt8) : Lib.indexByte l 32 = if (l.takeWhile (· ≠ 32)).length = l.length then -1 else ((l.takeWhile (· ≠ 32)).length : Int) := by
  induction l with
  | nil => rfl
  | cons b t ih =>
    unfold Lib.indexByte
    by_cases h : b = 32
    · subst h; simp
    · rw [if_neg (by simpa using h), List.takeWhile_cons_of_pos (by simpa using h), ih]
      simp only [List.length_cons]
      split <;> split <;> split <;> first | rfl | omega | (rename_i h1 h2 h3; simp at h2; omega) | (rename_i h1 h2; simp at h2; omega) | (simp_all; try omega)
theorem tw_drop (l : List UInt8) : l.take (l.takeWhile (· ≠ 32)).length = l.takeWhile (· ≠ 32) := by
  exact (List.prefix_iff_eq_take.1 (List.takeWhile_prefix _)).symm
theorem tw_len (l : List UInt8) : (l.takeWhile (· ≠ 32)).length ≤ l.length := (List.takeWhile_prefix _).length_le
theorem words_nil (p : Nat) (acc : List (List UInt8)) : wordsF p acc [] = .inr acc := by rw [wordsF]
theorem words_hash (p : Nat) (acc : List (List UInt8)) (t : List UInt8) : wordsF p acc (35 :: t) = .inr acc := by rw [wordsF, if_pos rfl]
theorem words_space (p : Nat) (acc : List (List UInt8)) (t : List UInt8) : wordsF p acc (32 :: t) = wordsF (p + 1) acc t := by rw [wordsF, if_neg (by decide), if_pos rfl]
theorem words_q0 (p : Nat) (acc : List (List UInt8)) (t : List UInt8) (h : endL t = none) : wordsF p acc (34 :: t) = .inl p := by
  rw [wordsF, if_neg (by decide), if_neg (by decide), if_pos rfl]; simp only [h]
theorem words_q1 (p : Nat) (acc : List (List UInt8)) (t : List UInt8) (k : Nat) (h : endL t = some k) (h2 : (t.drop k).head?.getD 32 ≠ 32) : wordsF p acc (34 :: t) = .inl p := by
  rw [wordsF, if_neg (by decide), if_neg (by decide), if_pos rfl]; simp only [h]; rw [if_pos h2]
theorem words_q2 (p : Nat) (acc : List (List UInt8)) (t : List UInt8) (k : Nat) (h : endL t = some k) (h2 : (t.drop k).head?.getD 32 = 32) (h3 : unqF (34 :: t.take k) = none) : wordsF p acc (34 :: t) = .inl p := by
  rw [wordsF, if_neg (by decide), if_neg (by decide), if_pos rfl]; simp only [h]; rw [if_neg (by simpa using h2)]; simp only [h3]
theorem words_q3 (p : Nat) (acc : List (List UInt8)) (t : List UInt8) (k : Nat) (x : List UInt8) (h : endL t = some k) (h2 : (t.drop k).head?.getD 32 = 32) (h3 : unqF (34 :: t.take k) = some x) : wordsF p acc (34 :: t) = wordsF (p + 1 + k) (acc ++ [x]) (t.drop k) := by
  rw [wordsF, if_neg (by decide), if_neg (by decide), if_pos rfl]; simp only [h]; rw [if_neg (by simpa using h2)]; simp only [h3]
theorem words_plain (p : Nat) (acc : List (List UInt8)) (c : UInt8) (t : List UInt8) (h1 : c ≠ 35) (h2 : c ≠ 32) (h3 : c ≠ 34) : wordsF p acc (c :: t) = if plainF (c :: t.takeWhile (· ≠ 32)) then wordsF (p + 1 + (t.takeWhile (· ≠ 32)).length) (acc ++ [c :: t.takeWhile (· ≠ 32)]) (t.drop (t.takeWhile (· ≠ 32)).length) else .inl p := by
  rw [wordsF, if_neg h1, if_neg h2, if_neg h3]

set_option maxHeartbeats 6400000 in
theorem words_calls (w : World) (s : ByteArray) (hs : s.size ≤ 8796093022000) :
    Calls Tryd.prog 18 #[.string s] w fun e w' => WordsR (w.heap.size + 1) w' e (wordsF 0 [] s.data.toList) ∧ Chg No w w' := by
  have HS := Lib.hid (size_list s)
  go_enter Tryd.func18, Tryd.ntmps18
  go_wp2
  refine wp_scope_jumps2 0 (woJ w s) (woM s) rfl ?_ ?_
  · rintro a' w' ⟨HC, p, n, ws, A, c, u, rfl, HR, HO, HL, hn, hp, HP⟩
    have HC := Lib.hid HC
    have hsz : w.heap.size < w'.heap.size := by
      rcases Nat.lt_or_ge w.heap.size w'.heap.size with h | h
      · exact h
      · have := HR.out; simp [Array.getElem?_eq_none h] at this
    obtain ⟨r0, r1, r2, r3⟩ := cells2 HR.out
    rcases Nat.lt_or_ge p s.size with hlt | hge
    · have hb1 : ((p : Int) == (s.size : Int)) = false := by rw [beq_eq_false_iff_ne]; omega
      have hd1 : ((p : Int) = (s.size : Int)) = False := eq_false (by omega)
      obtain ⟨x, hx⟩ : ∃ x, s[p] = x := ⟨_, rfl⟩
      have HD : Hid (s.data.toList.drop p = x :: s.data.toList.drop (p + 1)) := by
        rw [Hid, List.drop_eq_getElem_cons (by rw [HS.out]; omega), ← hx]; rfl
      by_cases h35 : x = 35
      · subst h35
        have HU : Hid (wordsF 0 [] s.data.toList = .inr ws) := by rw [Hid, HP.out, HD.out, words_hash]
        clear HP HD
        go_wp2
        all_goals (try simp only [Exit.jump])
        refine bodyPost_ret (v := .tuple #[.slice A n c, .agg #[.int .i64 0, .int .i64 0]]) (by simp [results, Tryd.results18, go_sem, r0, r1, r2, r3]) rfl ?_
        rw [HU.out]
        exact ⟨⟨A, n, c, rfl, HL.out, own_chg HO.out ((Chg.put _ _ _ _).trans (Chg.put _ _ _ _) (fun _ _ h => h)) (fun b hb hx => by have := (World.ownsRow.lt HO.out) b hb; have : b = w.heap.size := hx; omega)⟩, HC.out.trans (S' := One w.heap.size) (((Chg.put _ _ _ _).trans (Chg.put _ _ _ _) (fun _ _ h => h))) (fun i hi hx => by have : i = w.heap.size := hx; omega)⟩
      have hb35 : ((x.toNat : Int) == 35) = false := beq_eq_false_iff_ne.2 (fun h => h35 (UInt8.toNat_inj.1 (Int.ofNat.inj h)))
      by_cases h32 : x = 32
      · subst h32
        have HP1 : Hid (wordsF 0 [] s.data.toList = wordsF (p + 1) ws (s.data.toList.drop (p + 1))) := by rw [Hid, HP.out, HD.out, words_space]
        clear HP HD
        go_wp2
        go_step3
        refine ⟨rfl, woJ_intro _ HC.out (p + 1) n ws A c rfl rfl rfl rfl rfl rfl rfl HR HO HL (by omega) (by omega) HP1, ?_⟩
        show s.size + 1 - ((p + 1 : Nat) : Int).toNat < s.size + 1 - ((p : Nat) : Int).toNat
        omega
      have hb32 : ((x.toNat : Int) == 32) = false := beq_eq_false_iff_ne.2 (fun h => h32 (UInt8.toNat_inj.1 (Int.ofNat.inj h)))
      by_cases h34 : x = 34
      · subst h34
        have HEC : Hid (∀ w1, Calls Tryd.prog 36 #[.string s, .int .i64 (p : Int)] w1 fun e w' => e = .returned (.int .i64 (endV (p + 1) (endL (s.data.toList.drop (p + 1))))) ∧ Chg No w1 w') := fun w1 => end_calls w1 s (by omega) p hlt
        cases hk : endL (s.data.toList.drop (p + 1)) with
        | none =>
          have HU : Hid (wordsF 0 [] s.data.toList = .inl p) := by rw [Hid, HP.out, HD.out, words_q0 _ _ _ hk]
          rw [hk] at HEC
          simp only [endV] at HEC
          clear HP HD hk
          go_wp2_with (go_at_call 36; refine Hid.out ?_)
          refine Lib.hid ?_
          refine (HEC.out _).mono ?_
          rintro e w2 ⟨rfl, hc2⟩
          have HC2 : Hid (Chg No w w2) := HC.out.no hc2
          have HR2 : Hid (w2.heap[w.heap.size]? = some (.cells #[.int .i64 0, .int .i64 0] 26 (0, 0))) := hc2.heap HR.out (fun x => x)
          have HO2 : Hid (w2.ownsRow (w.heap.size + 1) 9 1 (.slice A n c) n (strs ws)) := own_chg HO.out hc2 (fun _ _ x => x)
          have hsz2 : w.heap.size < w2.heap.size := Nat.lt_of_lt_of_le hsz hc2.size
          clear hc2 HC HR HO hsz r0 r1 r2 r3
          have HC := HC2
          have HR := HR2
          have HO := HO2
          have hsz := hsz2
          clear HC2 HR2 HO2 hsz2
          obtain ⟨r0, r1, r2, r3⟩ := cells2 HR.out
          go_wp2
          all_goals (try simp only [Exit.jump])
          refine bodyPost_ret (v := .tuple #[.slice none 0 0, .agg #[.int .i64 150, .int .i64 (p : Int)]]) (by simp [results, Tryd.results18, go_sem, r0, r1, r2, r3]) rfl ?_
          rw [HU.out]
          exact ⟨rfl, HC.out.trans (S' := One w.heap.size) (((Chg.put _ _ _ _).trans (Chg.put _ _ _ _) (fun _ _ h => h))) (fun i hi hx => by have : i = w.heap.size := hx; omega)⟩
        | some k =>
          have hkk := endL_pos _ _ (Nat.le_refl _) k hk
          rw [List.length_drop, HS.out] at hkk
          obtain ⟨q, hq⟩ : ∃ q, p + 1 + k = q := ⟨_, rfl⟩
          rw [hk] at HEC
          simp only [endV, hq] at HEC
          have hqs : q ≤ s.size := by omega
          have hqp : p + 1 < q := by omega
          have HX : Hid ((s.extract p q).data.toList = 34 :: (s.data.toList.drop (p + 1)).take k) := by
            rw [Hid, ByteArray.data_extract, Array.toList_extract, List.extract_eq_take_drop, HD.out]
            have : q - p = k + 1 := by omega
            rw [this, List.take_succ_cons]
          have HXD : Hid ((s.data.toList.drop (p + 1)).drop k = s.data.toList.drop q) := by rw [Hid, List.drop_drop, hq]
          have hi0 : ¬ ((q : Int) < 0) := by omega
          have hi1 : (p : Int) ≤ (q : Int) := by omega
          have hi2 : (q : Int) ≤ (s.size : Int) := by omega
          have hqi : 0 ≤ (q : Int) := by omega
          have hxs : (s.extract p q).size ≤ 8796093022000 := by rw [ByteArray.size_extract]; omega
          have HUC : Hid (∀ w1, Calls Tryd.prog 37 #[.string (s.extract p q)] w1 fun e w' => e = plainlyR (unqF (s.extract p q).data.toList) ∧ Chg No w1 w') := fun w1 => unquote_calls w1 _ (by omega)
          rw [HX.out] at HUC
          have HK := Lib.hid hk
          clear hk
          -- is there a space, or an end, behind it?
          by_cases hsp : (s.data.toList.drop q).head?.getD 32 = 32
          case neg =>
            have hqlt : q < s.size := by
              rcases Nat.lt_or_ge q s.size with h | h
              · exact h
              · rw [List.drop_of_length_le (by rw [HS.out]; exact h)] at hsp; exact absurd rfl hsp
            have HU : Hid (wordsF 0 [] s.data.toList = .inl p) := by rw [Hid, HP.out, HD.out, words_q1 _ _ _ k HK.out (by rw [HXD.out]; exact hsp)]
            have hql : (q : Int) < (s.size : Int) := by omega
            obtain ⟨y, hy⟩ : ∃ y, s[q] = y := ⟨_, rfl⟩
            have hy32 : y ≠ 32 := by
              intro h
              rw [List.drop_eq_getElem_cons (by rw [HS.out]; exact hqlt)] at hsp
              exact hsp (by show s.data.toList[q] = 32; rw [← h, ← hy]; rfl)
            have hby : ((y.toNat : Int) != 32) = true := bne_iff_ne.2 (fun h => hy32 (UInt8.toNat_inj.1 (Int.ofNat.inj h)))
            clear HP HD HUC HX HXD hsp hy32
            go_wp2_with (go_at_call 36; refine Hid.out ?_)
            refine Lib.hid ?_
            refine (HEC.out _).mono ?_
            rintro e w2 ⟨rfl, hc2⟩
            have HC2 : Hid (Chg No w w2) := HC.out.no hc2
            have HR2 : Hid (w2.heap[w.heap.size]? = some (.cells #[.int .i64 0, .int .i64 0] 26 (0, 0))) := hc2.heap HR.out (fun x => x)
            have HO2 : Hid (w2.ownsRow (w.heap.size + 1) 9 1 (.slice A n c) n (strs ws)) := own_chg HO.out hc2 (fun _ _ x => x)
            have hsz2 : w.heap.size < w2.heap.size := Nat.lt_of_lt_of_le hsz hc2.size
            clear hc2 HC HR HO hsz r0 r1 r2 r3
            have HC := HC2
            have HR := HR2
            have HO := HO2
            have hsz := hsz2
            clear HC2 HR2 HO2 hsz2
            obtain ⟨r0, r1, r2, r3⟩ := cells2 HR.out
            go_wp2
            all_goals (try simp only [Exit.jump])
            refine bodyPost_ret (v := .tuple #[.slice none 0 0, .agg #[.int .i64 150, .int .i64 (p : Int)]]) (by simp [results, Tryd.results18, go_sem, r0, r1, r2, r3]) rfl ?_
            rw [HU.out]
            exact ⟨rfl, HC.out.trans (S' := One w.heap.size) (((Chg.put _ _ _ _).trans (Chg.put _ _ _ _) (fun _ _ h => h))) (fun i hi hx => by have : i = w.heap.size := hx; omega)⟩
          have HWU : ∀ o, unqF (34 :: (s.data.toList.drop (p + 1)).take k) = o → Hid (wordsF 0 [] s.data.toList = match o with | none => .inl p | some x => wordsF q (ws ++ [x]) (s.data.toList.drop q)) := by
            intro o ho
            cases o with
            | none => rw [Hid, HP.out, HD.out, words_q2 _ _ _ k HK.out (by rw [HXD.out]; exact hsp) ho]
            | some x => rw [Hid, HP.out, HD.out, words_q3 _ _ _ k x HK.out (by rw [HXD.out]; exact hsp) ho, HXD.out, hq]
          generalize unqF (34 :: (s.data.toList.drop (p + 1)).take k) = o at HWU HUC
          have HW := HWU o rfl
          clear HWU HP HX HXD
          by_cases hqe : q < s.size
          · have hql : (q : Int) < (s.size : Int) := by omega
            obtain ⟨y, hy⟩ : ∃ y, s[q] = y := ⟨_, rfl⟩
            have hy32 : y = 32 := by
              rw [List.drop_eq_getElem_cons (by rw [HS.out]; exact hqe)] at hsp
              rw [← hy]
              exact hsp
            subst hy32
            clear hsp
            go_wp2_with (go_at_call 36; refine Hid.out ?_)
            refine Lib.hid ?_
            refine (HEC.out _).mono ?_
            rintro e w2 ⟨rfl, hc2⟩
            have HC2 : Hid (Chg No w w2) := HC.out.no hc2
            have HR2 : Hid (w2.heap[w.heap.size]? = some (.cells #[.int .i64 0, .int .i64 0] 26 (0, 0))) := hc2.heap HR.out (fun x => x)
            have HO2 : Hid (w2.ownsRow (w.heap.size + 1) 9 1 (.slice A n c) n (strs ws)) := own_chg HO.out hc2 (fun _ _ x => x)
            have hsz2 : w.heap.size < w2.heap.size := Nat.lt_of_lt_of_le hsz hc2.size
            clear hc2 HC HR HO hsz r0 r1 r2 r3
            have HC := HC2
            have HR := HR2
            have HO := HO2
            have hsz := hsz2
            clear HC2 HR2 HO2 hsz2
            obtain ⟨r0, r1, r2, r3⟩ := cells2 HR.out
            clear HEC
            go_wp2_with (go_at_call 37; refine Hid.out ?_)
            refine Lib.hid ?_
            refine (HUC.out _).mono ?_
            rintro e w3 ⟨rfl, hc2⟩
            have HC2 : Hid (Chg No w w3) := HC.out.no hc2
            have HR2 : Hid (w3.heap[w.heap.size]? = some (.cells #[.int .i64 0, .int .i64 0] 26 (0, 0))) := hc2.heap HR.out (fun x => x)
            have HO2 : Hid (w3.ownsRow (w.heap.size + 1) 9 1 (.slice A n c) n (strs ws)) := own_chg HO.out hc2 (fun _ _ x => x)
            have hsz2 : w.heap.size < w3.heap.size := Nat.lt_of_lt_of_le hsz hc2.size
            clear hc2 HC HR HO hsz r0 r1 r2 r3
            have HC := HC2
            have HR := HR2
            have HO := HO2
            have hsz := hsz2
            clear HC2 HR2 HO2 hsz2
            obtain ⟨r0, r1, r2, r3⟩ := cells2 HR.out
            cases o with
            | none =>
              have HU : Hid (wordsF 0 [] s.data.toList = .inl p) := HW
              simp only [plainlyR]
              go_wp2
              all_goals (try simp only [Exit.jump])
              refine bodyPost_ret (v := .tuple #[.slice none 0 0, .agg #[.int .i64 150, .int .i64 (p : Int)]]) (by simp [results, Tryd.results18, go_sem, r0, r1, r2, r3]) rfl ?_
              rw [HU.out]
              exact ⟨rfl, HC.out.trans (S' := One w.heap.size) (((Chg.put _ _ _ _).trans (Chg.put _ _ _ _) (fun _ _ h => h))) (fun i hi hx => by have : i = w.heap.size := hx; omega)⟩
            | some x =>
              have HP1 : Hid (wordsF 0 [] s.data.toList = wordsF q (ws ++ [x]) (s.data.toList.drop q)) := HW
              simp only [plainlyR]
              go_wp2_with (at_builtin; (refine wpList_app _ rfl (.tmp 66) (.tmp 68) 43 43 rfl (w.heap.size + 1) 9 (.string ⟨#[]⟩) 1 16 infoStr Tryd.underlying43 rfl (by decide) (.slice A n c) (.slice (some ⟨w3.heap.size, 0, none⟩) 1 1) n 1 (strs ws) [.string (mkS x)] rfl rfl ?own ?src ?b1 ?b2 ?b3 ?_; (case own => exact own_chg HO.out ((Chg.refl No _).alloc _) (fun _ _ x => x)); (case src => exact Src.one Tryd.underlying43 _ rfl); (case b1 => omega); (case b2 => unfold maxLen; omega); (case b3 => simp; omega); intro v' w1 hown hg; refine Hid.out ?_))
              refine Lib.hid ?_
              obtain ⟨A', c', rfl⟩ := own_form hown
              have HO' : Hid (w1.ownsRow (w.heap.size + 1) 9 1 (.slice A' (n + 1) c') (n + 1) (strs (ws ++ [x]))) := by rw [Hid, strs, List.map_append]; exact hown
              have HL' : Hid ((ws ++ [x]).length = n + 1) := by rw [Hid, List.length_append, HL.out]; rfl
              have HC1 : Hid (Chg No w w1) := ((HC.out).alloc _).grown hg (fun k hk => .inl (by have := (World.ownsRow.lt HO.out) k hk; omega))
              have HR' : Hid (w1.heap[w.heap.size]? = some (.cells #[.int .i64 0, .int .i64 0] 26 (0, 0))) := by
                have h0 := ((Chg.refl No w3).alloc (.cells #[.string (mkS x)] 9)).heap HR.out (fun x => x)
                have hlt : w.heap.size < w3.heap.size := hsz
                rw [Hid, ← h0]
                exact hg.block _ (by simp; omega) (fun e => by have := (World.ownsRow.lt HO.out) _ e.symm; omega)
              clear hown hg
              go_wp2
              go_step3
              refine ⟨rfl, woJ_intro _ HC1.out (q) (n + 1) (ws ++ [x]) A' c' rfl rfl rfl rfl rfl rfl rfl HR' HO' HL' (by omega) (by omega) HP1, ?_⟩
              show s.size + 1 - ((q : Nat) : Int).toNat < s.size + 1 - ((p : Nat) : Int).toNat
              omega
          · have hql : ¬ ((q : Int) < (s.size : Int)) := by omega
            clear hsp
            go_wp2_with (go_at_call 36; refine Hid.out ?_)
            refine Lib.hid ?_
            refine (HEC.out _).mono ?_
            rintro e w2 ⟨rfl, hc2⟩
            have HC2 : Hid (Chg No w w2) := HC.out.no hc2
            have HR2 : Hid (w2.heap[w.heap.size]? = some (.cells #[.int .i64 0, .int .i64 0] 26 (0, 0))) := hc2.heap HR.out (fun x => x)
            have HO2 : Hid (w2.ownsRow (w.heap.size + 1) 9 1 (.slice A n c) n (strs ws)) := own_chg HO.out hc2 (fun _ _ x => x)
            have hsz2 : w.heap.size < w2.heap.size := Nat.lt_of_lt_of_le hsz hc2.size
            clear hc2 HC HR HO hsz r0 r1 r2 r3
            have HC := HC2
            have HR := HR2
            have HO := HO2
            have hsz := hsz2
            clear HC2 HR2 HO2 hsz2
            obtain ⟨r0, r1, r2, r3⟩ := cells2 HR.out
            clear HEC
            go_wp2_with (go_at_call 37; refine Hid.out ?_)
            refine Lib.hid ?_
            refine (HUC.out _).mono ?_
            rintro e w3 ⟨rfl, hc2⟩
            have HC2 : Hid (Chg No w w3) := HC.out.no hc2
            have HR2 : Hid (w3.heap[w.heap.size]? = some (.cells #[.int .i64 0, .int .i64 0] 26 (0, 0))) := hc2.heap HR.out (fun x => x)
            have HO2 : Hid (w3.ownsRow (w.heap.size + 1) 9 1 (.slice A n c) n (strs ws)) := own_chg HO.out hc2 (fun _ _ x => x)
            have hsz2 : w.heap.size < w3.heap.size := Nat.lt_of_lt_of_le hsz hc2.size
            clear hc2 HC HR HO hsz r0 r1 r2 r3
            have HC := HC2
            have HR := HR2
            have HO := HO2
            have hsz := hsz2
            clear HC2 HR2 HO2 hsz2
            obtain ⟨r0, r1, r2, r3⟩ := cells2 HR.out
            cases o with
            | none =>
              have HU : Hid (wordsF 0 [] s.data.toList = .inl p) := HW
              simp only [plainlyR]
              go_wp2
              all_goals (try simp only [Exit.jump])
              refine bodyPost_ret (v := .tuple #[.slice none 0 0, .agg #[.int .i64 150, .int .i64 (p : Int)]]) (by simp [results, Tryd.results18, go_sem, r0, r1, r2, r3]) rfl ?_
              rw [HU.out]
              exact ⟨rfl, HC.out.trans (S' := One w.heap.size) (((Chg.put _ _ _ _).trans (Chg.put _ _ _ _) (fun _ _ h => h))) (fun i hi hx => by have : i = w.heap.size := hx; omega)⟩
            | some x =>
              have HP1 : Hid (wordsF 0 [] s.data.toList = wordsF q (ws ++ [x]) (s.data.toList.drop q)) := HW
              simp only [plainlyR]
              go_wp2_with (at_builtin; (refine wpList_app _ rfl (.tmp 66) (.tmp 68) 43 43 rfl (w.heap.size + 1) 9 (.string ⟨#[]⟩) 1 16 infoStr Tryd.underlying43 rfl (by decide) (.slice A n c) (.slice (some ⟨w3.heap.size, 0, none⟩) 1 1) n 1 (strs ws) [.string (mkS x)] rfl rfl ?own ?src ?b1 ?b2 ?b3 ?_; (case own => exact own_chg HO.out ((Chg.refl No _).alloc _) (fun _ _ x => x)); (case src => exact Src.one Tryd.underlying43 _ rfl); (case b1 => omega); (case b2 => unfold maxLen; omega); (case b3 => simp; omega); intro v' w1 hown hg; refine Hid.out ?_))
              refine Lib.hid ?_
              obtain ⟨A', c', rfl⟩ := own_form hown
              have HO' : Hid (w1.ownsRow (w.heap.size + 1) 9 1 (.slice A' (n + 1) c') (n + 1) (strs (ws ++ [x]))) := by rw [Hid, strs, List.map_append]; exact hown
              have HL' : Hid ((ws ++ [x]).length = n + 1) := by rw [Hid, List.length_append, HL.out]; rfl
              have HC1 : Hid (Chg No w w1) := ((HC.out).alloc _).grown hg (fun k hk => .inl (by have := (World.ownsRow.lt HO.out) k hk; omega))
              have HR' : Hid (w1.heap[w.heap.size]? = some (.cells #[.int .i64 0, .int .i64 0] 26 (0, 0))) := by
                have h0 := ((Chg.refl No w3).alloc (.cells #[.string (mkS x)] 9)).heap HR.out (fun x => x)
                have hlt : w.heap.size < w3.heap.size := hsz
                rw [Hid, ← h0]
                exact hg.block _ (by simp; omega) (fun e => by have := (World.ownsRow.lt HO.out) _ e.symm; omega)
              clear hown hg
              go_wp2
              go_step3
              refine ⟨rfl, woJ_intro _ HC1.out (q) (n + 1) (ws ++ [x]) A' c' rfl rfl rfl rfl rfl rfl rfl HR' HO' HL' (by omega) (by omega) HP1, ?_⟩
              show s.size + 1 - ((q : Nat) : Int).toNat < s.size + 1 - ((p : Nat) : Int).toNat
              omega
      have hb34 : ((x.toNat : Int) == 34) = false := beq_eq_false_iff_ne.2 (fun h => h34 (UInt8.toNat_inj.1 (Int.ofNat.inj h)))
      obtain ⟨k, hk⟩ : ∃ k, ((s.data.toList.drop (p + 1)).takeWhile (· ≠ 32)).length = k := ⟨_, rfl⟩
      have HPW := Lib.hid (words_plain p ws x (s.data.toList.drop (p + 1)) h35 h32 h34)
      rw [hk, List.drop_drop] at HPW
      have hkl := tw_len (s.data.toList.drop (p + 1))
      rw [hk, List.length_drop, HS.out] at hkl
      have HTW : Hid ((s.data.toList.drop (p + 1)).takeWhile (· ≠ 32) = (s.data.toList.drop (p + 1)).take k) := by rw [Hid, ← hk, tw_drop]
      obtain ⟨q, hq⟩ : ∃ q, p + 1 + k = q := ⟨_, rfl⟩
      have hqs : q ≤ s.size := by omega
      have hqp : p < q := by omega
      have HX : Hid ((s.extract p q).data.toList = x :: (s.data.toList.drop (p + 1)).takeWhile (· ≠ 32)) := by
        rw [Hid, ByteArray.data_extract, Array.toList_extract, List.extract_eq_take_drop, HD.out, HTW.out]
        have : q - p = k + 1 := by omega
        rw [this, List.take_succ_cons]
      have HIB : Hid (Lib.indexByte (s.extract p s.size).data.toList 32 = if q = s.size then -1 else ((q - p : Nat) : Int)) := by
        rw [Hid, extract_list, HD.out, indexByte_tw, List.takeWhile_cons_of_pos (by simpa using h32)]
        simp only [List.length_cons, hk, List.length_drop, HS.out]
        by_cases hh : q = s.size
        · rw [if_pos hh, if_pos (by omega)]
        · rw [if_neg hh, if_neg (by omega)]; omega
      have hqi : 0 ≤ (q : Int) := by omega
      have hi1 : (p : Int) ≤ (q : Int) := by omega
      have hi2 : (q : Int) ≤ (s.size : Int) := by omega
      have hpi : (p : Int) ≤ (s.size : Int) := by omega
      have hpp : 0 ≤ (p : Int) := by omega
      have HIC : Hid (∀ w1, Calls Tryd.prog 38 #[.string (s.extract p s.size), .int .u8 32] w1 fun e w' => e = .returned (.int .i64 (if q = s.size then -1 else ((q - p : Nat) : Int))) ∧ w1 = w') := by
        intro w1
        have h := indexbyte_calls (s.extract p s.size) 32 w1
        rw [show (32 : Int).toNat.toUInt8 = 32 from rfl, HIB.out] at h
        exact h
      have HPC : Hid (∀ w1, Calls Tryd.prog 39 #[.string (s.extract p q)] w1 fun e w' => e = .returned (.bool (plainF (s.extract p q).data.toList)) ∧ Chg No w1 w') := fun w1 => plain_calls w1 _ (by rw [ByteArray.size_extract]; omega)
      rw [HX.out] at HPC
      rw [hq] at HPW
      generalize x :: (s.data.toList.drop (p + 1)).takeWhile (· ≠ 32) = W at HPC HPW HX
      have HXS : Hid (s.extract p q = mkS W) := by rw [Hid, ← HX.out, mkS_self]
      have HWW : Hid (wordsF 0 [] s.data.toList = if plainF W then wordsF q (ws ++ [W]) (s.data.toList.drop q) else .inl p) := by rw [Hid, HP.out, HD.out, HPW.out]
      clear HP HPW HTW HIB HD hk hq hkl
      generalize hpb : plainF W = pb at HPC HWW
      clear hpb
      by_cases hqe : q = s.size
      · rw [if_pos hqe] at HIC
        have hil : ((-1 : Int) < 0) = True := eq_true (by omega)
        subst hqe
        go_wp2_with (first | (go_at_call 38; refine (HIC.out _).mono ?_; rintro e w' ⟨rfl, rfl⟩) | (go_at_call 39; refine Hid.out ?_))
        refine Lib.hid ?_
        refine (HPC.out _).mono ?_
        rintro e w2 ⟨rfl, hc2⟩
        have HC2 : Hid (Chg No w w2) := HC.out.no hc2
        have HR2 : Hid (w2.heap[w.heap.size]? = some (.cells #[.int .i64 0, .int .i64 0] 26 (0, 0))) := hc2.heap HR.out (fun x => x)
        have HO2 : Hid (w2.ownsRow (w.heap.size + 1) 9 1 (.slice A n c) n (strs ws)) := own_chg HO.out hc2 (fun _ _ x => x)
        have hsz2 : w.heap.size < w2.heap.size := Nat.lt_of_lt_of_le hsz hc2.size
        clear hc2 HC HR HO hsz r0 r1 r2 r3
        have HC := HC2
        have HR := HR2
        have HO := HO2
        have hsz := hsz2
        clear HC2 HR2 HO2 hsz2
        obtain ⟨r0, r1, r2, r3⟩ := cells2 HR.out
        cases pb with
        | false =>
          have HU : Hid (wordsF 0 [] s.data.toList = .inl p) := by rw [Hid, HWW.out]; rfl
          go_wp2
          all_goals (try simp only [Exit.jump])
          refine bodyPost_ret (v := .tuple #[.slice none 0 0, .agg #[.int .i64 150, .int .i64 (p : Int)]]) (by simp [results, Tryd.results18, go_sem, r0, r1, r2, r3]) rfl ?_
          rw [HU.out]
          exact ⟨rfl, HC.out.trans (S' := One w.heap.size) (((Chg.put _ _ _ _).trans (Chg.put _ _ _ _) (fun _ _ h => h))) (fun i hi hx => by have : i = w.heap.size := hx; omega)⟩
        | true =>
          have HP1 : Hid (wordsF 0 [] s.data.toList = wordsF (s.size) (ws ++ [W]) (s.data.toList.drop (s.size))) := by rw [Hid, HWW.out, if_pos rfl]
          go_wp2_with (at_builtin; (refine wpList_app _ rfl (.tmp 91) (.tmp 98) 43 43 rfl (w.heap.size + 1) 9 (.string ⟨#[]⟩) 1 16 infoStr Tryd.underlying43 rfl (by decide) (.slice A n c) (.slice (some ⟨w2.heap.size, 0, none⟩) 1 1) n 1 (strs ws) [.string (s.extract p (s.size))] rfl rfl ?own ?src ?b1 ?b2 ?b3 ?_; (case own => exact own_chg HO.out ((Chg.refl No _).alloc _) (fun _ _ x => x)); (case src => exact Src.one Tryd.underlying43 _ rfl); (case b1 => omega); (case b2 => unfold maxLen; omega); (case b3 => simp; omega); intro v' w1 hown hg; refine Hid.out ?_))
          refine Lib.hid ?_
          obtain ⟨A', c', rfl⟩ := own_form hown
          have HO' : Hid (w1.ownsRow (w.heap.size + 1) 9 1 (.slice A' (n + 1) c') (n + 1) (strs (ws ++ [W]))) := by rw [Hid, strs, List.map_append]; simp only [List.map_cons, List.map_nil, ← HXS.out]; exact hown
          have HL' : Hid ((ws ++ [W]).length = n + 1) := by rw [Hid, List.length_append, HL.out]; rfl
          have HC1 : Hid (Chg No w w1) := ((HC.out).alloc _).grown hg (fun k hk => .inl (by have := (World.ownsRow.lt HO.out) k hk; omega))
          have HR' : Hid (w1.heap[w.heap.size]? = some (.cells #[.int .i64 0, .int .i64 0] 26 (0, 0))) := by
            have h0 := ((Chg.refl No w2).alloc (.cells #[.string (s.extract p (s.size))] 9)).heap HR.out (fun x => x)
            have hlt : w.heap.size < w2.heap.size := hsz
            rw [Hid, ← h0]
            exact hg.block _ (by simp; omega) (fun e => by have := (World.ownsRow.lt HO.out) _ e.symm; omega)
          clear hown hg
          go_wp2
          go_step3
          refine ⟨rfl, woJ_intro _ HC1.out (s.size) (n + 1) (ws ++ [W]) A' c' rfl rfl rfl rfl rfl rfl (congrArg (Value.int .i64) (by omega)) HR' HO' HL' (by omega) (by omega) HP1, ?_⟩
          show s.size + 1 - ((p : Int) + ((s.size : Int) - (p : Int))).toNat < s.size + 1 - ((p : Nat) : Int).toNat
          omega
      · rw [if_neg hqe] at HIC
        obtain ⟨m, rfl⟩ : ∃ m, q = p + m := ⟨q - p, by omega⟩
        rw [show p + m - p = m by omega] at HIC
        have hil : ¬ ((m : Int) < 0) := by omega
        have hi1 : (p : Int) ≤ (p : Int) + (m : Int) := by omega
        have hi2 : (p : Int) + (m : Int) ≤ (s.size : Int) := by omega
        go_wp2_with (first | (go_at_call 38; refine (HIC.out _).mono ?_; rintro e w' ⟨rfl, rfl⟩) | (go_at_call 39; refine Hid.out ?_))
        refine Lib.hid ?_
        refine (HPC.out _).mono ?_
        rintro e w2 ⟨rfl, hc2⟩
        have HC2 : Hid (Chg No w w2) := HC.out.no hc2
        have HR2 : Hid (w2.heap[w.heap.size]? = some (.cells #[.int .i64 0, .int .i64 0] 26 (0, 0))) := hc2.heap HR.out (fun x => x)
        have HO2 : Hid (w2.ownsRow (w.heap.size + 1) 9 1 (.slice A n c) n (strs ws)) := own_chg HO.out hc2 (fun _ _ x => x)
        have hsz2 : w.heap.size < w2.heap.size := Nat.lt_of_lt_of_le hsz hc2.size
        clear hc2 HC HR HO hsz r0 r1 r2 r3
        have HC := HC2
        have HR := HR2
        have HO := HO2
        have hsz := hsz2
        clear HC2 HR2 HO2 hsz2
        obtain ⟨r0, r1, r2, r3⟩ := cells2 HR.out
        cases pb with
        | false =>
          have HU : Hid (wordsF 0 [] s.data.toList = .inl p) := by rw [Hid, HWW.out]; rfl
          go_wp2
          all_goals (try simp only [Exit.jump])
          refine bodyPost_ret (v := .tuple #[.slice none 0 0, .agg #[.int .i64 150, .int .i64 (p : Int)]]) (by simp [results, Tryd.results18, go_sem, r0, r1, r2, r3]) rfl ?_
          rw [HU.out]
          exact ⟨rfl, HC.out.trans (S' := One w.heap.size) (((Chg.put _ _ _ _).trans (Chg.put _ _ _ _) (fun _ _ h => h))) (fun i hi hx => by have : i = w.heap.size := hx; omega)⟩
        | true =>
          have HP1 : Hid (wordsF 0 [] s.data.toList = wordsF (p + m) (ws ++ [W]) (s.data.toList.drop (p + m))) := by rw [Hid, HWW.out, if_pos rfl]
          go_wp2_with (at_builtin; (refine wpList_app _ rfl (.tmp 91) (.tmp 98) 43 43 rfl (w.heap.size + 1) 9 (.string ⟨#[]⟩) 1 16 infoStr Tryd.underlying43 rfl (by decide) (.slice A n c) (.slice (some ⟨w2.heap.size, 0, none⟩) 1 1) n 1 (strs ws) [.string (s.extract p (p + m))] rfl rfl ?own ?src ?b1 ?b2 ?b3 ?_; (case own => exact own_chg HO.out ((Chg.refl No _).alloc _) (fun _ _ x => x)); (case src => exact Src.one Tryd.underlying43 _ rfl); (case b1 => omega); (case b2 => unfold maxLen; omega); (case b3 => simp; omega); intro v' w1 hown hg; refine Hid.out ?_))
          refine Lib.hid ?_
          obtain ⟨A', c', rfl⟩ := own_form hown
          have HO' : Hid (w1.ownsRow (w.heap.size + 1) 9 1 (.slice A' (n + 1) c') (n + 1) (strs (ws ++ [W]))) := by rw [Hid, strs, List.map_append]; simp only [List.map_cons, List.map_nil, ← HXS.out]; exact hown
          have HL' : Hid ((ws ++ [W]).length = n + 1) := by rw [Hid, List.length_append, HL.out]; rfl
          have HC1 : Hid (Chg No w w1) := ((HC.out).alloc _).grown hg (fun k hk => .inl (by have := (World.ownsRow.lt HO.out) k hk; omega))
          have HR' : Hid (w1.heap[w.heap.size]? = some (.cells #[.int .i64 0, .int .i64 0] 26 (0, 0))) := by
            have h0 := ((Chg.refl No w2).alloc (.cells #[.string (s.extract p (p + m))] 9)).heap HR.out (fun x => x)
            have hlt : w.heap.size < w2.heap.size := hsz
            rw [Hid, ← h0]
            exact hg.block _ (by simp; omega) (fun e => by have := (World.ownsRow.lt HO.out) _ e.symm; omega)
          clear hown hg
          go_wp2
          go_step3
          refine ⟨rfl, woJ_intro _ HC1.out (p + m) (n + 1) (ws ++ [W]) A' c' rfl rfl rfl rfl rfl rfl (congrArg (Value.int .i64) (by omega)) HR' HO' HL' (by omega) (by omega) HP1, ?_⟩
          show s.size + 1 - ((p + m : Nat) : Int).toNat < s.size + 1 - ((p : Nat) : Int).toNat
          omega
    · have hb1 : ((p : Int) == (s.size : Int)) = true := by rw [beq_iff_eq]; omega
      have hd1 : ((p : Int) = (s.size : Int)) = True := eq_true (by omega)
      have HU : Hid (wordsF 0 [] s.data.toList = .inr ws) := by rw [Hid, HP.out, List.drop_of_length_le (by rw [HS.out]; omega), words_nil]
      clear HP
      go_wp2
      all_goals (try simp only [Exit.jump])
      refine bodyPost_ret (v := .tuple #[.slice A n c, .agg #[.int .i64 0, .int .i64 0]]) (by simp [results, Tryd.results18, go_sem, r0, r1, r2, r3]) rfl ?_
      rw [HU.out]
      exact ⟨⟨A, n, c, rfl, HL.out, own_chg HO.out ((Chg.put _ _ _ _).trans (Chg.put _ _ _ _) (fun _ _ h => h)) (fun b hb hx => by have := (World.ownsRow.lt HO.out) b hb; have : b = w.heap.size := hx; omega)⟩, HC.out.trans (S' := One w.heap.size) (((Chg.put _ _ _ _).trans (Chg.put _ _ _ _) (fun _ _ h => h))) (fun i hi hx => by have : i = w.heap.size := hx; omega)⟩
  · intro hpass
    go_wp2
    go_step3
    rename_i hKK
    refine hKK _ _ (hpass _ _ (woJ_intro _ ((Chg.refl No w).alloc _) 0 0 [] none 0 rfl rfl rfl rfl rfl rfl rfl (heap_alloc_new w _) (World.ownsRow_nil _ _ _ _) rfl (Nat.le_refl _) (Nat.zero_le _) ?_))
    rw [Hid, List.drop_zero]
end Go.Proofs.YtcomcoolmabmgaaDoor
