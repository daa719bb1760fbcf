/-
  Q15, Q17, Q16, Shelf, L1, L3, Rl1: in one text.
-/
import Derived.Test.YtcomcoolmabmgaaDoorBa6
import Derived.Test.YtcomcoolmabmgaaDoorBa5
import Derived.Test.YtcomcoolmabmgaaDoorBa2
import Derived.Test.YtcomcoolmabmgaaDoorBa4
namespace Go.Proofs.YtcomcoolmabmgaaDoor
set_option linter.unnecessarySimpa false
open Go.RowKit
set_option linter.unusedVariables false
set_option linter.unusedSimpArgs false
set_option maxRecDepth 100000

/-- What holds at every jump of Words. -/
def woJ (w : World) (s : ByteArray) (a' : Act) (w' : World) : Prop := Chg No w w' ∧ ∃ (p n : Nat) (ws : List (List UInt8)) (A : Option Addr) (c : Nat) (u : Nat → Value), a' = { tmps := #[.string s, u 1, .slice none 0 0, .pointer (some ⟨w.heap.size, 0, none⟩), .slice A n c, .int .i64 (p : Int), u 6, u 7, u 8, u 9, u 10, u 11, u 12, u 13, u 14, u 15, u 16, u 17, u 18, u 19, u 20, u 21, u 22, u 23, u 24, u 25, u 26, u 27, u 28, u 29, u 30, u 31, u 32, u 33, u 34, u 35, u 36, u 37, u 38, u 39, u 40, u 41, u 42, u 43, u 44, u 45, u 46, u 47, u 48, u 49, u 50, u 51, u 52, u 53, u 54, u 55, u 56, u 57, u 58, u 59, u 60, u 61, u 62, u 63, u 64, u 65, u 66, u 67, u 68, u 69, u 70, u 71, u 72, u 73, u 74, u 75, u 76, u 77, u 78, u 79, u 80, u 81, u 82, u 83, u 84, u 85, u 86, u 87, u 88, u 89, u 90, u 91, u 92, u 93, u 94, u 95, u 96, u 97, u 98, u 99, u 100, u 101, u 102], defers := [] } ∧ Hid (w'.heap[w.heap.size]? = some (.cells #[.int .i64 0, .int .i64 0] 26 (0, 0))) ∧ Hid (w'.ownsRow (w.heap.size + 1) 9 1 (.slice A n c) n (strs ws)) ∧ Hid (ws.length = n) ∧ n ≤ p ∧ p ≤ s.size ∧ Hid (wordsF 0 [] s.data.toList = wordsF p ws (s.data.toList.drop p))
def woM (s : ByteArray) (a' : Act) (w' : World) : Nat := s.size + 1 - (match a'.tmps.getD 5 undef with | .int _ q => q.toNat | _ => 0)
theorem woJ_intro {w w' : World} {s : ByteArray} (a' : Act) (hc : Chg No w w') (p n : Nat) (ws : List (List UInt8)) (A : Option Addr) (c : Nat) (hN : a'.tmps.size = 103) (hd : a'.defers = [])
    (h0 : a'.tmps.getD 0 undef = .string s) (h2 : a'.tmps.getD 2 undef = .slice none 0 0) (h3 : a'.tmps.getD 3 undef = .pointer (some ⟨w.heap.size, 0, none⟩)) (h4 : a'.tmps.getD 4 undef = .slice A n c) (h5 : a'.tmps.getD 5 undef = .int .i64 (p : Int))
    (HR : Hid (w'.heap[w.heap.size]? = some (.cells #[.int .i64 0, .int .i64 0] 26 (0, 0)))) (HO : Hid (w'.ownsRow (w.heap.size + 1) 9 1 (.slice A n c) n (strs ws))) (HL : Hid (ws.length = n)) (hn : n ≤ p) (hp : p ≤ s.size) (HP : Hid (wordsF 0 [] s.data.toList = wordsF p ws (s.data.toList.drop p))) : woJ w s a' w' := by
  refine ⟨hc, p, n, ws, A, c, fun i => a'.tmps.getD i undef, ?_, HR, HO, HL, hn, hp, HP⟩
  refine (act_range a' 103 hN hd).trans ?_
  rw [← h0, ← h2, ← h3, ← h4, ← h5]
  rfl
/-- What Words tells. -/
def WordsR (base : Nat) (w' : World) (e : Ending) : Nat ⊕ List (List UInt8) → Prop
  | .inl p => e = .returned (.tuple #[.slice none 0 0, .agg #[.int .i64 150, .int .i64 (p : Int)]])
  | .inr ws => ∃ A n c, e = .returned (.tuple #[.slice A n c, .agg #[.int .i64 0, .int .i64 0]]) ∧ ws.length = n ∧ w'.ownsRow base 9 1 (.slice A n c) n (strs ws)

theorem indexByte_tw (l : List UInt8) : Lib.indexByte l 32 = if (l.takeWhile (· ≠ 32)).length = l.length then -1 else ((l.takeWhile (· ≠ 32)).length : Int) := by
  induction l with
  | nil => rfl
  | cons b t ih =>
    unfold Lib.indexByte
    by_cases h : b = 32
    · subst h; simp
    · rw [if_neg (by simpa using h), List.takeWhile_cons_of_pos (by simpa using h), ih]
      simp only [List.length_cons]
      split <;> split <;> split <;> first | rfl | omega | (rename_i h1 h2 h3; simp at h2; omega) | (rename_i h1 h2; simp at h2; omega) | (simp_all; try omega)
theorem tw_drop (l : List UInt8) : l.take (l.takeWhile (· ≠ 32)).length = l.takeWhile (· ≠ 32) := by
  exact (List.prefix_iff_eq_take.1 (List.takeWhile_prefix _)).symm
theorem tw_len (l : List UInt8) : (l.takeWhile (· ≠ 32)).length ≤ l.length := (List.takeWhile_prefix _).length_le
theorem words_nil (p : Nat) (acc : List (List UInt8)) : wordsF p acc [] = .inr acc := by rw [wordsF]
theorem words_hash (p : Nat) (acc : List (List UInt8)) (t : List UInt8) : wordsF p acc (35 :: t) = .inr acc := by rw [wordsF, if_pos rfl]
theorem words_space (p : Nat) (acc : List (List UInt8)) (t : List UInt8) : wordsF p acc (32 :: t) = wordsF (p + 1) acc t := by rw [wordsF, if_neg (by decide), if_pos rfl]
theorem words_q0 (p : Nat) (acc : List (List UInt8)) (t : List UInt8) (h : endL t = none) : wordsF p acc (34 :: t) = .inl p := by
  rw [wordsF, if_neg (by decide), if_neg (by decide), if_pos rfl]; simp only [h]
theorem words_q1 (p : Nat) (acc : List (List UInt8)) (t : List UInt8) (k : Nat) (h : endL t = some k) (h2 : (t.drop k).head?.getD 32 ≠ 32) : wordsF p acc (34 :: t) = .inl p := by
  rw [wordsF, if_neg (by decide), if_neg (by decide), if_pos rfl]; simp only [h]; rw [if_pos h2]
theorem words_q2 (p : Nat) (acc : List (List UInt8)) (t : List UInt8) (k : Nat) (h : endL t = some k) (h2 : (t.drop k).head?.getD 32 = 32) (h3 : unqF (34 :: t.take k) = none) : wordsF p acc (34 :: t) = .inl p := by
  rw [wordsF, if_neg (by decide), if_neg (by decide), if_pos rfl]; simp only [h]; rw [if_neg (by simpa using h2)]; simp only [h3]
theorem words_q3 (p : Nat) (acc : List (List UInt8)) (t : List UInt8) (k : Nat) (x : List UInt8) (h : endL t = some k) (h2 : (t.drop k).head?.getD 32 = 32) (h3 : unqF (34 :: t.take k) = some x) : wordsF p acc (34 :: t) = wordsF (p + 1 + k) (acc ++ [x]) (t.drop k) := by
  rw [wordsF, if_neg (by decide), if_neg (by decide), if_pos rfl]; simp only [h]; rw [if_neg (by simpa using h2)]; simp only [h3]
theorem words_plain (p : Nat) (acc : List (List UInt8)) (c : UInt8) (t : List UInt8) (h1 : c ≠ 35) (h2 : c ≠ 32) (h3 : c ≠ 34) : wordsF p acc (c :: t) = if plainF (c :: t.takeWhile (· ≠ 32)) then wordsF (p + 1 + (t.takeWhile (· ≠ 32)).length) (acc ++ [c :: t.takeWhile (· ≠ 32)]) (t.drop (t.takeWhile (· ≠ 32)).length) else .inl p := by
  rw [wordsF, if_neg h1, if_neg h2, if_neg h3]

set_option maxHeartbeats 6400000 in
theorem words_calls (w : World) (s : ByteArray) (hs : s.size ≤ 8796093022000) :
    Calls Tryd.prog 18 #[.string s] w fun e w' => WordsR (w.heap.size + 1) w' e (wordsF 0 [] s.data.toList) ∧ Chg No w w' := by
  have HS := Lib.hid (size_list s)
  go_enter Tryd.func18, Tryd.ntmps18
  go_wp2
  refine wp_scope_jumps2 0 (woJ w s) (woM s) rfl ?_ ?_
  · rintro a' w' ⟨HC, p, n, ws, A, c, u, rfl, HR, HO, HL, hn, hp, HP⟩
    have HC := Lib.hid HC
    have hsz : w.heap.size < w'.heap.size := by
      rcases Nat.lt_or_ge w.heap.size w'.heap.size with h | h
      · exact h
      · have := HR.out; simp [Array.getElem?_eq_none h] at this
    obtain ⟨r0, r1, r2, r3⟩ := cells2 HR.out
    rcases Nat.lt_or_ge p s.size with hlt | hge
    · have hb1 : ((p : Int) == (s.size : Int)) = false := by rw [beq_eq_false_iff_ne]; omega
      have hd1 : ((p : Int) = (s.size : Int)) = False := eq_false (by omega)
      obtain ⟨x, hx⟩ : ∃ x, s[p] = x := ⟨_, rfl⟩
      have HD : Hid (s.data.toList.drop p = x :: s.data.toList.drop (p + 1)) := by
        rw [Hid, List.drop_eq_getElem_cons (by rw [HS.out]; omega), ← hx]; rfl
      by_cases h35 : x = 35
      · subst h35
        have HU : Hid (wordsF 0 [] s.data.toList = .inr ws) := by rw [Hid, HP.out, HD.out, words_hash]
        clear HP HD
        go_wp2
        all_goals (try simp only [Exit.jump])
        refine bodyPost_ret (v := .tuple #[.slice A n c, .agg #[.int .i64 0, .int .i64 0]]) (by simp [results, Tryd.results18, go_sem, r0, r1, r2, r3]) rfl ?_
        rw [HU.out]
        exact ⟨⟨A, n, c, rfl, HL.out, own_chg HO.out ((Chg.put _ _ _ _).trans (Chg.put _ _ _ _) (fun _ _ h => h)) (fun b hb hx => by have := (World.ownsRow.lt HO.out) b hb; have : b = w.heap.size := hx; omega)⟩, HC.out.trans (S' := One w.heap.size) (((Chg.put _ _ _ _).trans (Chg.put _ _ _ _) (fun _ _ h => h))) (fun i hi hx => by have : i = w.heap.size := hx; omega)⟩
      have hb35 : ((x.toNat : Int) == 35) = false := beq_eq_false_iff_ne.2 (fun h => h35 (UInt8.toNat_inj.1 (Int.ofNat.inj h)))
      by_cases h32 : x = 32
      · subst h32
        have HP1 : Hid (wordsF 0 [] s.data.toList = wordsF (p + 1) ws (s.data.toList.drop (p + 1))) := by rw [Hid, HP.out, HD.out, words_space]
        clear HP HD
        go_wp2
        go_step3
        refine ⟨rfl, woJ_intro _ HC.out (p + 1) n ws A c rfl rfl rfl rfl rfl rfl rfl HR HO HL (by omega) (by omega) HP1, ?_⟩
        show s.size + 1 - ((p + 1 : Nat) : Int).toNat < s.size + 1 - ((p : Nat) : Int).toNat
        omega
      have hb32 : ((x.toNat : Int) == 32) = false := beq_eq_false_iff_ne.2 (fun h => h32 (UInt8.toNat_inj.1 (Int.ofNat.inj h)))
      by_cases h34 : x = 34
      · subst h34
        have HEC : Hid (∀ w1, Calls Tryd.prog 36 #[.string s, .int .i64 (p : Int)] w1 fun e w' => e = .returned (.int .i64 (endV (p + 1) (endL (s.data.toList.drop (p + 1))))) ∧ Chg No w1 w') := fun w1 => end_calls w1 s (by omega) p hlt
        cases hk : endL (s.data.toList.drop (p + 1)) with
        | none =>
          have HU : Hid (wordsF 0 [] s.data.toList = .inl p) := by rw [Hid, HP.out, HD.out, words_q0 _ _ _ hk]
          rw [hk] at HEC
          simp only [endV] at HEC
          clear HP HD hk
          go_wp2_with (go_at_call 36; refine Hid.out ?_)
          refine Lib.hid ?_
          refine (HEC.out _).mono ?_
          rintro e w2 ⟨rfl, hc2⟩
          have HC2 : Hid (Chg No w w2) := HC.out.no hc2
          have HR2 : Hid (w2.heap[w.heap.size]? = some (.cells #[.int .i64 0, .int .i64 0] 26 (0, 0))) := hc2.heap HR.out (fun x => x)
          have HO2 : Hid (w2.ownsRow (w.heap.size + 1) 9 1 (.slice A n c) n (strs ws)) := own_chg HO.out hc2 (fun _ _ x => x)
          have hsz2 : w.heap.size < w2.heap.size := Nat.lt_of_lt_of_le hsz hc2.size
          clear hc2 HC HR HO hsz r0 r1 r2 r3
          have HC := HC2
          have HR := HR2
          have HO := HO2
          have hsz := hsz2
          clear HC2 HR2 HO2 hsz2
          obtain ⟨r0, r1, r2, r3⟩ := cells2 HR.out
          go_wp2
          all_goals (try simp only [Exit.jump])
          refine bodyPost_ret (v := .tuple #[.slice none 0 0, .agg #[.int .i64 150, .int .i64 (p : Int)]]) (by simp [results, Tryd.results18, go_sem, r0, r1, r2, r3]) rfl ?_
          rw [HU.out]
          exact ⟨rfl, HC.out.trans (S' := One w.heap.size) (((Chg.put _ _ _ _).trans (Chg.put _ _ _ _) (fun _ _ h => h))) (fun i hi hx => by have : i = w.heap.size := hx; omega)⟩
        | some k =>
          have hkk := endL_pos _ _ (Nat.le_refl _) k hk
          rw [List.length_drop, HS.out] at hkk
          obtain ⟨q, hq⟩ : ∃ q, p + 1 + k = q := ⟨_, rfl⟩
          rw [hk] at HEC
          simp only [endV, hq] at HEC
          have hqs : q ≤ s.size := by omega
          have hqp : p + 1 < q := by omega
          have HX : Hid ((s.extract p q).data.toList = 34 :: (s.data.toList.drop (p + 1)).take k) := by
            rw [Hid, ByteArray.data_extract, Array.toList_extract, List.extract_eq_take_drop, HD.out]
            have : q - p = k + 1 := by omega
            rw [this, List.take_succ_cons]
          have HXD : Hid ((s.data.toList.drop (p + 1)).drop k = s.data.toList.drop q) := by rw [Hid, List.drop_drop, hq]
          have hi0 : ¬ ((q : Int) < 0) := by omega
          have hi1 : (p : Int) ≤ (q : Int) := by omega
          have hi2 : (q : Int) ≤ (s.size : Int) := by omega
          have hqi : 0 ≤ (q : Int) := by omega
          have hxs : (s.extract p q).size ≤ 8796093022000 := by rw [ByteArray.size_extract]; omega
          have HUC : Hid (∀ w1, Calls Tryd.prog 37 #[.string (s.extract p q)] w1 fun e w' => e = plainlyR (unqF (s.extract p q).data.toList) ∧ Chg No w1 w') := fun w1 => unquote_calls w1 _ (by omega)
          rw [HX.out] at HUC
          have HK := Lib.hid hk
          clear hk
          -- is there a space, or an end, behind it?
          by_cases hsp : (s.data.toList.drop q).head?.getD 32 = 32
          case neg =>
            have hqlt : q < s.size := by
              rcases Nat.lt_or_ge q s.size with h | h
              · exact h
              · rw [List.drop_of_length_le (by rw [HS.out]; exact h)] at hsp; exact absurd rfl hsp
            have HU : Hid (wordsF 0 [] s.data.toList = .inl p) := by rw [Hid, HP.out, HD.out, words_q1 _ _ _ k HK.out (by rw [HXD.out]; exact hsp)]
            have hql : (q : Int) < (s.size : Int) := by omega
            obtain ⟨y, hy⟩ : ∃ y, s[q] = y := ⟨_, rfl⟩
            have hy32 : y ≠ 32 := by
              intro h
              rw [List.drop_eq_getElem_cons (by rw [HS.out]; exact hqlt)] at hsp
              exact hsp (by show s.data.toList[q] = 32; rw [← h, ← hy]; rfl)
            have hby : ((y.toNat : Int) != 32) = true := bne_iff_ne.2 (fun h => hy32 (UInt8.toNat_inj.1 (Int.ofNat.inj h)))
            clear HP HD HUC HX HXD hsp hy32
            go_wp2_with (go_at_call 36; refine Hid.out ?_)
            refine Lib.hid ?_
            refine (HEC.out _).mono ?_
            rintro e w2 ⟨rfl, hc2⟩
            have HC2 : Hid (Chg No w w2) := HC.out.no hc2
            have HR2 : Hid (w2.heap[w.heap.size]? = some (.cells #[.int .i64 0, .int .i64 0] 26 (0, 0))) := hc2.heap HR.out (fun x => x)
            have HO2 : Hid (w2.ownsRow (w.heap.size + 1) 9 1 (.slice A n c) n (strs ws)) := own_chg HO.out hc2 (fun _ _ x => x)
            have hsz2 : w.heap.size < w2.heap.size := Nat.lt_of_lt_of_le hsz hc2.size
            clear hc2 HC HR HO hsz r0 r1 r2 r3
            have HC := HC2
            have HR := HR2
            have HO := HO2
            have hsz := hsz2
            clear HC2 HR2 HO2 hsz2
            obtain ⟨r0, r1, r2, r3⟩ := cells2 HR.out
            go_wp2
            all_goals (try simp only [Exit.jump])
            refine bodyPost_ret (v := .tuple #[.slice none 0 0, .agg #[.int .i64 150, .int .i64 (p : Int)]]) (by simp [results, Tryd.results18, go_sem, r0, r1, r2, r3]) rfl ?_
            rw [HU.out]
            exact ⟨rfl, HC.out.trans (S' := One w.heap.size) (((Chg.put _ _ _ _).trans (Chg.put _ _ _ _) (fun _ _ h => h))) (fun i hi hx => by have : i = w.heap.size := hx; omega)⟩
          have HWU : ∀ o, unqF (34 :: (s.data.toList.drop (p + 1)).take k) = o → Hid (wordsF 0 [] s.data.toList = match o with | none => .inl p | some x => wordsF q (ws ++ [x]) (s.data.toList.drop q)) := by
            intro o ho
            cases o with
            | none => rw [Hid, HP.out, HD.out, words_q2 _ _ _ k HK.out (by rw [HXD.out]; exact hsp) ho]
            | some x => rw [Hid, HP.out, HD.out, words_q3 _ _ _ k x HK.out (by rw [HXD.out]; exact hsp) ho, HXD.out, hq]
          generalize unqF (34 :: (s.data.toList.drop (p + 1)).take k) = o at HWU HUC
          have HW := HWU o rfl
          clear HWU HP HX HXD
          by_cases hqe : q < s.size
          · have hql : (q : Int) < (s.size : Int) := by omega
            obtain ⟨y, hy⟩ : ∃ y, s[q] = y := ⟨_, rfl⟩
            have hy32 : y = 32 := by
              rw [List.drop_eq_getElem_cons (by rw [HS.out]; exact hqe)] at hsp
              rw [← hy]
              exact hsp
            subst hy32
            clear hsp
            go_wp2_with (go_at_call 36; refine Hid.out ?_)
            refine Lib.hid ?_
            refine (HEC.out _).mono ?_
            rintro e w2 ⟨rfl, hc2⟩
            have HC2 : Hid (Chg No w w2) := HC.out.no hc2
            have HR2 : Hid (w2.heap[w.heap.size]? = some (.cells #[.int .i64 0, .int .i64 0] 26 (0, 0))) := hc2.heap HR.out (fun x => x)
            have HO2 : Hid (w2.ownsRow (w.heap.size + 1) 9 1 (.slice A n c) n (strs ws)) := own_chg HO.out hc2 (fun _ _ x => x)
            have hsz2 : w.heap.size < w2.heap.size := Nat.lt_of_lt_of_le hsz hc2.size
            clear hc2 HC HR HO hsz r0 r1 r2 r3
            have HC := HC2
            have HR := HR2
            have HO := HO2
            have hsz := hsz2
            clear HC2 HR2 HO2 hsz2
            obtain ⟨r0, r1, r2, r3⟩ := cells2 HR.out
            clear HEC
            go_wp2_with (go_at_call 37; refine Hid.out ?_)
            refine Lib.hid ?_
            refine (HUC.out _).mono ?_
            rintro e w3 ⟨rfl, hc2⟩
            have HC2 : Hid (Chg No w w3) := HC.out.no hc2
            have HR2 : Hid (w3.heap[w.heap.size]? = some (.cells #[.int .i64 0, .int .i64 0] 26 (0, 0))) := hc2.heap HR.out (fun x => x)
            have HO2 : Hid (w3.ownsRow (w.heap.size + 1) 9 1 (.slice A n c) n (strs ws)) := own_chg HO.out hc2 (fun _ _ x => x)
            have hsz2 : w.heap.size < w3.heap.size := Nat.lt_of_lt_of_le hsz hc2.size
            clear hc2 HC HR HO hsz r0 r1 r2 r3
            have HC := HC2
            have HR := HR2
            have HO := HO2
            have hsz := hsz2
            clear HC2 HR2 HO2 hsz2
            obtain ⟨r0, r1, r2, r3⟩ := cells2 HR.out
            cases o with
            | none =>
              have HU : Hid (wordsF 0 [] s.data.toList = .inl p) := HW
              simp only [plainlyR]
              go_wp2
              all_goals (try simp only [Exit.jump])
              refine bodyPost_ret (v := .tuple #[.slice none 0 0, .agg #[.int .i64 150, .int .i64 (p : Int)]]) (by simp [results, Tryd.results18, go_sem, r0, r1, r2, r3]) rfl ?_
              rw [HU.out]
              exact ⟨rfl, HC.out.trans (S' := One w.heap.size) (((Chg.put _ _ _ _).trans (Chg.put _ _ _ _) (fun _ _ h => h))) (fun i hi hx => by have : i = w.heap.size := hx; omega)⟩
            | some x =>
              have HP1 : Hid (wordsF 0 [] s.data.toList = wordsF q (ws ++ [x]) (s.data.toList.drop q)) := HW
              simp only [plainlyR]
              go_wp2_with (at_builtin; (refine wpList_app _ rfl (.tmp 66) (.tmp 68) 43 43 rfl (w.heap.size + 1) 9 (.string ⟨#[]⟩) 1 16 infoStr Tryd.underlying43 rfl (by decide) (.slice A n c) (.slice (some ⟨w3.heap.size, 0, none⟩) 1 1) n 1 (strs ws) [.string (mkS x)] rfl rfl ?own ?src ?b1 ?b2 ?b3 ?_; (case own => exact own_chg HO.out ((Chg.refl No _).alloc _) (fun _ _ x => x)); (case src => exact Src.one Tryd.underlying43 _ rfl); (case b1 => omega); (case b2 => unfold maxLen; omega); (case b3 => simp; omega); intro v' w1 hown hg; refine Hid.out ?_))
              refine Lib.hid ?_
              obtain ⟨A', c', rfl⟩ := own_form hown
              have HO' : Hid (w1.ownsRow (w.heap.size + 1) 9 1 (.slice A' (n + 1) c') (n + 1) (strs (ws ++ [x]))) := by rw [Hid, strs, List.map_append]; exact hown
              have HL' : Hid ((ws ++ [x]).length = n + 1) := by rw [Hid, List.length_append, HL.out]; rfl
              have HC1 : Hid (Chg No w w1) := ((HC.out).alloc _).grown hg (fun k hk => .inl (by have := (World.ownsRow.lt HO.out) k hk; omega))
              have HR' : Hid (w1.heap[w.heap.size]? = some (.cells #[.int .i64 0, .int .i64 0] 26 (0, 0))) := by
                have h0 := ((Chg.refl No w3).alloc (.cells #[.string (mkS x)] 9)).heap HR.out (fun x => x)
                have hlt : w.heap.size < w3.heap.size := hsz
                rw [Hid, ← h0]
                exact hg.block _ (by simp; omega) (fun e => by have := (World.ownsRow.lt HO.out) _ e.symm; omega)
              clear hown hg
              go_wp2
              go_step3
              refine ⟨rfl, woJ_intro _ HC1.out (q) (n + 1) (ws ++ [x]) A' c' rfl rfl rfl rfl rfl rfl rfl HR' HO' HL' (by omega) (by omega) HP1, ?_⟩
              show s.size + 1 - ((q : Nat) : Int).toNat < s.size + 1 - ((p : Nat) : Int).toNat
              omega
          · have hql : ¬ ((q : Int) < (s.size : Int)) := by omega
            clear hsp
            go_wp2_with (go_at_call 36; refine Hid.out ?_)
            refine Lib.hid ?_
            refine (HEC.out _).mono ?_
            rintro e w2 ⟨rfl, hc2⟩
            have HC2 : Hid (Chg No w w2) := HC.out.no hc2
            have HR2 : Hid (w2.heap[w.heap.size]? = some (.cells #[.int .i64 0, .int .i64 0] 26 (0, 0))) := hc2.heap HR.out (fun x => x)
            have HO2 : Hid (w2.ownsRow (w.heap.size + 1) 9 1 (.slice A n c) n (strs ws)) := own_chg HO.out hc2 (fun _ _ x => x)
            have hsz2 : w.heap.size < w2.heap.size := Nat.lt_of_lt_of_le hsz hc2.size
            clear hc2 HC HR HO hsz r0 r1 r2 r3
            have HC := HC2
            have HR := HR2
            have HO := HO2
            have hsz := hsz2
            clear HC2 HR2 HO2 hsz2
            obtain ⟨r0, r1, r2, r3⟩ := cells2 HR.out
            clear HEC
            go_wp2_with (go_at_call 37; refine Hid.out ?_)
            refine Lib.hid ?_
            refine (HUC.out _).mono ?_
            rintro e w3 ⟨rfl, hc2⟩
            have HC2 : Hid (Chg No w w3) := HC.out.no hc2
            have HR2 : Hid (w3.heap[w.heap.size]? = some (.cells #[.int .i64 0, .int .i64 0] 26 (0, 0))) := hc2.heap HR.out (fun x => x)
            have HO2 : Hid (w3.ownsRow (w.heap.size + 1) 9 1 (.slice A n c) n (strs ws)) := own_chg HO.out hc2 (fun _ _ x => x)
            have hsz2 : w.heap.size < w3.heap.size := Nat.lt_of_lt_of_le hsz hc2.size
            clear hc2 HC HR HO hsz r0 r1 r2 r3
            have HC := HC2
            have HR := HR2
            have HO := HO2
            have hsz := hsz2
            clear HC2 HR2 HO2 hsz2
            obtain ⟨r0, r1, r2, r3⟩ := cells2 HR.out
            cases o with
            | none =>
              have HU : Hid (wordsF 0 [] s.data.toList = .inl p) := HW
              simp only [plainlyR]
              go_wp2
              all_goals (try simp only [Exit.jump])
              refine bodyPost_ret (v := .tuple #[.slice none 0 0, .agg #[.int .i64 150, .int .i64 (p : Int)]]) (by simp [results, Tryd.results18, go_sem, r0, r1, r2, r3]) rfl ?_
              rw [HU.out]
              exact ⟨rfl, HC.out.trans (S' := One w.heap.size) (((Chg.put _ _ _ _).trans (Chg.put _ _ _ _) (fun _ _ h => h))) (fun i hi hx => by have : i = w.heap.size := hx; omega)⟩
            | some x =>
              have HP1 : Hid (wordsF 0 [] s.data.toList = wordsF q (ws ++ [x]) (s.data.toList.drop q)) := HW
              simp only [plainlyR]
              go_wp2_with (at_builtin; (refine wpList_app _ rfl (.tmp 66) (.tmp 68) 43 43 rfl (w.heap.size + 1) 9 (.string ⟨#[]⟩) 1 16 infoStr Tryd.underlying43 rfl (by decide) (.slice A n c) (.slice (some ⟨w3.heap.size, 0, none⟩) 1 1) n 1 (strs ws) [.string (mkS x)] rfl rfl ?own ?src ?b1 ?b2 ?b3 ?_; (case own => exact own_chg HO.out ((Chg.refl No _).alloc _) (fun _ _ x => x)); (case src => exact Src.one Tryd.underlying43 _ rfl); (case b1 => omega); (case b2 => unfold maxLen; omega); (case b3 => simp; omega); intro v' w1 hown hg; refine Hid.out ?_))
              refine Lib.hid ?_
              obtain ⟨A', c', rfl⟩ := own_form hown
              have HO' : Hid (w1.ownsRow (w.heap.size + 1) 9 1 (.slice A' (n + 1) c') (n + 1) (strs (ws ++ [x]))) := by rw [Hid, strs, List.map_append]; exact hown
              have HL' : Hid ((ws ++ [x]).length = n + 1) := by rw [Hid, List.length_append, HL.out]; rfl
              have HC1 : Hid (Chg No w w1) := ((HC.out).alloc _).grown hg (fun k hk => .inl (by have := (World.ownsRow.lt HO.out) k hk; omega))
              have HR' : Hid (w1.heap[w.heap.size]? = some (.cells #[.int .i64 0, .int .i64 0] 26 (0, 0))) := by
                have h0 := ((Chg.refl No w3).alloc (.cells #[.string (mkS x)] 9)).heap HR.out (fun x => x)
                have hlt : w.heap.size < w3.heap.size := hsz
                rw [Hid, ← h0]
                exact hg.block _ (by simp; omega) (fun e => by have := (World.ownsRow.lt HO.out) _ e.symm; omega)
              clear hown hg
              go_wp2
              go_step3
              refine ⟨rfl, woJ_intro _ HC1.out (q) (n + 1) (ws ++ [x]) A' c' rfl rfl rfl rfl rfl rfl rfl HR' HO' HL' (by omega) (by omega) HP1, ?_⟩
              show s.size + 1 - ((q : Nat) : Int).toNat < s.size + 1 - ((p : Nat) : Int).toNat
              omega
      have hb34 : ((x.toNat : Int) == 34) = false := beq_eq_false_iff_ne.2 (fun h => h34 (UInt8.toNat_inj.1 (Int.ofNat.inj h)))
      obtain ⟨k, hk⟩ : ∃ k, ((s.data.toList.drop (p + 1)).takeWhile (· ≠ 32)).length = k := ⟨_, rfl⟩
      have HPW := Lib.hid (words_plain p ws x (s.data.toList.drop (p + 1)) h35 h32 h34)
      rw [hk, List.drop_drop] at HPW
      have hkl := tw_len (s.data.toList.drop (p + 1))
      rw [hk, List.length_drop, HS.out] at hkl
      have HTW : Hid ((s.data.toList.drop (p + 1)).takeWhile (· ≠ 32) = (s.data.toList.drop (p + 1)).take k) := by rw [Hid, ← hk, tw_drop]
      obtain ⟨q, hq⟩ : ∃ q, p + 1 + k = q := ⟨_, rfl⟩
      have hqs : q ≤ s.size := by omega
      have hqp : p < q := by omega
      have HX : Hid ((s.extract p q).data.toList = x :: (s.data.toList.drop (p + 1)).takeWhile (· ≠ 32)) := by
        rw [Hid, ByteArray.data_extract, Array.toList_extract, List.extract_eq_take_drop, HD.out, HTW.out]
        have : q - p = k + 1 := by omega
        rw [this, List.take_succ_cons]
      have HIB : Hid (Lib.indexByte (s.extract p s.size).data.toList 32 = if q = s.size then -1 else ((q - p : Nat) : Int)) := by
        rw [Hid, extract_list, HD.out, indexByte_tw, List.takeWhile_cons_of_pos (by simpa using h32)]
        simp only [List.length_cons, hk, List.length_drop, HS.out]
        by_cases hh : q = s.size
        · rw [if_pos hh, if_pos (by omega)]
        · rw [if_neg hh, if_neg (by omega)]; omega
      have hqi : 0 ≤ (q : Int) := by omega
      have hi1 : (p : Int) ≤ (q : Int) := by omega
      have hi2 : (q : Int) ≤ (s.size : Int) := by omega
      have hpi : (p : Int) ≤ (s.size : Int) := by omega
      have hpp : 0 ≤ (p : Int) := by omega
      have HIC : Hid (∀ w1, Calls Tryd.prog 38 #[.string (s.extract p s.size), .int .u8 32] w1 fun e w' => e = .returned (.int .i64 (if q = s.size then -1 else ((q - p : Nat) : Int))) ∧ w1 = w') := by
        intro w1
        have h := indexbyte_calls (s.extract p s.size) 32 w1
        rw [show (32 : Int).toNat.toUInt8 = 32 from rfl, HIB.out] at h
        exact h
      have HPC : Hid (∀ w1, Calls Tryd.prog 39 #[.string (s.extract p q)] w1 fun e w' => e = .returned (.bool (plainF (s.extract p q).data.toList)) ∧ Chg No w1 w') := fun w1 => plain_calls w1 _ (by rw [ByteArray.size_extract]; omega)
      rw [HX.out] at HPC
      rw [hq] at HPW
      generalize x :: (s.data.toList.drop (p + 1)).takeWhile (· ≠ 32) = W at HPC HPW HX
      have HXS : Hid (s.extract p q = mkS W) := by rw [Hid, ← HX.out, mkS_self]
      have HWW : Hid (wordsF 0 [] s.data.toList = if plainF W then wordsF q (ws ++ [W]) (s.data.toList.drop q) else .inl p) := by rw [Hid, HP.out, HD.out, HPW.out]
      clear HP HPW HTW HIB HD hk hq hkl
      generalize hpb : plainF W = pb at HPC HWW
      clear hpb
      by_cases hqe : q = s.size
      · rw [if_pos hqe] at HIC
        have hil : ((-1 : Int) < 0) = True := eq_true (by omega)
        subst hqe
        go_wp2_with (first | (go_at_call 38; refine (HIC.out _).mono ?_; rintro e w' ⟨rfl, rfl⟩) | (go_at_call 39; refine Hid.out ?_))
        refine Lib.hid ?_
        refine (HPC.out _).mono ?_
        rintro e w2 ⟨rfl, hc2⟩
        have HC2 : Hid (Chg No w w2) := HC.out.no hc2
        have HR2 : Hid (w2.heap[w.heap.size]? = some (.cells #[.int .i64 0, .int .i64 0] 26 (0, 0))) := hc2.heap HR.out (fun x => x)
        have HO2 : Hid (w2.ownsRow (w.heap.size + 1) 9 1 (.slice A n c) n (strs ws)) := own_chg HO.out hc2 (fun _ _ x => x)
        have hsz2 : w.heap.size < w2.heap.size := Nat.lt_of_lt_of_le hsz hc2.size
        clear hc2 HC HR HO hsz r0 r1 r2 r3
        have HC := HC2
        have HR := HR2
        have HO := HO2
        have hsz := hsz2
        clear HC2 HR2 HO2 hsz2
        obtain ⟨r0, r1, r2, r3⟩ := cells2 HR.out
        cases pb with
        | false =>
          have HU : Hid (wordsF 0 [] s.data.toList = .inl p) := by rw [Hid, HWW.out]; rfl
          go_wp2
          all_goals (try simp only [Exit.jump])
          refine bodyPost_ret (v := .tuple #[.slice none 0 0, .agg #[.int .i64 150, .int .i64 (p : Int)]]) (by simp [results, Tryd.results18, go_sem, r0, r1, r2, r3]) rfl ?_
          rw [HU.out]
          exact ⟨rfl, HC.out.trans (S' := One w.heap.size) (((Chg.put _ _ _ _).trans (Chg.put _ _ _ _) (fun _ _ h => h))) (fun i hi hx => by have : i = w.heap.size := hx; omega)⟩
        | true =>
          have HP1 : Hid (wordsF 0 [] s.data.toList = wordsF (s.size) (ws ++ [W]) (s.data.toList.drop (s.size))) := by rw [Hid, HWW.out, if_pos rfl]
          go_wp2_with (at_builtin; (refine wpList_app _ rfl (.tmp 91) (.tmp 98) 43 43 rfl (w.heap.size + 1) 9 (.string ⟨#[]⟩) 1 16 infoStr Tryd.underlying43 rfl (by decide) (.slice A n c) (.slice (some ⟨w2.heap.size, 0, none⟩) 1 1) n 1 (strs ws) [.string (s.extract p (s.size))] rfl rfl ?own ?src ?b1 ?b2 ?b3 ?_; (case own => exact own_chg HO.out ((Chg.refl No _).alloc _) (fun _ _ x => x)); (case src => exact Src.one Tryd.underlying43 _ rfl); (case b1 => omega); (case b2 => unfold maxLen; omega); (case b3 => simp; omega); intro v' w1 hown hg; refine Hid.out ?_))
          refine Lib.hid ?_
          obtain ⟨A', c', rfl⟩ := own_form hown
          have HO' : Hid (w1.ownsRow (w.heap.size + 1) 9 1 (.slice A' (n + 1) c') (n + 1) (strs (ws ++ [W]))) := by rw [Hid, strs, List.map_append]; simp only [List.map_cons, List.map_nil, ← HXS.out]; exact hown
          have HL' : Hid ((ws ++ [W]).length = n + 1) := by rw [Hid, List.length_append, HL.out]; rfl
          have HC1 : Hid (Chg No w w1) := ((HC.out).alloc _).grown hg (fun k hk => .inl (by have := (World.ownsRow.lt HO.out) k hk; omega))
          have HR' : Hid (w1.heap[w.heap.size]? = some (.cells #[.int .i64 0, .int .i64 0] 26 (0, 0))) := by
            have h0 := ((Chg.refl No w2).alloc (.cells #[.string (s.extract p (s.size))] 9)).heap HR.out (fun x => x)
            have hlt : w.heap.size < w2.heap.size := hsz
            rw [Hid, ← h0]
            exact hg.block _ (by simp; omega) (fun e => by have := (World.ownsRow.lt HO.out) _ e.symm; omega)
          clear hown hg
          go_wp2
          go_step3
          refine ⟨rfl, woJ_intro _ HC1.out (s.size) (n + 1) (ws ++ [W]) A' c' rfl rfl rfl rfl rfl rfl (congrArg (Value.int .i64) (by omega)) HR' HO' HL' (by omega) (by omega) HP1, ?_⟩
          show s.size + 1 - ((p : Int) + ((s.size : Int) - (p : Int))).toNat < s.size + 1 - ((p : Nat) : Int).toNat
          omega
      · rw [if_neg hqe] at HIC
        obtain ⟨m, rfl⟩ : ∃ m, q = p + m := ⟨q - p, by omega⟩
        rw [show p + m - p = m by omega] at HIC
        have hil : ¬ ((m : Int) < 0) := by omega
        have hi1 : (p : Int) ≤ (p : Int) + (m : Int) := by omega
        have hi2 : (p : Int) + (m : Int) ≤ (s.size : Int) := by omega
        go_wp2_with (first | (go_at_call 38; refine (HIC.out _).mono ?_; rintro e w' ⟨rfl, rfl⟩) | (go_at_call 39; refine Hid.out ?_))
        refine Lib.hid ?_
        refine (HPC.out _).mono ?_
        rintro e w2 ⟨rfl, hc2⟩
        have HC2 : Hid (Chg No w w2) := HC.out.no hc2
        have HR2 : Hid (w2.heap[w.heap.size]? = some (.cells #[.int .i64 0, .int .i64 0] 26 (0, 0))) := hc2.heap HR.out (fun x => x)
        have HO2 : Hid (w2.ownsRow (w.heap.size + 1) 9 1 (.slice A n c) n (strs ws)) := own_chg HO.out hc2 (fun _ _ x => x)
        have hsz2 : w.heap.size < w2.heap.size := Nat.lt_of_lt_of_le hsz hc2.size
        clear hc2 HC HR HO hsz r0 r1 r2 r3
        have HC := HC2
        have HR := HR2
        have HO := HO2
        have hsz := hsz2
        clear HC2 HR2 HO2 hsz2
        obtain ⟨r0, r1, r2, r3⟩ := cells2 HR.out
        cases pb with
        | false =>
          have HU : Hid (wordsF 0 [] s.data.toList = .inl p) := by rw [Hid, HWW.out]; rfl
          go_wp2
          all_goals (try simp only [Exit.jump])
          refine bodyPost_ret (v := .tuple #[.slice none 0 0, .agg #[.int .i64 150, .int .i64 (p : Int)]]) (by simp [results, Tryd.results18, go_sem, r0, r1, r2, r3]) rfl ?_
          rw [HU.out]
          exact ⟨rfl, HC.out.trans (S' := One w.heap.size) (((Chg.put _ _ _ _).trans (Chg.put _ _ _ _) (fun _ _ h => h))) (fun i hi hx => by have : i = w.heap.size := hx; omega)⟩
        | true =>
          have HP1 : Hid (wordsF 0 [] s.data.toList = wordsF (p + m) (ws ++ [W]) (s.data.toList.drop (p + m))) := by rw [Hid, HWW.out, if_pos rfl]
          go_wp2_with (at_builtin; (refine wpList_app _ rfl (.tmp 91) (.tmp 98) 43 43 rfl (w.heap.size + 1) 9 (.string ⟨#[]⟩) 1 16 infoStr Tryd.underlying43 rfl (by decide) (.slice A n c) (.slice (some ⟨w2.heap.size, 0, none⟩) 1 1) n 1 (strs ws) [.string (s.extract p (p + m))] rfl rfl ?own ?src ?b1 ?b2 ?b3 ?_; (case own => exact own_chg HO.out ((Chg.refl No _).alloc _) (fun _ _ x => x)); (case src => exact Src.one Tryd.underlying43 _ rfl); (case b1 => omega); (case b2 => unfold maxLen; omega); (case b3 => simp; omega); intro v' w1 hown hg; refine Hid.out ?_))
          refine Lib.hid ?_
          obtain ⟨A', c', rfl⟩ := own_form hown
          have HO' : Hid (w1.ownsRow (w.heap.size + 1) 9 1 (.slice A' (n + 1) c') (n + 1) (strs (ws ++ [W]))) := by rw [Hid, strs, List.map_append]; simp only [List.map_cons, List.map_nil, ← HXS.out]; exact hown
          have HL' : Hid ((ws ++ [W]).length = n + 1) := by rw [Hid, List.length_append, HL.out]; rfl
          have HC1 : Hid (Chg No w w1) := ((HC.out).alloc _).grown hg (fun k hk => .inl (by have := (World.ownsRow.lt HO.out) k hk; omega))
          have HR' : Hid (w1.heap[w.heap.size]? = some (.cells #[.int .i64 0, .int .i64 0] 26 (0, 0))) := by
            have h0 := ((Chg.refl No w2).alloc (.cells #[.string (s.extract p (p + m))] 9)).heap HR.out (fun x => x)
            have hlt : w.heap.size < w2.heap.size := hsz
            rw [Hid, ← h0]
            exact hg.block _ (by simp; omega) (fun e => by have := (World.ownsRow.lt HO.out) _ e.symm; omega)
          clear hown hg
          go_wp2
          go_step3
          refine ⟨rfl, woJ_intro _ HC1.out (p + m) (n + 1) (ws ++ [W]) A' c' rfl rfl rfl rfl rfl rfl (congrArg (Value.int .i64) (by omega)) HR' HO' HL' (by omega) (by omega) HP1, ?_⟩
          show s.size + 1 - ((p + m : Nat) : Int).toNat < s.size + 1 - ((p : Nat) : Int).toNat
          omega
    · have hb1 : ((p : Int) == (s.size : Int)) = true := by rw [beq_iff_eq]; omega
      have hd1 : ((p : Int) = (s.size : Int)) = True := eq_true (by omega)
      have HU : Hid (wordsF 0 [] s.data.toList = .inr ws) := by rw [Hid, HP.out, List.drop_of_length_le (by rw [HS.out]; omega), words_nil]
      clear HP
      go_wp2
      all_goals (try simp only [Exit.jump])
      refine bodyPost_ret (v := .tuple #[.slice A n c, .agg #[.int .i64 0, .int .i64 0]]) (by simp [results, Tryd.results18, go_sem, r0, r1, r2, r3]) rfl ?_
      rw [HU.out]
      exact ⟨⟨A, n, c, rfl, HL.out, own_chg HO.out ((Chg.put _ _ _ _).trans (Chg.put _ _ _ _) (fun _ _ h => h)) (fun b hb hx => by have := (World.ownsRow.lt HO.out) b hb; have : b = w.heap.size := hx; omega)⟩, HC.out.trans (S' := One w.heap.size) (((Chg.put _ _ _ _).trans (Chg.put _ _ _ _) (fun _ _ h => h))) (fun i hi hx => by have : i = w.heap.size := hx; omega)⟩
  · intro hpass
    go_wp2
    go_step3
    rename_i hKK
    refine hKK _ _ (hpass _ _ (woJ_intro _ ((Chg.refl No w).alloc _) 0 0 [] none 0 rfl rfl rfl rfl rfl rfl rfl (heap_alloc_new w _) (World.ownsRow_nil _ _ _ _) rfl (Nat.le_refl _) (Nat.zero_le _) ?_))
    rw [Hid, List.drop_zero]
end Go.Proofs.YtcomcoolmabmgaaDoor

namespace Go.Proofs.YtcomcoolmabmgaaDoor
set_option linter.unnecessarySimpa false
open Go.RowKit
set_option linter.unusedVariables false
set_option linter.unusedSimpArgs false
set_option maxRecDepth 100000

/-- What the reference's Words tells. -/
def RWordsR (base : Nat) (w' : World) (e : Ending) : Nat ⊕ List (List UInt8) → Prop
  | .inl p => e = .returned (.tuple #[.slice none 0 0, .int .i64 (p : Int)])
  | .inr ws => ∃ A n c, e = .returned (.tuple #[.slice A n c, .int .i64 (-1)]) ∧ ws.length = n ∧ w'.ownsRow base 9 1 (.slice A n c) n (strs ws)
theorem endV_neg {a : Nat} {o : Option Nat} (h : endV a o = -1) : o = none := by
  cases o with
  | none => rfl
  | some k => simp only [endV] at h; omega
theorem endV_pos {a q : Nat} {o : Option Nat} (h : endV a o = (q : Int)) : ∃ k, o = some k ∧ a + k = q := by
  cases o with
  | none => simp only [endV] at h; omega
  | some k => exact ⟨k, rfl, by simp only [endV] at h; omega⟩
theorem tw_mem (l : List UInt8) (x : UInt8) (h : x ∈ l.takeWhile (· ≠ 32)) : x ≠ 32 := by
  induction l with
  | nil => simp at h
  | cons b t ih =>
    by_cases hb : b = 32
    · subst hb; simp at h
    · rw [List.takeWhile_cons_of_pos (by simpa using hb)] at h
      rcases List.mem_cons.1 h with rfl | h
      · exact hb
      · exact ih h
theorem tw_lt (l : List UInt8) (i : Nat) (h : i < (l.takeWhile (· ≠ 32)).length) : ∃ h2 : i < l.length, l[i] ≠ 32 := by
  have hp := List.takeWhile_prefix (fun x : UInt8 => decide (x ≠ 32)) (l := l)
  have hl := Nat.lt_of_lt_of_le h hp.length_le
  refine ⟨hl, ?_⟩
  rw [← hp.getElem h]
  exact tw_mem l _ (List.getElem_mem h)
theorem tw_end (l : List UInt8) (h : (l.takeWhile (· ≠ 32)).length < l.length) : l[(l.takeWhile (· ≠ 32)).length] = 32 := by
  induction l with
  | nil => simp at h
  | cons b t ih =>
    by_cases hb : b = 32
    · subst hb; simp
    · have e : (b :: t).takeWhile (· ≠ 32) = b :: t.takeWhile (· ≠ 32) := List.takeWhile_cons_of_pos (by simpa using hb)
      simp only [e, List.length_cons] at h ⊢
      rw [List.getElem_cons_succ]
      exact ih (by omega)

set_option maxHeartbeats 6400000 in
theorem rwords_calls (w : World) (s : ByteArray) (hs : s.size ≤ 8796093022000) :
    Calls Tryd.prog 25 #[.string s] w fun e w' => RWordsR w.heap.size w' e (wordsF 0 [] s.data.toList) ∧ Chg No w w' := by
  have HS := Lib.hid (size_list s)
  go_enter Tryd.func25, Tryd.ntmps25
  go_wp2
  go_loopw [4, 5] (fun v a wr => ∃ (p n : Nat) (A : Option Addr) (c : Nat) (ws : List (List UInt8)), p ≤ s.size ∧ a = .int .i64 (p : Int) ∧ v = .slice A n c ∧ n ≤ p ∧ Hid (wr.ownsRow w.heap.size 9 1 (.slice A n c) n (strs ws)) ∧ Hid (ws.length = n) ∧ w.heap.size ≤ wr.heap.size ∧ Hid (wordsF 0 [] s.data.toList = wordsF p ws (s.data.toList.drop p)) ∧ Hid (Chg No w wr)) (fun _ a _ => s.size - (intOf a).toNat)
  case atStart => exact ⟨0, 0, none, 0, [], Nat.zero_le _, rfl, rfl, Nat.le_refl _, World.ownsRow_nil _ _ _ _, rfl, Nat.le_refl _, rfl, Chg.refl _ _⟩
  case round =>
    obtain ⟨p, n, A, c, ws, hp, rfl, rfl, hn, HO, HL, hsz, HP, HC⟩ := hrel
    by_cases hlt : p < s.size
    · have i1 : (p : Int) < (s.size : Int) := by omega
      obtain ⟨x, hx⟩ : ∃ x, s[p] = x := ⟨_, rfl⟩
      have HD : Hid (s.data.toList.drop p = x :: s.data.toList.drop (p + 1)) := by
        rw [Hid, List.drop_eq_getElem_cons (by rw [HS.out]; omega), ← hx]; rfl
      by_cases h35 : x = 35
      · subst h35
        have HU : Hid (wordsF 0 [] s.data.toList = .inr ws) := by rw [Hid, HP.out, HD.out, words_hash]
        clear HP HD
        go_wp2
        go_ret2
        rw [HU.out]
        exact ⟨⟨A, n, c, rfl, HL.out, HO.out⟩, HC.out⟩
      have hb35 : ((x.toNat : Int) != 35) = true := bne_iff_ne.2 (fun h => h35 (UInt8.toNat_inj.1 (Int.ofNat.inj h)))
      by_cases h32 : x = 32
      · subst h32
        have HP1 : Hid (wordsF 0 [] s.data.toList = wordsF (p + 1) ws (s.data.toList.drop (p + 1))) := by rw [Hid, HP.out, HD.out, words_space]
        clear HP HD
        go_wp2
        go_roundw
        case rel => exact ⟨p + 1, n, A, c, ws, by omega, by go_num, rfl, by omega, HO.out, HL.out, hsz, HP1.out, HC.out⟩
        case measure => simp only [intOf]; omega
      have hb32 : ((x.toNat : Int) == 32) = false := beq_eq_false_iff_ne.2 (fun h => h32 (UInt8.toNat_inj.1 (Int.ofNat.inj h)))
      by_cases h34 : x = 34
      · subst h34
        go_wp2
        go_loopw [6, 7] (fun t cl wr => ∃ (q : Nat) (b : Bool), p + 1 ≤ q ∧ q ≤ s.size + 1 ∧ t = .int .i64 (q : Int) ∧ cl = .bool b ∧ (b = true → q ≤ s.size) ∧ Hid (endV (p + 1) (endL (s.data.toList.drop (p + 1))) = if b then (q : Int) else endV q (endL (s.data.toList.drop q))) ∧ Hid (Chg No w wr) ∧ Hid (wr.ownsRow w.heap.size 9 1 (.slice A n c) n (strs ws)) ∧ w.heap.size ≤ wr.heap.size) (fun t _ _ => s.size + 2 - (intOf t).toNat)
        case atStart => exact ⟨p + 1, false, Nat.le_refl _, by omega, by go_num, rfl, by simp, rfl, HC.out, HO.out, hsz⟩
        case round =>
          clear HC HO hsz
          obtain ⟨q, b, hq1, hq2, rfl, rfl, hbq, HE, HC, HO, hsz⟩ := hrel
          cases b with
          | true =>
            by_cases hqx : q < s.size
            · have hqxx : (q : Int) < (s.size : Int) := by omega
              have hkq := HE.out
              rw [if_pos rfl] at hkq
              obtain ⟨k, hk, hq⟩ := endV_pos hkq
              have hqs : q ≤ s.size := hbq rfl
              have hkk := endL_pos _ _ (Nat.le_refl _) k hk
              have hqp : p + 1 < q := by omega
              have HX : Hid ((s.extract p q).data.toList = 34 :: (s.data.toList.drop (p + 1)).take k) := by
                rw [Hid, ByteArray.data_extract, Array.toList_extract, List.extract_eq_take_drop, HD.out]
                have : q - p = k + 1 := by omega
                rw [this, List.take_succ_cons]
              have HXD : Hid ((s.data.toList.drop (p + 1)).drop k = s.data.toList.drop q) := by rw [Hid, List.drop_drop, hq]
              have hi1 : (p : Int) ≤ (q : Int) := by omega
              have hi2 : (q : Int) ≤ (s.size : Int) := by omega
              have hqi : 0 ≤ (q : Int) := by omega
              have HUC : Hid (∀ w1, Calls Tryd.prog 47 #[.string (s.extract p q)] w1 fun e w' => e = plainlyR (unqF (s.extract p q).data.toList) ∧ Chg No w1 w') := fun w1 => runquote_calls w1 _ (by rw [ByteArray.size_extract]; omega)
              rw [HX.out] at HUC
              have HK := Lib.hid hk
              clear hk hkq HE
              by_cases hsp : (s.data.toList.drop q).head?.getD 32 = 32
              case neg =>
                have HU : Hid (wordsF 0 [] s.data.toList = .inl p) := by rw [Hid, HP.out, HD.out, words_q1 _ _ _ k HK.out (by rw [HXD.out]; exact hsp)]
                obtain ⟨y, hy⟩ : ∃ y, s[q] = y := ⟨_, rfl⟩
                have hy32 : y ≠ 32 := by
                  intro h
                  rw [List.drop_eq_getElem_cons (by rw [HS.out]; exact hqx)] at hsp
                  exact hsp (by show s.data.toList[q] = 32; rw [← h, ← hy]; rfl)
                have hby : ((y.toNat : Int) != 32) = true := bne_iff_ne.2 (fun h => hy32 (UInt8.toNat_inj.1 (Int.ofNat.inj h)))
                clear HP HD HUC HX HXD hsp hy32
                go_wp2
                go_ret2
                rw [HU.out]
                exact ⟨rfl, HC.out⟩
              have HWU : ∀ o, unqF (34 :: (s.data.toList.drop (p + 1)).take k) = o → Hid (wordsF 0 [] s.data.toList = match o with | none => .inl p | some x => wordsF q (ws ++ [x]) (s.data.toList.drop q)) := by
                intro o ho
                cases o with
                | none => rw [Hid, HP.out, HD.out, words_q2 _ _ _ k HK.out (by rw [HXD.out]; exact hsp) ho]
                | some x => rw [Hid, HP.out, HD.out, words_q3 _ _ _ k x HK.out (by rw [HXD.out]; exact hsp) ho, HXD.out, hq]
              generalize unqF (34 :: (s.data.toList.drop (p + 1)).take k) = o at HWU HUC
              have HW := HWU o rfl
              clear HWU HP HX HXD
              obtain ⟨y, hy⟩ : ∃ y, s[q] = y := ⟨_, rfl⟩
              have hy32 : y = 32 := by
                rw [List.drop_eq_getElem_cons (by rw [HS.out]; exact hqx)] at hsp
                rw [← hy]
                exact hsp
              subst hy32
              clear hsp
              go_wp2_with (go_at_call 47; refine Hid.out ?_)
              refine Lib.hid ?_
              refine (HUC.out _).mono ?_
              rintro e w3 ⟨rfl, hc2⟩
              have HC2 : Hid (Chg No w w3) := HC.out.no hc2
              have HO2 : Hid (w3.ownsRow w.heap.size 9 1 (.slice A n c) n (strs ws)) := own_chg HO.out hc2 (fun _ _ x => x)
              have hsz2 : w.heap.size ≤ w3.heap.size := Nat.le_trans hsz hc2.size
              clear hc2 HC HO hsz
              have HC := HC2
              have HO := HO2
              have hsz := hsz2
              clear HC2 HO2 hsz2
              cases o with
              | none =>
                have HU : Hid (wordsF 0 [] s.data.toList = .inl p) := HW
                simp only [plainlyR]
                go_wp2
                go_ret2
                rw [HU.out]
                exact ⟨rfl, HC.out⟩
              | some x =>
                have HP1 : Hid (wordsF 0 [] s.data.toList = wordsF q (ws ++ [x]) (s.data.toList.drop q)) := HW
                simp only [plainlyR]
                go_wp2_with (at_builtin; (refine wpList_app _ rfl (.tmp 78) (.tmp 80) 43 43 rfl w.heap.size 9 (.string ⟨#[]⟩) 1 16 infoStr Tryd.underlying43 rfl (by decide) (.slice A n c) (.slice (some ⟨w3.heap.size, 0, none⟩) 1 1) n 1 (strs ws) [.string (mkS x)] rfl rfl ?own ?src ?b1 ?b2 ?b3 ?_; (case own => exact own_chg HO.out ((Chg.refl No _).alloc _) (fun _ _ x => x)); (case src => exact Src.one Tryd.underlying43 _ rfl); (case b1 => omega); (case b2 => unfold maxLen; omega); (case b3 => simp; omega); intro v' w1 hown hg; refine Hid.out ?_))
                refine Lib.hid ?_
                obtain ⟨A', c', rfl⟩ := own_form hown
                have HO' : Hid (w1.ownsRow w.heap.size 9 1 (.slice A' (n + 1) c') (n + 1) (strs (ws ++ [x]))) := by rw [Hid, strs, List.map_append]; exact hown
                have HL' : Hid ((ws ++ [x]).length = n + 1) := by rw [Hid, List.length_append, HL.out]; rfl
                have HC1 : Hid (Chg No w w1) := ((HC.out).alloc _).grown hg (fun k hk => .inl ((World.ownsRow.lt HO.out) k hk).1)
                clear hown hg
                go_wp2
                go_roundw
                case rel => exact ⟨q, n + 1, A', c', ws ++ [x], by omega, by go_num, rfl, by omega, HO', HL', HC1.out.size, HP1, HC1.out⟩
                case measure => simp only [intOf]; omega
            · have hqxx : ¬ ((q : Int) < (s.size : Int)) := by omega
              have hkq := HE.out
              rw [if_pos rfl] at hkq
              obtain ⟨k, hk, hq⟩ := endV_pos hkq
              have hqs : q ≤ s.size := hbq rfl
              have hkk := endL_pos _ _ (Nat.le_refl _) k hk
              have hqp : p + 1 < q := by omega
              have HX : Hid ((s.extract p q).data.toList = 34 :: (s.data.toList.drop (p + 1)).take k) := by
                rw [Hid, ByteArray.data_extract, Array.toList_extract, List.extract_eq_take_drop, HD.out]
                have : q - p = k + 1 := by omega
                rw [this, List.take_succ_cons]
              have HXD : Hid ((s.data.toList.drop (p + 1)).drop k = s.data.toList.drop q) := by rw [Hid, List.drop_drop, hq]
              have hi1 : (p : Int) ≤ (q : Int) := by omega
              have hi2 : (q : Int) ≤ (s.size : Int) := by omega
              have hqi : 0 ≤ (q : Int) := by omega
              have HUC : Hid (∀ w1, Calls Tryd.prog 47 #[.string (s.extract p q)] w1 fun e w' => e = plainlyR (unqF (s.extract p q).data.toList) ∧ Chg No w1 w') := fun w1 => runquote_calls w1 _ (by rw [ByteArray.size_extract]; omega)
              rw [HX.out] at HUC
              have HK := Lib.hid hk
              clear hk hkq HE
              have hsp : (s.data.toList.drop q).head?.getD 32 = 32 := by rw [List.drop_of_length_le (by rw [HS.out]; omega)]; rfl
              have HWU : ∀ o, unqF (34 :: (s.data.toList.drop (p + 1)).take k) = o → Hid (wordsF 0 [] s.data.toList = match o with | none => .inl p | some x => wordsF q (ws ++ [x]) (s.data.toList.drop q)) := by
                intro o ho
                cases o with
                | none => rw [Hid, HP.out, HD.out, words_q2 _ _ _ k HK.out (by rw [HXD.out]; exact hsp) ho]
                | some x => rw [Hid, HP.out, HD.out, words_q3 _ _ _ k x HK.out (by rw [HXD.out]; exact hsp) ho, HXD.out, hq]
              generalize unqF (34 :: (s.data.toList.drop (p + 1)).take k) = o at HWU HUC
              have HW := HWU o rfl
              clear HWU HP HX HXD
              clear hsp
              go_wp2_with (go_at_call 47; refine Hid.out ?_)
              refine Lib.hid ?_
              refine (HUC.out _).mono ?_
              rintro e w3 ⟨rfl, hc2⟩
              have HC2 : Hid (Chg No w w3) := HC.out.no hc2
              have HO2 : Hid (w3.ownsRow w.heap.size 9 1 (.slice A n c) n (strs ws)) := own_chg HO.out hc2 (fun _ _ x => x)
              have hsz2 : w.heap.size ≤ w3.heap.size := Nat.le_trans hsz hc2.size
              clear hc2 HC HO hsz
              have HC := HC2
              have HO := HO2
              have hsz := hsz2
              clear HC2 HO2 hsz2
              cases o with
              | none =>
                have HU : Hid (wordsF 0 [] s.data.toList = .inl p) := HW
                simp only [plainlyR]
                go_wp2
                go_ret2
                rw [HU.out]
                exact ⟨rfl, HC.out⟩
              | some x =>
                have HP1 : Hid (wordsF 0 [] s.data.toList = wordsF q (ws ++ [x]) (s.data.toList.drop q)) := HW
                simp only [plainlyR]
                go_wp2_with (at_builtin; (refine wpList_app _ rfl (.tmp 78) (.tmp 80) 43 43 rfl w.heap.size 9 (.string ⟨#[]⟩) 1 16 infoStr Tryd.underlying43 rfl (by decide) (.slice A n c) (.slice (some ⟨w3.heap.size, 0, none⟩) 1 1) n 1 (strs ws) [.string (mkS x)] rfl rfl ?own ?src ?b1 ?b2 ?b3 ?_; (case own => exact own_chg HO.out ((Chg.refl No _).alloc _) (fun _ _ x => x)); (case src => exact Src.one Tryd.underlying43 _ rfl); (case b1 => omega); (case b2 => unfold maxLen; omega); (case b3 => simp; omega); intro v' w1 hown hg; refine Hid.out ?_))
                refine Lib.hid ?_
                obtain ⟨A', c', rfl⟩ := own_form hown
                have HO' : Hid (w1.ownsRow w.heap.size 9 1 (.slice A' (n + 1) c') (n + 1) (strs (ws ++ [x]))) := by rw [Hid, strs, List.map_append]; exact hown
                have HL' : Hid ((ws ++ [x]).length = n + 1) := by rw [Hid, List.length_append, HL.out]; rfl
                have HC1 : Hid (Chg No w w1) := ((HC.out).alloc _).grown hg (fun k hk => .inl ((World.ownsRow.lt HO.out) k hk).1)
                clear hown hg
                go_wp2
                go_roundw
                case rel => exact ⟨q, n + 1, A', c', ws ++ [x], by omega, by go_num, rfl, by omega, HO', HL', HC1.out.size, HP1, HC1.out⟩
                case measure => simp only [intOf]; omega
          | false =>
            have HE : Hid (endV (p + 1) (endL (s.data.toList.drop (p + 1))) = endV q (endL (s.data.toList.drop q))) := HE
            by_cases hqx : q < s.size
            · have hqxx : (q : Int) < (s.size : Int) := by omega
              obtain ⟨x, hx⟩ : ∃ x, s[q] = x := ⟨_, rfl⟩
              have HDQ : Hid (s.data.toList.drop q = x :: s.data.toList.drop (q + 1)) := by
                rw [Hid, List.drop_eq_getElem_cons (by rw [HS.out]; omega), ← hx]; rfl
              by_cases h92 : x = 92
              · subst h92
                have HE1 : Hid (endV (p + 1) (endL (s.data.toList.drop (p + 1))) = endV (q + 2) (endL (s.data.toList.drop (q + 2)))) := by
                  rw [Hid, HE.out, HDQ.out]
                  cases hh : s.data.toList.drop (q + 1) with
                  | nil =>
                    have e : s.data.toList.drop (q + 2) = [] := by
                      have := congrArg (List.drop 1) hh
                      rw [List.drop_drop] at this
                      simpa using this
                    rw [e, endL_esc1]
                    rfl
                  | cons d u =>
                    have e : s.data.toList.drop (q + 2) = u := by
                      have := congrArg (List.drop 1) hh
                      rw [List.drop_drop] at this
                      simpa using this
                    rw [e, endL_esc, endV_map]
                clear HE HDQ
                go_wp2
                go_roundw
                case rel => exact ⟨q + 2, false, by omega, by omega, by go_num, rfl, by simp, HE1.out, HC.out, HO.out, hsz⟩
                case measure => simp only [intOf]; omega
              have hb92 : ((x.toNat : Int) == 92) = false := beq_eq_false_iff_ne.2 (fun h => h92 (UInt8.toNat_inj.1 (Int.ofNat.inj h)))
              by_cases h34 : x = 34
              · subst h34
                have HE1 : Hid (endV (p + 1) (endL (s.data.toList.drop (p + 1))) = ((q + 1 : Nat) : Int)) := by
                  rw [Hid, HE.out, HDQ.out, endL_quote]
                  rfl
                clear HE HDQ
                go_wp2
                go_roundw
                case rel => exact ⟨q + 1, true, by omega, by omega, by go_num, rfl, by intro _; omega, HE1.out, HC.out, HO.out, hsz⟩
                case measure => simp only [intOf]; omega
              have hb34 : ((x.toNat : Int) == 34) = false := beq_eq_false_iff_ne.2 (fun h => h34 (UInt8.toNat_inj.1 (Int.ofNat.inj h)))
              have HE1 : Hid (endV (p + 1) (endL (s.data.toList.drop (p + 1))) = endV (q + 1) (endL (s.data.toList.drop (q + 1)))) := by
                rw [Hid, HE.out, HDQ.out, endL_any x _ h92 h34, endV_map]
              clear HE HDQ h92 h34
              go_wp2
              go_roundw
              case rel => exact ⟨q + 1, false, by omega, by omega, by go_num, rfl, by simp, HE1.out, HC.out, HO.out, hsz⟩
              case measure => simp only [intOf]; omega
            · have hqxx : ¬ ((q : Int) < (s.size : Int)) := by omega
              have HE1 : endV (p + 1) (endL (s.data.toList.drop (p + 1))) = -1 := by
                rw [HE.out, List.drop_of_length_le (by rw [HS.out]; omega)]
                rfl
              have HU : Hid (wordsF 0 [] s.data.toList = .inl p) := by rw [Hid, HP.out, HD.out, words_q0 _ _ _ (endV_neg HE1)]
              clear HE HE1 HP HD
              go_wp2
              go_ret2
              rw [HU.out]
              exact ⟨rfl, HC.out⟩
      have hb34 : ((x.toNat : Int) == 34) = false := beq_eq_false_iff_ne.2 (fun h => h34 (UInt8.toNat_inj.1 (Int.ofNat.inj h)))
      obtain ⟨k, hk⟩ : ∃ k, ((s.data.toList.drop (p + 1)).takeWhile (· ≠ 32)).length = k := ⟨_, rfl⟩
      have HPW := Lib.hid (words_plain p ws x (s.data.toList.drop (p + 1)) h35 h32 h34)
      have hkl := tw_len (s.data.toList.drop (p + 1))
      have HLT := Lib.hid (tw_lt (s.data.toList.drop (p + 1)))
      have HEND := Lib.hid (tw_end (s.data.toList.drop (p + 1)))
      simp only [hk] at HPW hkl HLT HEND
      rw [List.drop_drop] at HPW
      rw [List.length_drop, HS.out] at hkl
      have HTW : Hid ((s.data.toList.drop (p + 1)).takeWhile (· ≠ 32) = (s.data.toList.drop (p + 1)).take k) := by rw [Hid, ← hk, tw_drop]
      have HX : Hid ((s.extract p (p + 1 + k)).data.toList = x :: (s.data.toList.drop (p + 1)).takeWhile (· ≠ 32)) := by
        rw [Hid, ByteArray.data_extract, Array.toList_extract, List.extract_eq_take_drop, HD.out, HTW.out]
        have : p + 1 + k - p = k + 1 := by omega
        rw [this, List.take_succ_cons]
      have HPC : Hid (∀ w1, Calls Tryd.prog 48 #[.string (s.extract p (p + 1 + k))] w1 fun e w' => e = .returned (.bool (plainF (s.extract p (p + 1 + k)).data.toList)) ∧ Chg No w1 w') := fun w1 => rplain_calls w1 _ (by rw [ByteArray.size_extract]; omega)
      rw [HX.out] at HPC
      generalize x :: (s.data.toList.drop (p + 1)).takeWhile (· ≠ 32) = W at HPC HPW HX
      have HXS : Hid (s.extract p (p + 1 + k) = mkS W) := by rw [Hid, ← HX.out, mkS_self]
      have HWW : Hid (wordsF 0 [] s.data.toList = if plainF W then wordsF (p + 1 + k) (ws ++ [W]) (s.data.toList.drop (p + 1 + k)) else .inl p) := by rw [Hid, HP.out, HD.out, HPW.out]
      clear HP HPW HTW HD
      generalize hpb : plainF W = pb at HPC HWW
      clear hpb
      go_wp2
      go_loopw [6] (fun t wr => ∃ (q : Nat), p + 1 ≤ q ∧ q ≤ p + 1 + k ∧ t = .int .i64 (q : Int) ∧ Hid (Chg No w wr) ∧ Hid (wr.ownsRow w.heap.size 9 1 (.slice A n c) n (strs ws)) ∧ w.heap.size ≤ wr.heap.size) (fun t _ => s.size + 2 - (intOf t).toNat)
      case atStart => exact ⟨p + 1, Nat.le_refl _, by omega, by go_num, HC.out, HO.out, hsz⟩
      case round =>
        clear HC HO hsz
        obtain ⟨q, hq1, hq2, rfl, HC, HO, hsz⟩ := hrel
        by_cases hqk : q < p + 1 + k
        · have hqs : q < s.size := by omega
          have hqxx : (q : Int) < (s.size : Int) := by omega
          obtain ⟨y, hy⟩ : ∃ y, s[q] = y := ⟨_, rfl⟩
          have hy32 : y ≠ 32 := by
            obtain ⟨h2, h3⟩ := HLT.out (q - (p + 1)) (by omega)
            rw [List.getElem_drop] at h3
            have e : p + 1 + (q - (p + 1)) = q := by omega
            simp only [e] at h3
            rw [← hy]
            exact h3
          have hby : ((y.toNat : Int) != 32) = true := bne_iff_ne.2 (fun h => hy32 (UInt8.toNat_inj.1 (Int.ofNat.inj h)))
          go_wp2
          go_roundw
          case rel => exact ⟨q + 1, by omega, by omega, by go_num, HC.out, HO.out, hsz⟩
          case measure => simp only [intOf]; omega
        · have hqe : q = p + 1 + k := by omega
          have hi1 : (p : Int) ≤ (q : Int) := by omega
          have hi2 : (q : Int) ≤ (s.size : Int) := by omega
          have hqi : 0 ≤ (q : Int) := by omega
          simp only [← hqe] at HPC HX HXS HWW
          have HQE := Lib.hid hqe
          clear hqe
          have hqs2 : q ≤ s.size := by omega
          by_cases hqs : q < s.size
          · have hqxx : (q : Int) < (s.size : Int) := by omega
            obtain ⟨y, hy⟩ : ∃ y, s[q] = y := ⟨_, rfl⟩
            have hy32 : y = 32 := by
              have hqe := HQE.out
              have h3 := HEND.out (by rw [List.length_drop, HS.out]; omega)
              rw [List.getElem_drop] at h3
              simp only [← hqe] at h3
              rw [← hy]
              exact h3
            subst hy32
            clear HEND HLT
            go_wp2_with (go_at_call 48; refine Hid.out ?_)
            refine Lib.hid ?_
            refine (HPC.out _).mono ?_
            rintro e w2 ⟨rfl, hc2⟩
            have HC2 : Hid (Chg No w w2) := HC.out.no hc2
            have HO2 : Hid (w2.ownsRow w.heap.size 9 1 (.slice A n c) n (strs ws)) := own_chg HO.out hc2 (fun _ _ x => x)
            have hsz2 : w.heap.size ≤ w2.heap.size := Nat.le_trans hsz hc2.size
            clear hc2 HC HO hsz
            have HC := HC2
            have HO := HO2
            have hsz := hsz2
            clear HC2 HO2 hsz2
            cases pb with
            | false =>
              have HU : Hid (wordsF 0 [] s.data.toList = .inl p) := by rw [Hid, HWW.out]; rfl
              go_wp2
              go_ret2
              rw [HU.out]
              exact ⟨rfl, HC.out⟩
            | true =>
              have HP1 : Hid (wordsF 0 [] s.data.toList = wordsF q (ws ++ [W]) (s.data.toList.drop q)) := by rw [Hid, HWW.out, if_pos rfl]
              go_wp2_with (at_builtin; (refine wpList_app _ rfl (.tmp 102) (.tmp 107) 43 43 rfl w.heap.size 9 (.string ⟨#[]⟩) 1 16 infoStr Tryd.underlying43 rfl (by decide) (.slice A n c) (.slice (some ⟨w2.heap.size, 0, none⟩) 1 1) n 1 (strs ws) [.string (s.extract p q)] rfl rfl ?own ?src ?b1 ?b2 ?b3 ?_; (case own => exact own_chg HO.out ((Chg.refl No _).alloc _) (fun _ _ x => x)); (case src => exact Src.one Tryd.underlying43 _ rfl); (case b1 => omega); (case b2 => unfold maxLen; omega); (case b3 => simp; omega); intro v' w1 hown hg; refine Hid.out ?_))
              refine Lib.hid ?_
              obtain ⟨A', c', rfl⟩ := own_form hown
              have HO' : Hid (w1.ownsRow w.heap.size 9 1 (.slice A' (n + 1) c') (n + 1) (strs (ws ++ [W]))) := by rw [Hid, strs, List.map_append]; simp only [List.map_cons, List.map_nil, ← HXS.out]; exact hown
              have HL' : Hid ((ws ++ [W]).length = n + 1) := by rw [Hid, List.length_append, HL.out]; rfl
              have HC1 : Hid (Chg No w w1) := ((HC.out).alloc _).grown hg (fun k hk => .inl ((World.ownsRow.lt HO.out) k hk).1)
              clear hown hg
              go_wp2
              go_roundw
              case rel => exact ⟨q, n + 1, A', c', ws ++ [W], by omega, by go_num, rfl, by omega, HO', HL', HC1.out.size, HP1, HC1.out⟩
              case measure => simp only [intOf]; omega
          · have hqxx : ¬ ((q : Int) < (s.size : Int)) := by omega
            clear HEND HLT
            go_wp2_with (go_at_call 48; refine Hid.out ?_)
            refine Lib.hid ?_
            refine (HPC.out _).mono ?_
            rintro e w2 ⟨rfl, hc2⟩
            have HC2 : Hid (Chg No w w2) := HC.out.no hc2
            have HO2 : Hid (w2.ownsRow w.heap.size 9 1 (.slice A n c) n (strs ws)) := own_chg HO.out hc2 (fun _ _ x => x)
            have hsz2 : w.heap.size ≤ w2.heap.size := Nat.le_trans hsz hc2.size
            clear hc2 HC HO hsz
            have HC := HC2
            have HO := HO2
            have hsz := hsz2
            clear HC2 HO2 hsz2
            cases pb with
            | false =>
              have HU : Hid (wordsF 0 [] s.data.toList = .inl p) := by rw [Hid, HWW.out]; rfl
              go_wp2
              go_ret2
              rw [HU.out]
              exact ⟨rfl, HC.out⟩
            | true =>
              have HP1 : Hid (wordsF 0 [] s.data.toList = wordsF q (ws ++ [W]) (s.data.toList.drop q)) := by rw [Hid, HWW.out, if_pos rfl]
              go_wp2_with (at_builtin; (refine wpList_app _ rfl (.tmp 102) (.tmp 107) 43 43 rfl w.heap.size 9 (.string ⟨#[]⟩) 1 16 infoStr Tryd.underlying43 rfl (by decide) (.slice A n c) (.slice (some ⟨w2.heap.size, 0, none⟩) 1 1) n 1 (strs ws) [.string (s.extract p q)] rfl rfl ?own ?src ?b1 ?b2 ?b3 ?_; (case own => exact own_chg HO.out ((Chg.refl No _).alloc _) (fun _ _ x => x)); (case src => exact Src.one Tryd.underlying43 _ rfl); (case b1 => omega); (case b2 => unfold maxLen; omega); (case b3 => simp; omega); intro v' w1 hown hg; refine Hid.out ?_))
              refine Lib.hid ?_
              obtain ⟨A', c', rfl⟩ := own_form hown
              have HO' : Hid (w1.ownsRow w.heap.size 9 1 (.slice A' (n + 1) c') (n + 1) (strs (ws ++ [W]))) := by rw [Hid, strs, List.map_append]; simp only [List.map_cons, List.map_nil, ← HXS.out]; exact hown
              have HL' : Hid ((ws ++ [W]).length = n + 1) := by rw [Hid, List.length_append, HL.out]; rfl
              have HC1 : Hid (Chg No w w1) := ((HC.out).alloc _).grown hg (fun k hk => .inl ((World.ownsRow.lt HO.out) k hk).1)
              clear hown hg
              go_wp2
              go_roundw
              case rel => exact ⟨q, n + 1, A', c', ws ++ [W], by omega, by go_num, rfl, by omega, HO', HL', HC1.out.size, HP1, HC1.out⟩
              case measure => simp only [intOf]; omega
    · have i1 : ¬ ((p : Int) < (s.size : Int)) := by omega
      have HU : Hid (wordsF 0 [] s.data.toList = .inr ws) := by rw [Hid, HP.out, List.drop_of_length_le (by rw [HS.out]; omega), words_nil]
      clear HP
      go_wp2
      go_ret2
      rw [HU.out]
      exact ⟨⟨A, n, c, rfl, HL.out, HO.out⟩, HC.out⟩
end Go.Proofs.YtcomcoolmabmgaaDoor

namespace Go.Proofs.YtcomcoolmabmgaaDoor
set_option linter.unnecessarySimpa false
open Go.RowKit
set_option linter.unusedVariables false
set_option linter.unusedSimpArgs false
set_option maxRecDepth 100000

theorem wake_p1 : plainF [109, 111, 118, 101] = true := by decide +kernel
theorem wake_p2 : plainF [97] = true := by decide +kernel
theorem wake_u : unqF [34, 98, 32, 99, 34] = some [98, 32, 99] := by decide +kernel
theorem wake_q : quoteF [9, 255] = [34, 92, 120, 48, 57, 92, 120, 102, 102, 34] := by decide +kernel
theorem wake_words : wordsF 0 [] [109, 111, 118, 101, 32, 32, 97, 32, 34, 98, 32, 99, 34, 32, 35, 32, 120] = .inr [[109, 111, 118, 101], [97], [98, 32, 99]] := by
  rw [words_plain _ _ _ _ (by decide) (by decide) (by decide)]
  simp only [show ([111, 118, 101, 32, 32, 97, 32, 34, 98, 32, 99, 34, 32, 35, 32, 120] : List UInt8).takeWhile (· ≠ 32) = [111, 118, 101] by decide]
  rw [if_pos wake_p1]
  simp only [List.length_cons, List.length_nil, List.drop_succ_cons, List.drop_zero, List.nil_append]
  rw [words_space, words_space, words_plain _ _ _ _ (by decide) (by decide) (by decide)]
  simp only [show ([32, 34, 98, 32, 99, 34, 32, 35, 32, 120] : List UInt8).takeWhile (· ≠ 32) = [] by decide]
  rw [if_pos wake_p2]
  simp only [List.length_cons, List.length_nil, List.drop_succ_cons, List.drop_zero, List.cons_append, List.nil_append]
  rw [words_space, words_q3 _ _ _ 4 [98, 32, 99] (by decide +kernel) (by decide) (by exact wake_u)]
  simp only [List.length_cons, List.length_nil, List.drop_succ_cons, List.drop_zero, List.cons_append, List.nil_append]
  rw [words_space, words_hash]

set_option maxHeartbeats 1600000 in
theorem wakes_calls (w : World) : Calls Tryd.prog 20 #[] w fun e w' => e = .returned (.bool true) ∧ Chg No w w' := by
  have HW : Hid (∀ w1, Calls Tryd.prog 18 #[.string ⟨#[109, 111, 118, 101, 32, 32, 97, 32, 34, 98, 32, 99, 34, 32, 35, 32, 120]⟩] w1 fun e w' => WordsR (w1.heap.size + 1) w' e (.inr [[109, 111, 118, 101], [97], [98, 32, 99]]) ∧ Chg No w1 w') := by
    intro w1
    have h := words_calls w1 ⟨#[109, 111, 118, 101, 32, 32, 97, 32, 34, 98, 32, 99, 34, 32, 35, 32, 120]⟩ (by decide)
    rw [wake_words] at h
    exact h
  have HQ : Hid (∀ w1, Calls Tryd.prog 19 #[.string ⟨#[9, 255]⟩] w1 fun e w' => e = .returned (.string ⟨#[34, 92, 120, 48, 57, 92, 120, 102, 102, 34]⟩) ∧ Chg No w1 w') := by
    intro w1
    have h := quote_calls w1 ⟨#[9, 255]⟩ (by decide)
    rw [wake_q] at h
    exact h
  go_enter Tryd.func20, Tryd.ntmps20
  go_wp2_with fail
  refine (HW.out _).mono ?_
  rintro e w1 ⟨⟨A, n, c, rfl, hl, ho⟩, hc1⟩
  subst hl
  have HC1 := Lib.hid hc1
  obtain ⟨h0, h2⟩ := ho
  rcases h2 with ⟨he, h00⟩ | ⟨g, cap, cur, he, hg, hh, hnn, hm, hcs, ht⟩
  · cases h00
  simp only [Value.slice.injEq] at he
  obtain ⟨rfl, -, rfl⟩ := he
  have hcell : w1.cell? ⟨g, 2, none⟩ = some (.string ⟨#[98, 32, 99]⟩) := by
    have : cur[2]? = some (.string ⟨#[98, 32, 99]⟩) := by
      have := congrArg (fun l : List Value => l[2]?) ht
      simp only [List.getElem?_take] at this
      simpa [strs, mkS] using this
    simp [World.cell?, hh, this]
  have hgl : g < w1.heap.size := by
    rcases Nat.lt_or_ge g w1.heap.size with h | h
    · exact h
    · simp [Array.getElem?_eq_none h] at hh
  have hcellA : ∀ o, (w1.alloc o).cell? ⟨g, 2, none⟩ = some (.string ⟨#[98, 32, 99]⟩) := fun o => ((Chg.refl No w1).alloc o).cell hcell (fun x => x)
  clear hc1 h0 ht hcs hh
  go_wp2_with fail
  refine (HQ.out _).mono ?_
  rintro e w2 ⟨rfl, hc2⟩
  have HC2 : Hid (Chg No w w2) := (HC1.out.alloc _).no hc2
  clear hc2
  go_wp2
  go_ret
  exact ⟨rfl, HC2.out⟩

theorem strs_len (ws : List (List UInt8)) : (strs ws).length = ws.length := by simp [strs]
theorem hold_addr {w : World} {A : Option Addr} {n c : Nat} {ws : List (List UInt8)} (h : Holds w (.slice A n c) n (strs ws)) (hl : ws.length = n) (hp : 0 < n) :
    ∃ b o, A = some ⟨b, o, none⟩ ∧ ∀ j (hj : j < ws.length), w.cell? ⟨b, o + j, none⟩ = some (.string (mkS ws[j])) := by
  obtain ⟨A', c', he, hn, hm, hx⟩ := h
  simp only [Value.slice.injEq, true_and] at he
  obtain ⟨rfl, rfl⟩ := he
  obtain ⟨b, o, rfl, hc⟩ := hx (by rw [strs_len]; omega)
  exact ⟨b, o, rfl, fun j hj => hc j _ (by simp [strs, hj])⟩

end Go.Proofs.YtcomcoolmabmgaaDoor


namespace Go.Proofs.YtcomcoolmabmgaaDoor
set_option linter.unnecessarySimpa false
open Go.RowKit
set_option linter.unusedVariables false
set_option linter.unusedSimpArgs false
set_option maxRecDepth 100000

theorem indexByte_ten (l : List UInt8) : Lib.indexByte l 10 = if (l.takeWhile (· ≠ 10)).length = l.length then -1 else ((l.takeWhile (· ≠ 10)).length : Int) := by
  induction l with
  | nil => rfl
  | cons b t ih =>
    unfold Lib.indexByte
    by_cases h : b = 10
    · subst h; simp
    · rw [if_neg (by simpa using h), List.takeWhile_cons_of_pos (by simpa using h), ih]
      simp only [List.length_cons]
      split <;> split <;> split <;> first | rfl | omega | (rename_i h1 h2 h3; simp at h2; omega) | (rename_i h1 h2; simp at h2; omega) | (simp_all; try omega)
def firstL (l : List UInt8) : List UInt8 := l.takeWhile (· ≠ 10)
def restL (l : List UInt8) : List UInt8 := l.drop ((firstL l).length + 1)
theorem firstL_take (l : List UInt8) : l.take (firstL l).length = firstL l := (List.prefix_iff_eq_take.1 (List.takeWhile_prefix _)).symm
theorem firstL_len (l : List UInt8) : (firstL l).length ≤ l.length := (List.takeWhile_prefix _).length_le
theorem firstL_mem (l : List UInt8) : ∀ x ∈ firstL l, x ≠ 10 := by
  induction l with
  | nil => intro x h; cases h
  | cons b t ih =>
    intro x h
    unfold firstL at h
    by_cases hb : b = 10
    · subst hb; simp at h
    · rw [List.takeWhile_cons_of_pos (by simpa using hb)] at h
      rcases List.mem_cons.1 h with rfl | h
      · exact hb
      · exact ih x h
theorem firstL_end (l : List UInt8) (h : (firstL l).length < l.length) : l = firstL l ++ 10 :: restL l := by
  induction l with
  | nil => simp [firstL] at h
  | cons b t ih =>
    by_cases hb : b = 10
    · subst hb; simp [firstL, restL]
    · have e : firstL (b :: t) = b :: firstL t := List.takeWhile_cons_of_pos (by simpa using hb)
      rw [e] at h ⊢
      have e2 : restL (b :: t) = restL t := by simp [restL, e]
      rw [e2, List.cons_append]
      simp only [List.length_cons] at h
      conv => lhs; rw [ih (by omega)]
/-- A text's lines. -/
def linesF (l : List UInt8) : List (List UInt8) := match l with
  | [] => []
  | c :: t => firstL (c :: t) :: linesF (restL (c :: t))
termination_by l.length
decreasing_by simp [restL]; omega
theorem linesF_nil : linesF [] = [] := by rw [linesF]
theorem linesF_cons (l : List UInt8) (h : l ≠ []) : linesF l = firstL l :: linesF (restL l) := by
  cases l with
  | nil => exact absurd rfl h
  | cons c t => rw [linesF]
theorem restL_len (l : List UInt8) (h : l ≠ []) : (restL l).length < l.length := by
  have := List.length_pos_iff.2 h
  rw [restL, List.length_drop]; omega

set_option maxHeartbeats 1600000 in
theorem cut1_calls (w : World) (s : ByteArray) (hs : s.size ≤ 9223372036854775000) :
    Calls Tryd.prog 55 #[.string s, .string ⟨#[10]⟩] w fun e w' => e = .returned (.tuple #[.string (mkS (firstL s.data.toList)), .string (mkS (restL s.data.toList)), .bool (decide ((firstL s.data.toList).length < s.size))]) ∧ (w' = w ∨ w' = w.drew) := by
  have HS := Lib.hid (size_list s)
  have hle := firstL_len s.data.toList
  rw [HS.out] at hle
  have CI : Hid (∀ w1, Calls Tryd.prog 71 #[.string s, .string ⟨#[10]⟩] w1 fun e w' => e = .returned (.int .i64 (if (firstL s.data.toList).length = s.size then -1 else ((firstL s.data.toList).length : Int))) ∧ w' = w1) := by
    intro w1
    have h := Tryd.stringslite_Index_one s 10 w1
    rw [indexByte_ten, HS.out] at h
    exact h
  have HF : Hid (s.data.toList.take (firstL s.data.toList).length = firstL s.data.toList) := firstL_take _
  have HR : Hid (restL s.data.toList = s.data.toList.drop ((firstL s.data.toList).length + 1)) := rfl
  obtain ⟨k, hk⟩ : ∃ k, (firstL s.data.toList).length = k := ⟨_, rfl⟩
  rw [hk] at hle CI HF HR
  have HK := Lib.hid hk
  clear hk
  by_cases he : k = s.size
  · subst he
    rw [if_pos rfl] at CI
    have HX : Hid (mkS (firstL s.data.toList) = s) := by rw [Hid, ← HF.out, List.take_of_length_le (by rw [HS.out]; exact Nat.le_refl _), mkS_self]
    have HY : Hid (mkS (restL s.data.toList) = ⟨#[]⟩) := by rw [Hid, HR.out, List.drop_of_length_le (by rw [HS.out]; omega)]; rfl
    go_enter Tryd.func55, Tryd.ntmps55
    go_wp2_with (go_at_call 71; refine (CI.out _).mono ?_; rintro e w' ⟨rfl, rfl⟩)
    refine bodyPost_ret (v := .tuple #[.string s, .string ⟨#[]⟩, .bool false]) (by simp [results, Tryd.results55, go_sem]) rfl ?_
    exact ⟨by rw [HX.out, HY.out, HK.out, decide_eq_false (Nat.lt_irrefl _)], .inl rfl⟩
  · rw [if_neg he] at CI
    have hlt : k < s.size := by omega
    have h1 : (k : Int) ≤ (s.size : Int) := by omega
    have h2 : (k : Int) + 1 ≤ (s.size : Int) := by omega
    have hk0 : 0 ≤ (k : Int) := by omega
    have HX : Hid (s.extract 0 k = mkS (firstL s.data.toList)) := by
      rw [Hid, ← HF.out, ← mkS_self (s.extract 0 k), ByteArray.data_extract, Array.toList_extract, List.extract_eq_take_drop]
      simp
    have HY : Hid (s.extract (k + 1) s.size = mkS (restL s.data.toList)) := by
      rw [Hid, HR.out, ← mkS_self (s.extract (k + 1) s.size), ByteArray.data_extract, Array.toList_extract, List.extract_eq_take_drop, List.take_of_length_le (by rw [List.length_drop, HS.out]; omega)]
    clear he
    go_enter Tryd.func55, Tryd.ntmps55
    go_wp2_with (go_at_call 71; refine (CI.out _).mono ?_; rintro e w' ⟨rfl, rfl⟩)
    go_region
    go_wp2
    refine bodyPost_ret (v := .tuple #[.string (s.extract 0 k), .string (s.extract (k + 1) s.size), .bool true]) (by simp [results, Tryd.results55, go_sem]) rfl ?_
    exact ⟨by rw [HX.out, HY.out, HK.out, decide_eq_true hlt], .inr rfl⟩

set_option maxHeartbeats 800000 in
theorem cut_calls (w : World) (s : ByteArray) (hs : s.size ≤ 9223372036854775000) :
    Calls Tryd.prog 35 #[.string s, .string ⟨#[10]⟩] w fun e w' => e = .returned (.tuple #[.string (mkS (firstL s.data.toList)), .string (mkS (restL s.data.toList)), .bool (decide ((firstL s.data.toList).length < s.size))]) ∧ (w' = w ∨ w' = w.drew) := by
  go_enter Tryd.func35, Tryd.ntmps35
  go_wp2_with fail
  refine (cut1_calls w s hs).mono ?_
  rintro e w2 ⟨rfl, hc2⟩
  go_wp2
  refine bodyPost_ret (v := .tuple #[.string (mkS (firstL s.data.toList)), .string (mkS (restL s.data.toList)), .bool (decide ((firstL s.data.toList).length < s.size))]) (by simp [results, Tryd.results35, go_sem]) rfl ?_
  exact ⟨rfl, hc2⟩
end Go.Proofs.YtcomcoolmabmgaaDoor

namespace Go.Proofs.YtcomcoolmabmgaaDoor
set_option linter.unnecessarySimpa false
open Go.RowKit
set_option linter.unusedVariables false
set_option linter.unusedSimpArgs false
set_option maxRecDepth 100000

theorem firstL_app (a u : List UInt8) (h : ∀ b ∈ a, b ≠ 10) : firstL (a ++ 10 :: u) = a := by
  induction a with
  | nil => simp [firstL]
  | cons c t ih =>
    have := ih (fun b hb => h b (by simp [hb]))
    unfold firstL at this ⊢
    rw [List.cons_append, List.takeWhile_cons_of_pos (by simpa using h c (by simp)), this]
theorem restL_app (a u : List UInt8) (h : ∀ b ∈ a, b ≠ 10) : restL (a ++ 10 :: u) = u := by
  rw [restL, firstL_app a u h]
  simp
theorem firstL_all (a : List UInt8) (h : ∀ b ∈ a, b ≠ 10) : firstL a = a := by
  induction a with
  | nil => rfl
  | cons c t ih =>
    have := ih (fun b hb => h b (by simp [hb]))
    unfold firstL at this ⊢
    rw [List.takeWhile_cons_of_pos (by simpa using h c (by simp)), this]
theorem linesF_app (a u : List UInt8) (h : ∀ b ∈ a, b ≠ 10) : linesF (a ++ 10 :: u) = a :: linesF u := by
  rw [linesF_cons _ (by simp), firstL_app a u h, restL_app a u h]
theorem linesF_one (a : List UInt8) (ha : a ≠ []) (h : ∀ b ∈ a, b ≠ 10) : linesF a = [a] := by
  rw [linesF_cons _ ha, firstL_all a h]
  have : restL a = [] := by rw [restL, firstL_all a h]; exact List.drop_of_length_le (by omega)
  rw [this, linesF_nil]

set_option maxHeartbeats 3200000 in
theorem rlines_calls (w : World) (s : ByteArray) (hs : s.size ≤ 1048576) :
    Calls Tryd.prog 24 #[.string s] w fun e w' => (∃ A n c, e = .returned (.slice A n c) ∧ (linesF s.data.toList).length = n ∧ w'.ownsRow w.heap.size 9 1 (.slice A n c) n (strs (linesF s.data.toList))) ∧ Chg No w w' := by
  have HS := Lib.hid (size_list s)
  go_enter Tryd.func24, Tryd.ntmps24
  go_wp2
  go_loopw [3, 4, 5] (fun v f i wr => ∃ (k p n : Nat) (A : Option Addr) (c : Nat) (ws : List (List UInt8)), p ≤ k ∧ k ≤ s.size ∧ f = .int .i64 (p : Int) ∧ i = .int .i64 (k : Int) ∧ v = .slice A n c ∧ n ≤ p ∧ Hid (wr.ownsRow w.heap.size 9 1 (.slice A n c) n (strs ws)) ∧ Hid (ws.length = n) ∧ w.heap.size ≤ wr.heap.size ∧ Hid (linesF s.data.toList = ws ++ linesF (s.data.toList.drop p)) ∧ Hid (∀ b ∈ (s.data.toList.drop p).take (k - p), b ≠ 10) ∧ Hid (Chg No w wr)) (fun _ _ i _ => s.size - (intOf i).toNat)
  case atStart => exact ⟨0, 0, 0, none, 0, [], Nat.le_refl _, Nat.zero_le _, rfl, rfl, rfl, Nat.le_refl _, World.ownsRow_nil _ _ _ _, rfl, Nat.le_refl _, rfl, (by intro b hb; simp at hb), Chg.refl _ _⟩
  case round =>
    obtain ⟨k, p, n, A, c, ws, hpk, hks, rfl, rfl, rfl, hnp, HO, HL, hsz, HW, HN, HC⟩ := hrel
    by_cases hlt : k < s.size
    · have i1 : (k : Int) < (s.size : Int) := by omega
      obtain ⟨x, hx⟩ : ∃ x, s[k] = x := ⟨_, rfl⟩
      have HD : Hid (s.data.toList.drop k = x :: s.data.toList.drop (k + 1)) := by
        rw [Hid, List.drop_eq_getElem_cons (by rw [HS.out]; omega), ← hx]; rfl
      have HSP : Hid (s.data.toList.drop p = (s.data.toList.drop p).take (k - p) ++ s.data.toList.drop k) := by
        have h := List.take_append_drop (k - p) (s.data.toList.drop p)
        rw [List.drop_drop] at h
        have e : p + (k - p) = k := by omega
        rw [e] at h
        exact h.symm
      by_cases h10 : x = 10
      · subst h10
        have hi1 : (p : Int) ≤ (k : Int) := by omega
        have hi2 : (k : Int) ≤ (s.size : Int) := by omega
        have hX : Hid (s.extract p k = mkS ((s.data.toList.drop p).take (k - p))) := by
          rw [Hid, ← mkS_self (s.extract p k), ByteArray.data_extract, Array.toList_extract, List.extract_eq_take_drop]
        have HW1 : Hid (linesF s.data.toList = (ws ++ [(s.data.toList.drop p).take (k - p)]) ++ linesF (s.data.toList.drop (k + 1))) := by
          have h1 := linesF_app ((s.data.toList.drop p).take (k - p)) (s.data.toList.drop (k + 1)) HN.out
          rw [← HD.out, ← HSP.out] at h1
          rw [Hid, HW.out, h1]; simp
        generalize (s.data.toList.drop p).take (k - p) = x at hX HW1
        clear HW HD HSP HN
        go_wp2_with (at_builtin; (refine wpList_app _ rfl (.tmp 16) (.tmp 21) 43 43 rfl w.heap.size 9 (.string ⟨#[]⟩) 1 16 infoStr Tryd.underlying43 rfl (by decide) (.slice A n c) (.slice (some ⟨wr.heap.size, 0, none⟩) 1 1) n 1 (strs ws) [.string (s.extract p k)] rfl rfl ?own ?src ?b1 ?b2 ?b3 ?_; (case own => exact own_chg HO.out ((Chg.refl No _).alloc _) (fun _ _ x => x)); (case src => exact Src.one Tryd.underlying43 _ rfl); (case b1 => omega); (case b2 => unfold maxLen; omega); (case b3 => simp; omega); intro v' w1 hown hg; refine Hid.out ?_))
        refine Lib.hid ?_
        obtain ⟨A', c', rfl⟩ := own_form hown
        have HO' : Hid (w1.ownsRow w.heap.size 9 1 (.slice A' (n + 1) c') (n + 1) (strs (ws ++ [x]))) := by rw [Hid, strs, List.map_append]; simp only [List.map_cons, List.map_nil, ← hX.out]; exact hown
        have HL' : Hid ((ws ++ [x]).length = n + 1) := by rw [Hid, List.length_append, HL.out]; rfl
        have HC1 : Hid (Chg No w w1) := ((HC.out).alloc _).grown hg (fun k hk => .inl ((World.ownsRow.lt HO.out) k hk).1)
        clear hown hg
        go_wp2
        go_roundw
        case rel => exact ⟨k + 1, k + 1, n + 1, A', c', ws ++ [x], Nat.le_refl _, by omega, by go_num, by go_num, rfl, by omega, HO'.out, HL'.out, HC1.out.size, HW1.out, by intro b hb; rw [Nat.sub_self] at hb; simp at hb, HC1.out⟩
        case measure => simp only [intOf]; omega
      · have hb10 : ((x.toNat : Int) == 10) = false := beq_eq_false_iff_ne.2 (fun h => h10 (UInt8.toNat_inj.1 (Int.ofNat.inj h)))
        have HN1 : Hid (∀ b ∈ (s.data.toList.drop p).take (k + 1 - p), b ≠ 10) := by
          intro b hb
          have e : k + 1 - p = (k - p) + 1 := by omega
          rw [e, List.take_succ_eq_append_getElem (by rw [List.length_drop, HS.out]; omega)] at hb
          rcases List.mem_append.1 hb with hb | hb
          · exact HN.out b hb
          · simp only [List.mem_singleton] at hb
            rw [hb, List.getElem_drop]
            have e2 : p + (k - p) = k := by omega
            simp only [e2]
            intro h
            apply h10
            rw [← hx, ← h]; rfl
        clear HD HSP HN h10
        go_wp2
        go_roundw
        case rel => exact ⟨k + 1, p, n, A, c, ws, by omega, by omega, by go_num, by go_num, rfl, by omega, HO.out, HL.out, hsz, HW.out, HN1.out, HC.out⟩
        case measure => simp only [intOf]; omega
    · have i1 : ¬ ((k : Int) < (s.size : Int)) := by omega
      have HN1 : Hid (∀ b ∈ s.data.toList.drop p, b ≠ 10) := by
        have := HN.out
        rw [List.take_of_length_le (by rw [List.length_drop, HS.out]; omega)] at this
        exact this
      clear HN
      by_cases hp : p < s.size
      · have j1 : (p : Int) < (s.size : Int) := by omega
        have j2 : (p : Int) ≤ (s.size : Int) := by omega
        have hX : Hid (s.extract p s.size = mkS (s.data.toList.drop p)) := by
          rw [Hid, ← mkS_self (s.extract p s.size), ByteArray.data_extract, Array.toList_extract, List.extract_eq_take_drop, List.take_of_length_le (by rw [List.length_drop, HS.out]; omega)]
        have HW1 : Hid (linesF s.data.toList = ws ++ [s.data.toList.drop p]) := by
          rw [Hid, HW.out, linesF_one _ (List.ne_nil_of_length_pos (by rw [List.length_drop, HS.out]; omega)) HN1.out]
        generalize s.data.toList.drop p = x at hX HW1
        clear HW HN1
        go_wp2_with (at_builtin; (refine wpList_app _ rfl (.tmp 29) (.tmp 33) 43 43 rfl w.heap.size 9 (.string ⟨#[]⟩) 1 16 infoStr Tryd.underlying43 rfl (by decide) (.slice A n c) (.slice (some ⟨wr.heap.size, 0, none⟩) 1 1) n 1 (strs ws) [.string (s.extract p s.size)] rfl rfl ?own ?src ?b1 ?b2 ?b3 ?_; (case own => exact own_chg HO.out ((Chg.refl No _).alloc _) (fun _ _ x => x)); (case src => exact Src.one Tryd.underlying43 _ rfl); (case b1 => omega); (case b2 => unfold maxLen; omega); (case b3 => simp; omega); intro v' w1 hown hg; refine Hid.out ?_))
        refine Lib.hid ?_
        obtain ⟨A', c', rfl⟩ := own_form hown
        have HO' : Hid (w1.ownsRow w.heap.size 9 1 (.slice A' (n + 1) c') (n + 1) (strs (ws ++ [x]))) := by rw [Hid, strs, List.map_append]; simp only [List.map_cons, List.map_nil, ← hX.out]; exact hown
        have HL' : Hid ((ws ++ [x]).length = n + 1) := by rw [Hid, List.length_append, HL.out]; rfl
        have HC1 : Hid (Chg No w w1) := ((HC.out).alloc _).grown hg (fun k hk => .inl ((World.ownsRow.lt HO.out) k hk).1)
        clear hown hg
        go_wp2
        go_ret
        rw [HW1.out]
        exact ⟨⟨A', n + 1, c', rfl, HL'.out, HO'.out⟩, HC1.out⟩
      · have j1 : ¬ ((p : Int) < (s.size : Int)) := by omega
        have HW1 : Hid (linesF s.data.toList = ws) := by
          rw [Hid, HW.out, List.drop_of_length_le (by rw [HS.out]; omega), linesF_nil, List.append_nil]
        clear HW HN1
        go_wp2
        go_ret
        rw [HW1.out]
        exact ⟨⟨A, n, c, rfl, HL.out, HO.out⟩, HC.out⟩
end Go.Proofs.YtcomcoolmabmgaaDoor

namespace Go.Proofs.YtcomcoolmabmgaaDoor
set_option linter.unnecessarySimpa false
open Go.RowKit
set_option linter.unusedVariables false
set_option linter.unusedSimpArgs false
set_option maxRecDepth 100000

/-- A rule: kind, from, to. -/
abbrev Rul := Int × List UInt8 × List UInt8
def encR (x : Rul) : List Value := [.int .i64 x.1, .string (mkS x.2.1), .string (mkS x.2.2)]
def rulV (x : Rul) : Value := .agg #[.int .i64 x.1, .string (mkS x.2.1), .string (mkS x.2.2)]
/-- A slice of rules. -/
def Rs (w : World) (v : Value) (xs : List Rul) : Prop := Holds w v xs.length (xs.flatMap encR)
theorem encR_len (xs : List Rul) : (xs.flatMap encR).length = xs.length * 3 := by
  induction xs with
  | nil => rfl
  | cons a t ih => rw [List.flatMap_cons, List.length_append, ih, List.length_cons]; simp [encR]; omega
theorem encR_get (xs : List Rul) (k j : Nat) (hk : k < xs.length) (hj : j < 3) : (xs.flatMap encR)[k * 3 + j]? = (encR xs[k])[j]? := by
  induction xs generalizing k with
  | nil => simp at hk
  | cons a t ih =>
    rw [List.flatMap_cons]
    cases k with
    | zero =>
      rw [List.getElem?_append_left (by simp [encR]; omega)]
      simp
    | succ k =>
      rw [List.getElem?_append_right (by simp [encR]; omega)]
      have : (k + 1) * 3 + j - (encR a).length = k * 3 + j := by simp [encR]; omega
      rw [this, ih k (by simpa using hk)]
      rfl
theorem Rs.no {w w' : World} {v : Value} {xs : List Rul} (h : Rs w v xs) (hc : Chg No w w') : Rs w' v xs := Holds.no h hc
theorem Rs.len {w : World} {A : Option Addr} {n c : Nat} {xs : List Rul} (h : Rs w (.slice A n c) xs) : xs.length = n := by
  obtain ⟨A', c', he, hn, hm, hx⟩ := h
  simp only [Value.slice.injEq] at he
  exact he.2.1.symm
theorem Rs.addr {w : World} {A : Option Addr} {n c : Nat} {xs : List Rul} (h : Rs w (.slice A n c) xs) (hp : 0 < xs.length) :
    ∃ b o, A = some ⟨b, o, none⟩ ∧ ∀ k (hk : k < xs.length), w.cell? ⟨b, o + k * 3, none⟩ = some (.int .i64 xs[k].1) ∧ w.cell? ⟨b, o + k * 3 + 1, none⟩ = some (.string (mkS xs[k].2.1)) ∧ w.cell? ⟨b, o + k * 3 + 2, none⟩ = some (.string (mkS xs[k].2.2)) := by
  obtain ⟨A', c', he, hn, hm, hx⟩ := h
  simp only [Value.slice.injEq] at he
  obtain ⟨rfl, rfl, rfl⟩ := he
  obtain ⟨b, o, rfl, hc⟩ := hx (by rw [encR_len]; omega)
  refine ⟨b, o, rfl, fun k hk => ⟨?_, ?_, ?_⟩⟩
  · have := hc (k * 3) (.int .i64 xs[k].1) (by have := encR_get xs k 0 hk (by omega); rw [Nat.add_zero] at this; rw [this]; rfl)
    exact this
  · have := hc (k * 3 + 1) (.string (mkS xs[k].2.1)) (by rw [encR_get xs k 1 hk (by omega)]; rfl)
    rw [← Nat.add_assoc] at this
    exact this
  · have := hc (k * 3 + 2) (.string (mkS xs[k].2.2)) (by rw [encR_get xs k 2 hk (by omega)]; rfl)
    rw [← Nat.add_assoc] at this
    exact this
/-- A row of rules of the call's own. -/
def OwnR (w : World) (base : Nat) (v : Value) (n : Nat) (xs : List Rul) : Prop := w.ownsRow base 32 3 v n (xs.flatMap encR)
theorem OwnR.rs {w : World} {base n : Nat} {v : Value} {xs : List Rul} (h : OwnR w base v n xs) : Rs w v xs := by
  have hn : xs.length = n := by have := h.1; rw [encR_len] at this; omega
  rw [Rs, hn]; exact Holds.ofOwn h
theorem OwnR.len {w : World} {base n : Nat} {v : Value} {xs : List Rul} (h : OwnR w base v n xs) : xs.length = n := by
  have := h.1; rw [encR_len] at this; omega

/-- The kinds' words. -/
def kw (k : Int) : List UInt8 := if k = 1 then [107, 101, 101, 112] else if k = 2 then [100, 114, 111, 112] else if k = 3 then [109, 111, 118, 101] else []
def chkR (r : Rul) : Int := if kw r.1 = [] ∨ isP r.2.1 = false ∨ isP r.2.2 = false ∨ (r.1 ≠ 3 ∧ r.2.2 ≠ []) then 2 else 0
def drsF (s : List UInt8) : List UInt8 := if s = [] then [47] else wordF s
def lineR (r : Rul) : List UInt8 := kw r.1 ++ 32 :: drsF r.2.1 ++ (if r.1 = 3 then 32 :: drsF r.2.2 else [])
/-- The path of a word. -/
def bareF (s : List UInt8) : List UInt8 × Bool := if s = [47] then ([], true) else (s, decide (s ≠ []) && isP s)
/-- The rule of words. -/
def readR : List (List UInt8) → Option Rul
  | [w, a] => if w = kw 1 ∧ (bareF a).2 = true then some (1, (bareF a).1, []) else if w = kw 2 ∧ (bareF a).2 = true then some (2, (bareF a).1, []) else none
  | [w, a, b] => if w = kw 3 ∧ (bareF a).2 = true ∧ (bareF b).2 = true then some (3, (bareF a).1, (bareF b).1) else none
  | _ => none
/-- The rules of lines; what is wrong. -/
def readG : Nat → List Rul → List (List UInt8) → List Rul × Int × Int
  | at_, acc, [] => (acc, 0, 0)
  | at_, acc, l :: r => match wordsF 0 [] l with
    | .inl p => ([], 150, (at_ : Int) + (p : Int))
    | .inr [] => readG (at_ + l.length + 1) acc r
    | .inr (w :: ws) => match readR (w :: ws) with
      | none => ([], 230, (at_ : Int))
      | some x => if acc.length = 64 then ([], 3, (at_ : Int)) else readG (at_ + l.length + 1) (acc ++ [x]) r
def readF (t : List UInt8) : List Rul × Int × Int := if 131072 < t.length then ([], 3, 0) else readG 0 [] (linesF t)
theorem path_zero {p : List UInt8} (h : (pathF p).1 = 0) : pathF p = (0, 0) := by
  have key : ∀ (l : List (List UInt8)) (i : Nat) (a : Int), (walkP i a l).1 = 0 → walkP i a l = (0, 0) := by
    intro l
    induction l with
    | nil => intro i a _; rfl
    | cons x r ih =>
      intro i a h
      rw [walkP] at h ⊢
      split at h
      · cases h
      · rename_i h1
        split at h
        · rename_i h2; exact absurd h h2
        · rename_i h2
          rw [if_neg h1, if_neg h2]
          exact ih _ _ h
  unfold pathF at h ⊢
  split at h
  · cases h
  · rename_i h1
    rw [if_neg h1]
    exact key _ _ _ h
theorem pathq (p : List UInt8) : ((pathF p).1 == 0 && (pathF p).2 == 0) = isP p := by
  unfold isP
  by_cases h : (pathF p).1 = 0
  · rw [path_zero h]; rfl
  · have : ((pathF p).1 == 0) = false := by simpa using h
    rw [this, decide_eq_false h]; rfl
theorem isP_len {p : List UInt8} (h : isP p = true) : p.length ≤ 200 := by
  have : (pathF p).1 = 0 := by simpa [isP] using h
  rw [path_ok] at this
  exact this.1
end Go.Proofs.YtcomcoolmabmgaaDoor

