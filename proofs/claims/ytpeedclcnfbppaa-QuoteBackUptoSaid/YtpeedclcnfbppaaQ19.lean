/-
  Line: the plain law, and its walk.
-/
import Derived.Test.YtpeedclcnfbppaaQ18
import Derived.Test.YtpeedclcnfbppaaRep2
import Derived.Test.YtpeedclcnfbppaaShelf
namespace Go.Proofs.Ytpeedclcnfbppaa
open Go.RowKit
set_option linter.unusedVariables false
set_option linter.unusedSimpArgs false
set_option maxRecDepth 100000

theorem big_bytes (l : List UInt8) (h : l ≠ []) (hr : 128 ≤ (decL l).1) : ∀ b ∈ l.take (decL l).2, 128 ≤ b.toNat := by
  have hf := decL_facts l h
  rw [take_get l _ hf.2.1]
  intro b hb
  obtain ⟨j, hj, rfl⟩ := List.mem_map.1 hb
  have hj : j < (decL l).2 := List.mem_range.1 hj
  rcases decL_ways l with ⟨h1, e⟩ | ⟨h1, h2, h3, h4, e⟩ | ⟨h1, h2, h3, h4, h5, h6, e⟩ | ⟨h1, h2, h3, h4, h5, h6, h7, e⟩ | ⟨h1, e⟩
  · rw [e] at hr; simp only at hr; omega
  · rw [e] at hj; simp only at hj
    obtain rfl | rfl : j = 0 ∨ j = 1 := by omega
    · omega
    · omega
  · rw [e] at hj; simp only at hj
    obtain rfl | rfl | rfl : j = 0 ∨ j = 1 ∨ j = 2 := by omega
    · omega
    · omega
    · omega
  · rw [e] at hj; simp only at hj
    obtain rfl | rfl | rfl | rfl : j = 0 ∨ j = 1 ∨ j = 2 ∨ j = 3 := by omega
    · omega
    · omega
    · omega
    · omega
  · rw [e] at hj; simp only at hj
    obtain rfl : j = 0 := by omega
    exact h1
theorem plain_bytes : ∀ (n : Nat) (l : List UInt8), l.length ≤ n → ((pcs l).all fun p => !badP p) = true → ∀ b ∈ l, b ≠ 32 ∧ b ≠ 34 := by
  intro n
  induction n with
  | zero =>
    intro l hl _ b hb
    have : l = [] := List.eq_nil_of_length_eq_zero (by omega)
    subst this
    cases hb
  | succ n ih =>
    intro l hl ha b hb
    by_cases h : l = []
    · subst h; cases hb
    · obtain ⟨f1, f2, f3⟩ := decL_facts l h
      rw [pcs_cons l h, List.all_cons, Bool.and_eq_true_iff] at ha
      rw [← List.take_append_drop (decL l).2 l] at hb
      rcases List.mem_append.1 hb with hb | hb
      · have hp := ha.1
        simp only [badP, Bool.not_eq_true', Bool.or_eq_false_iff, beq_eq_false_iff_ne] at hp
        obtain ⟨⟨⟨⟨p1, p2⟩, p3⟩, p4⟩, p5⟩ := hp
        rcases Nat.lt_or_ge (decL l).1 128 with hr | hr
        · rw [small_piece l h hr] at hb
          simp only [List.mem_singleton] at hb
          subst hb
          constructor
          · intro he
            have := congrArg UInt8.toNat he
            rw [UInt8.toNat_ofNat'] at this
            have e32 : (32 : UInt8).toNat = 32 := rfl
            omega
          · intro he
            have := congrArg UInt8.toNat he
            rw [UInt8.toNat_ofNat'] at this
            have e34 : (34 : UInt8).toNat = 34 := rfl
            omega
        · have := big_bytes l h hr b hb
          constructor <;> (rintro rfl; revert this; decide)
      · exact ih _ (by rw [List.length_drop]; omega) ha.2 b hb
theorem tw_all (x u : List UInt8) (hx : ∀ b ∈ x, b ≠ 32) (hu : u.head?.getD 32 = 32) : (x ++ u).takeWhile (· ≠ 32) = x := by
  induction x with
  | nil =>
    cases u with
    | nil => rfl
    | cons a t =>
      have : a = 32 := hu
      subst this
      simp
  | cons a t ih => rw [List.cons_append, List.takeWhile_cons_of_pos (by simpa using hx a (by simp)), ih (fun b hb => hx b (by simp [hb]))]
/-- A word is one word of any line. -/
theorem words_word (p : Nat) (acc : List (List UInt8)) (x u : List UInt8) (hu : u.head?.getD 32 = 32) : wordsF p acc (wordF x ++ u) = wordsF (p + (wordF x).length) (acc ++ [x]) u := by
  unfold wordF
  cases hp : plainF x with
  | false =>
    rw [if_neg (by simp)]
    exact words_quoted p acc x u hu
  | true =>
    rw [if_pos rfl]
    cases x with
    | nil => simp [plainF] at hp
    | cons c t =>
      have hq := hp
      simp only [plainF, Bool.and_eq_true_iff, bne_iff_ne] at hq
      have hb := plain_bytes _ _ (Nat.le_refl _) hq.2
      have e := tw_all t u (fun b hb' => (hb b (by simp [hb'])).1) hu
      rw [List.cons_append, words_plain p acc c (t ++ u) hq.1 (hb c (by simp)).1 (hb c (by simp)).2, e, if_pos hp, List.drop_left]
      congr 1
      simp only [List.length_cons]; omega
def lineF (ws : List (List UInt8)) : List UInt8 := Lib.join (ws.map wordF) [32]
theorem words_tail : ∀ (ws : List (List UInt8)) (p : Nat) (acc : List (List UInt8)), wordsF p acc (Lib.joinTail [32] (ws.map wordF)) = .inr (acc ++ ws) := by
  intro ws
  induction ws with
  | nil => intro p acc; simp [Lib.joinTail, words_nil]
  | cons y r ih =>
    intro p acc
    have e : Lib.joinTail [32] ((y :: r).map wordF) = 32 :: (wordF y ++ Lib.joinTail [32] (r.map wordF)) := by simp [Lib.joinTail]
    rw [e, words_space, words_word _ _ _ _ (by cases r <;> simp [Lib.joinTail]), ih]
    simp
theorem words_line (ws : List (List UInt8)) : wordsF 0 [] (lineF ws) = .inr ws := by
  unfold lineF
  cases ws with
  | nil => simp [Lib.join_nil, words_nil]
  | cons y r =>
    rw [List.map_cons, Lib.join_cons, words_word _ _ _ _ (by cases r <;> simp [Lib.joinTail]), words_tail]
    simp
theorem quoteF_len : ∀ (n : Nat) (l : List UInt8), l.length ≤ n → ((pcs l).flatMap quoteP).length ≤ 4 * l.length := by
  intro n
  induction n with
  | zero =>
    intro l hl
    have : l = [] := List.eq_nil_of_length_eq_zero (by omega)
    subst this
    simp [pcs_nil]
  | succ n ih =>
    intro l hl
    by_cases h : l = []
    · subst h; simp [pcs_nil]
    · obtain ⟨f1, f2, f3⟩ := decL_facts l h
      have i1 := ih (l.drop (decL l).2) (by rw [List.length_drop]; omega)
      have hk : (l.take (decL l).2).length = (decL l).2 := by rw [List.length_take]; omega
      have i2 := quoteP_len ((decL l).1, brk l, l.take (decL l).2) (by show 1 ≤ (l.take (decL l).2).length; omega)
      rw [pcs_cons l h, List.flatMap_cons, List.length_append]
      rw [List.length_drop] at i1
      simp only at i2
      omega
theorem quoteF_le (l : List UInt8) : (quoteF l).length ≤ 4 * l.length + 2 := by
  have := quoteF_len _ l (Nat.le_refl _)
  rw [quoteF_parts]
  simp only [List.length_cons, List.length_append, List.length_nil]
  omega
theorem wordF_le (l : List UInt8) : (wordF l).length ≤ 4 * l.length + 2 := by
  unfold wordF
  split
  · omega
  · exact quoteF_le l
theorem lens_words (ws : List (List UInt8)) : Lib.lens (ws.map wordF) ≤ 4 * Lib.lens ws + 2 * ws.length := by
  induction ws with
  | nil => simp [Lib.lens]
  | cons y r ih =>
    have := wordF_le y
    simp only [Lib.lens, List.map_cons, List.sum_cons, List.length_cons] at ih ⊢
    omega
theorem lineF_le (ws : List (List UInt8)) : (lineF ws).length ≤ 4 * Lib.lens ws + 3 * ws.length := by
  unfold lineF
  cases ws with
  | nil => simp [Lib.join_nil]
  | cons y r =>
    have := lens_words (y :: r)
    rw [List.map_cons] at this ⊢
    rw [Lib.join_length]
    simp only [List.length_cons, List.length_map, List.length_nil] at this ⊢
    omega
theorem mem_lens {x : List UInt8} {ws : List (List UInt8)} (h : x ∈ ws) : x.length ≤ Lib.lens ws := by
  induction ws with
  | nil => cases h
  | cons y r ih =>
    simp only [Lib.lens, List.map_cons, List.sum_cons] at ih ⊢
    rcases List.mem_cons.1 h with rfl | h
    · omega
    · have := ih h; omega

set_option maxHeartbeats 3200000 in
theorem line_calls (w : World) (A : Option Addr) (n c : Nat) (ws : List (List UInt8)) (hw : Holds w (.slice A n c) n (strs ws)) (hl : ws.length = n) (hn : n ≤ 1048576) (ht : Lib.lens ws ≤ 1048576) :
    Calls Try.prog 20 #[.slice A n c] w fun e w' => e = .returned (.string (mkS (lineF ws))) ∧ Chg No w w' := by
  have HW := Lib.hid hw
  have HL := Lib.hid hl
  have HT := Lib.hid ht
  clear hw hl
  go_enter Try.func20, Try.ntmps20
  go_wp2
  go_loopw [3, 8] (fun v i wr => ∃ (k : Nat) (B : Option Addr) (m d : Nat), k ≤ n ∧ i = .int .i64 (k : Int) ∧ v = .slice B m d ∧ m = k ∧ Hid (wr.ownsRow w.heap.size 9 1 (.slice B m d) m (strs ((ws.take k).map wordF))) ∧ Hid (Chg No w wr)) (fun _ i _ => n - (intOf i).toNat)
  case atStart => exact ⟨0, none, 0, 0, Nat.zero_le _, rfl, rfl, rfl, World.ownsRow_nil _ _ _ _, Chg.refl _ _⟩
  case round =>
    obtain ⟨k, B, m, d, hk, rfl, rfl, hm, HO, HC⟩ := hrel
    subst hm
    have hsz := HC.out.size
    by_cases hlt : m < n
    · have i1 : (m : Int) < (n : Int) := by omega
      obtain ⟨b, o, rfl, hc⟩ := hold_addr (Holds.no HW.out HC.out) HL.out (by omega)
      have hmx : m < ws.length := by rw [HL.out]; exact hlt
      have hck := hc m hmx
      clear hc
      have HN : Hid ((ws.take (m + 1)).map wordF = (ws.take m).map wordF ++ [wordF ws[m]]) := by
        rw [Hid, List.take_succ_eq_append_getElem hmx, List.map_append]; rfl
      have hxl : (mkS ws[m]).size ≤ 35184372088000 := by
        rw [mkS_size]
        have := mem_lens (List.getElem_mem hmx)
        omega
      generalize ws[m] = x at *
      have CW := Lib.hid (fun w => word_calls w (mkS x) hxl)
      simp only [mkS_list] at CW
      clear hxl
      go_wp2_with (go_at_call 19; refine Hid.out ?_)
      refine Lib.hid ?_
      refine (CW.out _).mono ?_
      rintro e w2 ⟨rfl, hc2⟩
      have HC2 : Hid (Chg No w w2) := HC.out.no hc2
      have HO2 : Hid (w2.ownsRow w.heap.size 9 1 (.slice B m d) m (strs ((ws.take m).map wordF))) := own_chg HO.out hc2 (fun _ _ x => x)
      have hsz2 := HC2.out.size
      clear hc2 HC HO hck CW
      go_wp2_with (at_builtin; (refine wpList_app _ rfl (.tmp 12) (.tmp 15) 23 23 rfl w.heap.size 9 (.string ⟨#[]⟩) 1 16 infoStr Try.underlying23 rfl (by decide) (.slice B m d) (.slice (some ⟨w2.heap.size, 0, none⟩) 1 1) m 1 (strs ((ws.take m).map wordF)) [.string (mkS (wordF x))] rfl rfl ?own ?src ?b1 ?b2 ?b3 ?_; (case own => exact own_chg HO2.out ((Chg.refl No _).alloc _) (fun _ _ x => x)); (case src => exact Src.one Try.underlying23 _ rfl); (case b1 => omega); (case b2 => unfold maxLen; omega); (case b3 => simp; omega); intro v' w1 hown hg; refine Hid.out ?_))
      refine Lib.hid ?_
      obtain ⟨B', d', rfl⟩ := own_form hown
      have HO' : Hid (w1.ownsRow w.heap.size 9 1 (.slice B' (m + 1) d') (m + 1) (strs ((ws.take (m + 1)).map wordF))) := by rw [Hid, HN.out, strs, List.map_append]; exact hown
      have HC1 : Hid (Chg No w w1) := ((HC2.out).alloc _).grown hg (fun k hk => .inl ((World.ownsRow.lt HO2.out) k hk).1)
      clear hown hg
      go_wp2
      go_roundw
      case rel => exact ⟨m + 1, B', m + 1, d', by omega, by go_num, rfl, rfl, HO'.out, HC1.out⟩
      case measure => simp only [intOf]; omega
    · have i1 : ¬ ((m : Int) < (n : Int)) := by omega
      have hmn : m = n := by omega
      subst hmn
      have HE : Hid ((ws.take m).map wordF = ws.map wordF) := by rw [Hid, List.take_of_length_le (by rw [HL.out]; exact Nat.le_refl _)]
      rcases Nat.eq_zero_or_pos m with h0 | h0
      · subst h0
        have hws : ws = [] := List.eq_nil_of_length_eq_zero HL.out
        subst hws
        go_wp2_with (go_at_call 33; refine Hid.out ?_)
        refine Lib.hid ?_
        refine (Try.strings_Join_none _ _ _ _).mono ?_
        rintro e w2 ⟨rfl, rfl⟩
        go_wp2
        go_ret
        exact ⟨rfl, HC.out⟩
      · have HO1 := HO.out
        rw [HE.out] at HO1
        have hlw : ((ws.map wordF).map mkS).length = m := by rw [List.length_map, List.length_map, HL.out]
        obtain ⟨b, o, he, hc⟩ := hold_addr (Holds.ofOwn HO1) (by rw [List.length_map, HL.out]) h0
        subst he
        obtain ⟨-, h2⟩ := HO1
        have hbl : b < wr.heap.size ∧ m ≤ d := by
          rcases h2 with ⟨h2, -⟩ | ⟨g, cap, cur, h2, hg, hh, hnn, hm, hcs, ht⟩
          · simp at h2
          · simp only [Value.slice.injEq, Option.some.injEq, Addr.mk.injEq, true_and, and_true] at h2
            obtain ⟨⟨rfl, rfl⟩, rfl⟩ := h2
            refine ⟨?_, hnn⟩
            rcases Nat.lt_or_ge b wr.heap.size with h | h
            · exact h
            · simp [Array.getElem?_eq_none h] at hh
        have hj := Try.strings_Join b o d ((ws.map wordF).map mkS) ⟨#[32]⟩ wr (fun j x hj => by
          obtain ⟨hjl, rfl⟩ := List.getElem?_eq_some_iff.1 hj
          rw [List.getElem_map]
          exact hc j (by simpa using hjl)) hbl.1 (by rw [hlw]; omega) (by rw [hlw]; exact hbl.2)
        have hmm : ((ws.map wordF).map mkS).map (·.data.toList) = ws.map wordF := by
          rw [List.map_map]
          simp [Function.comp_def]
        rw [hmm, hlw] at hj
        have hj := hj (by
          have := lineF_le ws
          unfold lineF at this
          rw [HL.out] at this
          show (Lib.join (ws.map wordF) [32]).length ≤ _
          omega)
        have HJ := Lib.hid hj
        clear hj hmm hlw h2 hc hbl
        go_wp2_with (go_at_call 33; refine Hid.out ?_)
        refine Lib.hid ?_
        refine HJ.out.mono ?_
        rintro e w2 ⟨rfl, hb2⟩
        have HC2 : Hid (Chg No w w2) := HC.out.no (Chg.ofBelow hb2)
        clear hb2
        go_wp2
        go_ret
        exact ⟨rfl, HC2.out⟩
end Go.Proofs.Ytpeedclcnfbppaa
