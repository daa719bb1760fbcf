/-
  end; what a line's words are; rows of texts.
-/
import Derived.Test.YtcomcoolmabmgaaDoorQ13
namespace Go.Proofs.YtcomcoolmabmgaaDoor
open Go.RowKit
set_option linter.unusedVariables false
set_option linter.unusedSimpArgs false

theorem cells2 {w : World} {g : Nat} {a b : Value} {t : TypeId} (h : w.heap[g]? = some (.cells #[a, b] t (0, 0))) :
    w.cell? ⟨g, 0, none⟩ = some a ∧ w.cell? ⟨g, 1, none⟩ = some b ∧ w.frozen? ⟨g, 0, none⟩ = false ∧ w.frozen? ⟨g, 1, none⟩ = false := by
  simp [World.cell?, World.frozen?, h]
/-- A row of whatever, over a change that spares it. -/
theorem own_chg {S : Nat → Prop} {w w' : World} {base size n : Nat} {e : TypeId} {v : Value} {xs : List Value} (h : w.ownsRow base e size v n xs) (hc : Chg S w w') (hs : ∀ b, v.ownBlock = some b → ¬ S b) : w'.ownsRow base e size v n xs := by
  obtain ⟨h1, h2⟩ := h
  refine ⟨h1, h2.imp id ?_⟩
  rintro ⟨g, cap, cur, rfl, hg, hh, r⟩
  exact ⟨g, cap, cur, rfl, hg, hc.heap hh (hs g rfl), r⟩
theorem own_form {w : World} {base size n : Nat} {e : TypeId} {v : Value} {xs : List Value} (h : w.ownsRow base e size v n xs) : ∃ A c, v = .slice A n c := by
  obtain ⟨h1, h2⟩ := h
  rcases h2 with ⟨rfl, rfl⟩ | ⟨g, cap, cur, rfl, _⟩
  · exact ⟨none, 0, rfl⟩
  · exact ⟨_, _, rfl⟩
def strs (ws : List (List UInt8)) : List Value := ws.map fun l => .string (mkS l)
theorem infoStr : (Tryd.prog.info? 9).map (fun i => (i.zero, i.size, i.bytes)) = some (some (.string ⟨#[]⟩), 1, 16) := by kernel_rfl

/-- How many bytes the quoted word has behind its first quote. -/
def endL : List UInt8 → Option Nat
  | [] => none
  | c :: t => if c = 92 then (match t with
      | [] => none
      | _ :: u => (endL u).map (· + 2))
    else if c = 34 then some 1 else (endL t).map (· + 1)
theorem endL_esc (d : UInt8) (u : List UInt8) : endL (92 :: d :: u) = (endL u).map (· + 2) := by rw [endL.eq_def]; simp
theorem endL_esc1 : endL [92] = none := by rw [endL.eq_def]; simp
theorem endL_quote (u : List UInt8) : endL (34 :: u) = some 1 := by rw [endL.eq_def]; simp
theorem endL_any (c : UInt8) (u : List UInt8) (h1 : c ≠ 92) (h2 : c ≠ 34) : endL (c :: u) = (endL u).map (· + 1) := by
  conv => lhs; rw [endL.eq_def]
  simp only
  rw [if_neg h1, if_neg h2]
def endV (at' : Nat) : Option Nat → Int
  | none => -1
  | some k => ((at' + k : Nat) : Int)
theorem endV_map (a b : Nat) (o : Option Nat) : endV a (o.map (· + b)) = endV (a + b) o := by
  cases o with
  | none => rfl
  | some k => simp only [Option.map_some, endV]; omega

set_option maxHeartbeats 800000 in
theorem end_calls (w : World) (s : ByteArray) (hs : s.size ≤ 9223372036854775000) (p : Nat) (hp : p < s.size) :
    Calls Tryd.prog 36 #[.string s, .int .i64 (p : Int)] w fun e w' => e = .returned (.int .i64 (endV (p + 1) (endL (s.data.toList.drop (p + 1))))) ∧ Chg No w w' := by
  have HS := Lib.hid (size_list s)
  go_enter Tryd.func36, Tryd.ntmps36
  go_wp2
  go_loopw [5] (fun a wr => ∃ q : Nat, p + 1 ≤ q ∧ q ≤ s.size + 1 ∧ a = .int .i64 (q : Int) ∧ Hid (endV (p + 1) (endL (s.data.toList.drop (p + 1))) = endV q (endL (s.data.toList.drop q))) ∧ Hid (Chg No w wr)) (fun a _ => s.size + 2 - (intOf a).toNat)
  case atStart => exact ⟨p + 1, Nat.le_refl _, by omega, by go_num, rfl, Chg.refl No w⟩
  case round =>
    obtain ⟨q, hq1, hq2, rfl, HE, HC⟩ := hrel
    by_cases hlt : q < s.size
    · have i1 : (q : Int) < (s.size : Int) := by omega
      obtain ⟨x, hx⟩ : ∃ x, s[q] = x := ⟨_, rfl⟩
      have HD : Hid (s.data.toList.drop q = x :: s.data.toList.drop (q + 1)) := by
        rw [Hid, List.drop_eq_getElem_cons (by rw [HS.out]; omega), ← hx]; rfl
      by_cases h92 : x = 92
      · subst h92
        have HE1 : Hid (endV (p + 1) (endL (s.data.toList.drop (p + 1))) = endV (q + 2) (endL (s.data.toList.drop (q + 2)))) := by
          rw [Hid, HE.out, HD.out]
          cases hh : s.data.toList.drop (q + 1) with
          | nil =>
            have e : s.data.toList.drop (q + 2) = [] := by
              have := congrArg (List.drop 1) hh
              rw [List.drop_drop] at this
              simpa using this
            rw [e, endL_esc1]
            rfl
          | cons d u =>
            have e : s.data.toList.drop (q + 2) = u := by
              have := congrArg (List.drop 1) hh
              rw [List.drop_drop] at this
              simpa using this
            rw [e, endL_esc, endV_map]
        clear HE HD
        go_wp2
        go_roundw
        case rel => exact ⟨q + 2, by omega, by omega, by go_num, HE1.out, HC.out⟩
        case measure => simp only [intOf]; omega
      have hb92 : ((x.toNat : Int) == 92) = false := beq_eq_false_iff_ne.2 (fun h => h92 (UInt8.toNat_inj.1 (Int.ofNat.inj h)))
      by_cases h34 : x = 34
      · subst h34
        have HE1 : Hid (endV (p + 1) (endL (s.data.toList.drop (p + 1))) = (q : Int) + 1) := by
          rw [Hid, HE.out, HD.out, endL_quote]
          simp only [endV]; omega
        clear HE HD
        go_wp2
        go_ret
        exact ⟨by rw [HE1.out]; rfl, HC.out⟩
      have hb34 : ((x.toNat : Int) == 34) = false := beq_eq_false_iff_ne.2 (fun h => h34 (UInt8.toNat_inj.1 (Int.ofNat.inj h)))
      have HE1 : Hid (endV (p + 1) (endL (s.data.toList.drop (p + 1))) = endV (q + 1) (endL (s.data.toList.drop (q + 1)))) := by
        rw [Hid, HE.out, HD.out, endL_any x _ h92 h34, endV_map]
      clear HE HD h92 h34
      go_wp2
      go_roundw
      case rel => exact ⟨q + 1, by omega, by omega, by go_num, HE1.out, HC.out⟩
      case measure => simp only [intOf]; omega
    · have i1 : ¬ ((q : Int) < (s.size : Int)) := by omega
      have HE1 : Hid (endV (p + 1) (endL (s.data.toList.drop (p + 1))) = -1) := by
        rw [Hid, HE.out, List.drop_of_length_le (by rw [HS.out]; omega)]
        rfl
      clear HE
      go_wp2
      go_ret
      exact ⟨by rw [HE1.out]; rfl, HC.out⟩

theorem endL_pos : ∀ (n : Nat) (l : List UInt8), l.length ≤ n → ∀ k, endL l = some k → 1 ≤ k ∧ k ≤ l.length := by
  intro n
  induction n with
  | zero =>
    intro l hl k h
    have : l = [] := List.eq_nil_of_length_eq_zero (by omega)
    subst this
    simp [endL] at h
  | succ n ih =>
    intro l hl k h
    match l, hl, h with
    | [], _, h => simp [endL] at h
    | c :: t, hl, h =>
      simp only [List.length_cons] at hl ⊢
      by_cases h1 : c = 92
      · subst h1
        match t, hl, h with
        | [], _, h => rw [endL_esc1] at h; cases h
        | d :: u, hl, h =>
          rw [endL_esc] at h
          obtain ⟨a, ha, rfl⟩ := Option.map_eq_some_iff.1 h
          simp only [List.length_cons] at hl ⊢
          have := ih u (by omega) a ha
          omega
      · by_cases h2 : c = 34
        · subst h2; rw [endL_quote] at h; cases h; omega
        · rw [endL_any c t h1 h2] at h
          obtain ⟨a, ha, rfl⟩ := Option.map_eq_some_iff.1 h
          have := ih t (by omega) a ha
          omega

/-- A line's words, or the place of the first that is wrong. -/
def wordsF (p : Nat) (acc : List (List UInt8)) : List UInt8 → Nat ⊕ List (List UInt8)
  | [] => .inr acc
  | c :: t =>
    if c = 35 then .inr acc
    else if c = 32 then wordsF (p + 1) acc t
    else if c = 34 then match endL t with
      | none => .inl p
      | some k => if (t.drop k).head?.getD 32 ≠ 32 then .inl p else match unqF (c :: t.take k) with
        | none => .inl p
        | some x => wordsF (p + 1 + k) (acc ++ [x]) (t.drop k)
    else if plainF (c :: t.takeWhile (· ≠ 32)) then wordsF (p + 1 + (t.takeWhile (· ≠ 32)).length) (acc ++ [c :: t.takeWhile (· ≠ 32)]) (t.drop (t.takeWhile (· ≠ 32)).length) else .inl p
termination_by l => l.length
decreasing_by all_goals simp; try omega
end Go.Proofs.YtcomcoolmabmgaaDoor
