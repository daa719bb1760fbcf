/-
  Q8, Q9, Goto, Q10, Q11: in one text.
-/
import Derived.Test.YtcomcoolmabmgaaDoorBa4
import Derived.Test.YtcomcoolmabmgaaDoorBa1
import Derived.WalkMore
import Derived.ScopeJumps
import Derived.Deep.RegionHeld3
namespace Go.Proofs.YtcomcoolmabmgaaDoor
set_option linter.unnecessarySimpa false
open Go.RowKit
set_option linter.unusedVariables false
set_option linter.unusedSimpArgs false

/-- What a digit says; 16: it is none. -/
def dg (c : Nat) : Nat := if 48 ≤ c ∧ c ≤ 57 then c - 48 else if 97 ≤ c ∧ c ≤ 102 then c - 87 else 16
theorem dg_le (c : Nat) : dg c ≤ 16 := by unfold dg; split <;> (try split) <;> omega

set_option maxHeartbeats 400000 in
theorem digit_calls (w : World) (c : Nat) (hc : c < 256) : Calls Tryd.prog 72 #[.int .u8 (c : Int)] w fun e w' => e = .returned (.int .u8 ((dg c : Nat) : Int)) ∧ w = w' := by
  by_cases h1 : 48 ≤ c
  · by_cases h2 : c ≤ 57
    · have HU : Hid (((dg c : Nat) : Int) = (c : Int) - 48) := by simp only [Hid, dg]; rw [if_pos ⟨h1, h2⟩]; omega
      go_enter Tryd.func72, Tryd.ntmps72
      go_wp2
      go_ret
      exact ⟨by rw [HU.out]; first | rfl | (simp; done) | (simp; omega), rfl⟩
    · by_cases h3 : 97 ≤ c
      · by_cases h4 : c ≤ 102
        · have HU : Hid (((dg c : Nat) : Int) = (c : Int) - 97 + 10) := by simp only [Hid, dg]; rw [if_neg (by omega), if_pos ⟨h3, h4⟩]; omega
          go_enter Tryd.func72, Tryd.ntmps72
          go_wp2
          go_ret
          exact ⟨by rw [HU.out]; first | rfl | (simp; done) | (simp; omega), rfl⟩
        · have HU : Hid (((dg c : Nat) : Int) = 16) := by simp only [Hid, dg]; rw [if_neg (by omega), if_neg (by omega)]; rfl
          go_enter Tryd.func72, Tryd.ntmps72
          go_wp2
          go_ret
          exact ⟨by rw [HU.out]; first | rfl | (simp; done) | (simp; omega), rfl⟩
      · have HU : Hid (((dg c : Nat) : Int) = 16) := by simp only [Hid, dg]; rw [if_neg (by omega), if_neg (by omega)]; rfl
        go_enter Tryd.func72, Tryd.ntmps72
        go_wp2
        go_ret
        exact ⟨by rw [HU.out]; first | rfl | (simp; done) | (simp; omega), rfl⟩
  · have HU : Hid (((dg c : Nat) : Int) = 16) := by simp only [Hid, dg]; rw [if_neg (by omega), if_neg (by omega)]; rfl
    go_enter Tryd.func72, Tryd.ntmps72
    go_wp2
    go_ret
    exact ⟨by rw [HU.out]; first | rfl | (simp; done) | (simp; omega), rfl⟩
set_option maxHeartbeats 400000 in
theorem value_calls (w : World) (c : Nat) (hc : c < 256) : Calls Tryd.prog 63 #[.int .u8 (c : Int)] w fun e w' => e = .returned (.int .u8 ((dg c : Nat) : Int)) ∧ w = w' := by
  by_cases h1 : 48 ≤ c
  · by_cases h2 : c ≤ 57
    · have HU : Hid (((dg c : Nat) : Int) = (c : Int) - 48) := by simp only [Hid, dg]; rw [if_pos ⟨h1, h2⟩]; omega
      go_enter Tryd.func63, Tryd.ntmps63
      go_wp2
      go_ret
      exact ⟨by rw [HU.out]; first | rfl | (simp; done) | (simp; omega), rfl⟩
    · by_cases h3 : 97 ≤ c
      · by_cases h4 : c ≤ 102
        · have HU : Hid (((dg c : Nat) : Int) = (c : Int) - 97 + 10) := by simp only [Hid, dg]; rw [if_neg (by omega), if_pos ⟨h3, h4⟩]; omega
          go_enter Tryd.func63, Tryd.ntmps63
          go_wp2
          go_ret
          exact ⟨by rw [HU.out]; first | rfl | (simp; done) | (simp; omega), rfl⟩
        · have HU : Hid (((dg c : Nat) : Int) = 16) := by simp only [Hid, dg]; rw [if_neg (by omega), if_neg (by omega)]; rfl
          go_enter Tryd.func63, Tryd.ntmps63
          go_wp2
          go_ret
          exact ⟨by rw [HU.out]; first | rfl | (simp; done) | (simp; omega), rfl⟩
      · have HU : Hid (((dg c : Nat) : Int) = 16) := by simp only [Hid, dg]; rw [if_neg (by omega), if_neg (by omega)]; rfl
        go_enter Tryd.func63, Tryd.ntmps63
        go_wp2
        go_ret
        exact ⟨by rw [HU.out]; first | rfl | (simp; done) | (simp; omega), rfl⟩
  · have HU : Hid (((dg c : Nat) : Int) = 16) := by simp only [Hid, dg]; rw [if_neg (by omega), if_neg (by omega)]; rfl
    go_enter Tryd.func63, Tryd.ntmps63
    go_wp2
    go_ret
    exact ⟨by rw [HU.out]; first | rfl | (simp; done) | (simp; omega), rfl⟩
end Go.Proofs.YtcomcoolmabmgaaDoor

namespace Go.Proofs.YtcomcoolmabmgaaDoor
set_option linter.unnecessarySimpa false
set_option linter.unusedVariables false
set_option linter.unusedSimpArgs false

/-- What stands between the quotes says this, if it may be read. -/
def innerF : List UInt8 → Option (List UInt8)
  | [] => some []
  | c :: t =>
    if c = 34 then none
    else if c ≠ 92 then (innerF t).map (c :: ·)
    else match t with
    | [] => none
    | e :: u =>
      if e = 34 ∨ e = 92 then (innerF u).map (e :: ·)
      else if e = 110 then (innerF u).map (10 :: ·)
      else if e = 120 then match u with
        | a :: b :: v => if dg a.toNat < 16 ∧ dg b.toNat < 16 then (innerF v).map (UInt8.ofNat (dg a.toNat * 16 + dg b.toNat) :: ·) else none
        | _ => none
      else none

theorem innerF_plain (c : UInt8) (t : List UInt8) (h1 : c ≠ 34) (h2 : c ≠ 92) : innerF (c :: t) = (innerF t).map (c :: ·) := by
  conv => lhs; rw [innerF.eq_def]
  simp only
  rw [if_neg h1, if_pos h2]
theorem innerF_esc (e : UInt8) (u : List UInt8) (h : e = 34 ∨ e = 92) : innerF (92 :: e :: u) = (innerF u).map (e :: ·) := by
  conv => lhs; rw [innerF.eq_def]
  simp only
  rw [if_neg (by decide), if_neg (by decide)]
  simp only [if_pos h]
theorem innerF_nl (u : List UInt8) : innerF (92 :: 110 :: u) = (innerF u).map (10 :: ·) := by
  conv => lhs; rw [innerF.eq_def]
  simp only
  rw [if_neg (by decide), if_neg (by decide)]
  simp only [if_neg (show ¬ ((110 : UInt8) = 34 ∨ (110 : UInt8) = 92) by decide), if_true]
theorem dg_hx : ∀ q, q < 16 → dg (hx q).toNat = q := by decide
theorem innerF_hex (b : UInt8) (u : List UInt8) : innerF (92 :: 120 :: hx (b.toNat / 16) :: hx (b.toNat % 16) :: u) = (innerF u).map (b :: ·) := by
  have hb : b.toNat < 256 := b.toNat_lt
  conv => lhs; rw [innerF.eq_def]
  simp only
  rw [if_neg (by decide), if_neg (by decide)]
  simp only [if_neg (show ¬ ((120 : UInt8) = 34 ∨ (120 : UInt8) = 92) by decide), if_neg (show ¬ ((120 : UInt8) = 110) by decide), if_true]
  rw [dg_hx _ (by omega), dg_hx _ (by omega), if_pos ⟨by omega, by omega⟩]
  have e : b.toNat / 16 * 16 + b.toNat % 16 = b.toNat := by omega
  rw [e, u8_of _ b rfl]
theorem innerF_hexs (bs u : List UInt8) : innerF (hexs bs ++ u) = (innerF u).map (bs ++ ·) := by
  induction bs with
  | nil => simp [hexs]
  | cons b t ih =>
    have e : hexs (b :: t) ++ u = 92 :: 120 :: hx (b.toNat / 16) :: hx (b.toNat % 16) :: (hexs t ++ u) := rfl
    rw [e, innerF_hex, ih]
    simp [Option.map_map, Function.comp_def]
theorem innerF_bytes (bs u : List UInt8) (h : ∀ b ∈ bs, b ≠ 34 ∧ b ≠ 92) : innerF (bs ++ u) = (innerF u).map (bs ++ ·) := by
  induction bs with
  | nil => simp
  | cons b t ih =>
    have hb := h b (by simp)
    rw [List.cons_append, innerF_plain b _ hb.1 hb.2, ih (fun x hx => h x (by simp [hx]))]
    simp [Option.map_map, Function.comp_def]

theorem small_piece (l : List UInt8) (h : l ≠ []) (hr : (decL l).1 < 128) : l.take (decL l).2 = [UInt8.ofNat (decL l).1] := by
  have hf := decL_facts l h
  rw [take_get l _ hf.2.1]
  rcases decL_ways l with ⟨h1, e⟩ | ⟨h1, h2, h3, h4, e⟩ | ⟨h1, h2, h3, h4, h5, h6, e⟩ | ⟨h1, h2, h3, h4, h5, h6, h7, e⟩ | ⟨h1, e⟩
  · rw [e]
    simp only
    rw [u8_of _ (l.getD 0 0) rfl]
    rfl
  · rw [e] at hr; simp only at hr; omega
  · rw [e] at hr; simp only at hr; omega
  · rw [e] at hr; simp only at hr; omega
  · rw [e] at hr; simp only at hr; omega
theorem big_piece (l : List UInt8) (h : l ≠ []) (hr : 128 ≤ (decL l).1) : ∀ b ∈ l.take (decL l).2, b ≠ 34 ∧ b ≠ 92 := by
  have hf := decL_facts l h
  have key : ∀ b : UInt8, 128 ≤ b.toNat → b ≠ 34 ∧ b ≠ 92 := by
    intro b hb
    constructor <;> (intro he; subst he; revert hb; decide)
  rw [take_get l _ hf.2.1]
  intro b hb
  apply key
  obtain ⟨j, hj, rfl⟩ := List.mem_map.1 hb
  have hj : j < (decL l).2 := List.mem_range.1 hj
  rcases decL_ways l with ⟨h1, e⟩ | ⟨h1, h2, h3, h4, e⟩ | ⟨h1, h2, h3, h4, h5, h6, e⟩ | ⟨h1, h2, h3, h4, h5, h6, h7, e⟩ | ⟨h1, e⟩
  · rw [e] at hr; simp only at hr; omega
  · rw [e] at hj; simp only at hj
    obtain rfl | rfl : j = 0 ∨ j = 1 := by omega
    · omega
    · omega
  · rw [e] at hj; simp only at hj
    obtain rfl | rfl | rfl : j = 0 ∨ j = 1 ∨ j = 2 := by omega
    · omega
    · omega
    · omega
  · rw [e] at hj; simp only at hj
    obtain rfl | rfl | rfl | rfl : j = 0 ∨ j = 1 ∨ j = 2 ∨ j = 3 := by omega
    · omega
    · omega
    · omega
    · omega
  · rw [e] at hj; simp only at hj
    obtain rfl : j = 0 := by omega
    exact h1

theorem innerF_piece (l u : List UInt8) (h : l ≠ []) : innerF (quoteP ((decL l).1, brk l, l.take (decL l).2) ++ u) = (innerF u).map (l.take (decL l).2 ++ ·) := by
  unfold quoteP
  simp only
  split
  · rename_i h1
    rw [small_piece l h (by omega)]
    rcases h1 with h1 | h1 <;> rw [h1]
    · exact innerF_esc 34 u (.inl rfl)
    · exact innerF_esc 92 u (.inr rfl)
  · split
    · rename_i h1 h2
      rw [small_piece l h (by omega), h2]
      exact innerF_nl u
    · split
      · exact innerF_hexs _ u
      · rename_i h1 h2 h3
        apply innerF_bytes
        rcases Nat.lt_or_ge (decL l).1 128 with hr | hr
        · rw [small_piece l h hr]
          intro b hb
          simp only [List.mem_singleton] at hb
          subst hb
          constructor
          · intro he
            have := congrArg UInt8.toNat he
            rw [UInt8.toNat_ofNat'] at this
            have e34 : (34 : UInt8).toNat = 34 := rfl
            omega
          · intro he
            have := congrArg UInt8.toNat he
            rw [UInt8.toNat_ofNat'] at this
            have e92 : (92 : UInt8).toNat = 92 := rfl
            omega
        · exact big_piece l h hr

/-- Whatever bytes a text has: they come back. -/
theorem innerF_quote : ∀ (n : Nat) (l : List UInt8), l.length ≤ n → innerF ((pcs l).flatMap quoteP) = some l := by
  intro n
  induction n with
  | zero =>
    intro l hl
    have : l = [] := List.eq_nil_of_length_eq_zero (by omega)
    subst this
    simp [pcs_nil, innerF]
  | succ n ih =>
    intro l hl
    by_cases h : l = []
    · subst h
      simp [pcs_nil, innerF]
    · have hf := decL_facts l h
      rw [pcs_cons l h, List.flatMap_cons, innerF_piece l _ h, ih _ (by rw [List.length_drop]; omega)]
      simp
end Go.Proofs.YtcomcoolmabmgaaDoor

namespace Go.Proofs.YtcomcoolmabmgaaDoor
set_option linter.unnecessarySimpa false
open Go.RowKit
set_option linter.unusedVariables false
set_option linter.unusedSimpArgs false

theorem wp_scope_jumps2 {P : Program} {a : Act} {w : World} {Q : Exit → Act → World → Prop} {c R : Code} (l : Nat) (J : Act → World → Prop) (μ : Act → World → Nat) (hf : findLabel c l = some (Code.skip.seq R))
    (pass : ∀ a w, J a w → R.wp P (Exit.jump l (fun a' w' => J a' w' ∧ μ a' w' < μ a w) Q) a w)
    (first : (∀ a w, J a w → R.wp P (Exit.jump l J Q) a w) → c.wp P (Exit.jump l J Q) a w) : (Code.scope c).wp P Q a w := by
  refine wp_scope_jumps l J μ hf (first fun a w hJ => wp_mono (pass a w hJ) (fun e a w h => ?_)) (fun a w hJ => wp_seq (wp_skip (pass a w hJ)))
  cases e with
  | goto l' => exact ⟨h.1, h.2.1⟩
  | _ => exact h

theorem list_range (l : List Value) (N : Nat) (h : l.length = N) : l = (List.range N).map (fun i => l.getD i undef) := by
  refine List.ext_getElem (by simp [h]) (fun i h1 h2 => ?_)
  rw [List.getElem_map, List.getElem_range, List.getD_eq_getElem?_getD, List.getElem?_eq_getElem h1]; rfl
theorem act_range (a : Act) (N : Nat) (h : a.tmps.size = N) (hd : a.defers = []) : a = { tmps := ((List.range N).map (fun i => a.tmps.getD i undef)).toArray, defers := [] } := by
  rcases a with ⟨⟨l⟩, d⟩
  simp only at hd
  subst hd
  have := list_range l N (by simpa using h)
  have e : ∀ i, (Array.mk l).getD i undef = l.getD i undef := by intro i; simp [Array.getD_eq_getD_getElem?]
  simp only [e]
  exact congrArg (fun x => (⟨⟨x⟩, []⟩ : Act)) this
theorem or_dg : ∀ p, p < 16 → ∀ q, q < 16 → bits .or .u8 (IntKind.u8.wrap (((p : Nat) : Int) * 16)) ((q : Nat) : Int) = ((UInt8.ofNat (p * 16 + q)).toNat : Int) := by decide +kernel
theorem Src.one' {P : Program} {w : World} {tx e' t : TypeId} (hk : P.underlying tx = some (.slice e')) (a : Value) (news : List Value) {w' : World} (hc : Chg No (w.alloc (.cells #[a] t)) w') (hn : news = [a]) (h1 : ∀ u ∈ news, u.oneCell' = true) :
    Src P 1 tx (.slice (some ⟨w.heap.size, 0, none⟩) 1 1) 1 news w' := by
  subst hn
  refine Src.ofSlice _ hk _ _ _ [a] (by simp) (fun j v hj => ?_) h1
  rw [Addr.add_lit, Nat.zero_add]
  match j, hj with
  | 0, hj => exact hc.cell (by rw [World.cell?_alloc_new]; simpa using hj) (fun x => x)
  | n + 1, hj => simp at hj
theorem ext_get (t : ByteArray) (a k : Nat) (h : k < (t.extract a t.size).size) (h2 : a + k < t.data.toList.length) : t.data.toList[a + k] = (t.extract a t.size)[k] := by
  show _ = (t.extract a t.size).data[k]'h
  simp [ByteArray.data_extract, Array.getElem_extract]

end Go.Proofs.YtcomcoolmabmgaaDoor

namespace Go.Proofs.YtcomcoolmabmgaaDoor
set_option linter.unnecessarySimpa false
open Go.RowKit
set_option linter.unusedVariables false
set_option linter.unusedSimpArgs false

/-- What a quoted text says, if it is one that may be read. -/
def plainlyF (l : List UInt8) : Option (List UInt8) :=
  if l.length < 2 then none else if l.getD 0 0 ≠ 34 ∨ l.getD (l.length - 1) 0 ≠ 34 then none else innerF ((l.drop 1).take (l.length - 2))
def plainlyR : Option (List UInt8) → Ending
  | none => .returned (.tuple #[.string ⟨#[]⟩, .bool false])
  | some t => .returned (.tuple #[.string (mkS t), .bool true])

set_option maxRecDepth 100000
/-- What holds at every jump of plainly. -/
def plJ (w : World) (s : ByteArray) (a' : Act) (w' : World) : Prop := Chg No w w' ∧ ∃ (at' n : Nat) (ys : List UInt8) (A : Option Addr) (c : Nat) (u : Nat → Value), a' = { tmps := #[.string (s.extract 1 (s.size - 1)), u 1, .string ⟨#[]⟩, .bool false, .slice A n c, .int .i64 (at' : Int), u 6, u 7, u 8, u 9, u 10, u 11, u 12, u 13, u 14, u 15, u 16, u 17, u 18, u 19, u 20, u 21, u 22, u 23, u 24, u 25, u 26, u 27, u 28, u 29, u 30, u 31, u 32, u 33, u 34, u 35, u 36, u 37, u 38, u 39, u 40, u 41, u 42, u 43, u 44, u 45, u 46, u 47, u 48, u 49, u 50, u 51, u 52, u 53, u 54, u 55, u 56, u 57, u 58, u 59, u 60, u 61, u 62, u 63, u 64, u 65, u 66, u 67, u 68, u 69, u 70, u 71, u 72, u 73, u 74, u 75, u 76, u 77, u 78, u 79, u 80, u 81, u 82, u 83, u 84, u 85, u 86, u 87, u 88, u 89, u 90, u 91, u 92, u 93, u 94, u 95, u 96, u 97, u 98, u 99, u 100, u 101, u 102, u 103, u 104, u 105, u 106, u 107, u 108, u 109, u 110, u 111, u 112, u 113, u 114, u 115], defers := [] } ∧ Hid (OwnB w' w.heap.size (.slice A n c) ys) ∧ Hid (ys.length = n) ∧ n ≤ at' ∧ at' ≤ s.size - 2 ∧ Hid (plainlyF s.data.toList = (innerF (((s.data.toList.drop 1).take (s.size - 2)).drop at')).map (ys ++ ·))
def plM (s : ByteArray) (a' : Act) (w' : World) : Nat := s.size - 2 - (match a'.tmps.getD 5 undef with | .int _ q => q.toNat | _ => 0)
theorem plJ_intro {w w' : World} {s : ByteArray} (a' : Act) (hc : Chg No w w') (at' n : Nat) (ys : List UInt8) (A : Option Addr) (c : Nat) (hN : a'.tmps.size = 116) (hd : a'.defers = [])
    (h0 : a'.tmps.getD 0 undef = .string (s.extract 1 (s.size - 1))) (h2 : a'.tmps.getD 2 undef = .string ⟨#[]⟩) (h3 : a'.tmps.getD 3 undef = .bool false) (h4 : a'.tmps.getD 4 undef = .slice A n c) (h5 : a'.tmps.getD 5 undef = .int .i64 (at' : Int))
    (HO : Hid (OwnB w' w.heap.size (.slice A n c) ys)) (HL : Hid (ys.length = n)) (hn : n ≤ at') (ha : at' ≤ s.size - 2) (HP : Hid (plainlyF s.data.toList = (innerF (((s.data.toList.drop 1).take (s.size - 2)).drop at')).map (ys ++ ·))) : plJ w s a' w' := by
  refine ⟨hc, at', n, ys, A, c, fun i => a'.tmps.getD i undef, ?_, HO, HL, hn, ha, HP⟩
  refine (act_range a' 116 hN hd).trans ?_
  rw [← h0, ← h2, ← h3, ← h4, ← h5]
  rfl

set_option maxRecDepth 100000 in
set_option maxHeartbeats 3200000 in
theorem plainly_calls (w : World) (s : ByteArray) (hs : s.size ≤ 140737488355000) :
    Calls Tryd.prog 56 #[.string s] w fun e w' => e = plainlyR (plainlyF s.data.toList) ∧ Chg No w w' := by
  have hsl := size_list s
  by_cases h2 : s.size < 2
  · have HU : Hid (plainlyF s.data.toList = none) := by simp only [Hid, plainlyF]; rw [if_pos (by omega)]
    have hi : (s.size : Int) < 2 := by omega
    clear hsl
    go_enter Tryd.func56, Tryd.ntmps56
    go_wp2
    go_step3
    go_wp2
    all_goals (try rw [Exit.noGoto_ret])
    all_goals go_ret2
    all_goals exact ⟨by rw [HU.out]; rfl, Chg.refl _ _⟩
  · have hi : ¬ ((s.size : Int) < 2) := by omega
    have hi2 : (s.size : Int) - 1 < 9223372036854775808 := by omega
    have h1s : s.size - 1 < s.size := by omega
    have h0s : 0 < s.size := by omega
    have e1 : s.data.toList.getD 0 0 = s[0]'h0s := by rw [List.getD_eq_getElem?_getD, List.getElem?_eq_getElem (by omega)]; rfl
    have e2 : s.data.toList.getD (s.data.toList.length - 1) 0 = s[s.size - 1]'h1s := by rw [List.getD_eq_getElem?_getD, List.getElem?_eq_getElem (by omega)]; simp only [hsl]; rfl
    obtain ⟨x0, hx0⟩ : ∃ x, s[0]'h0s = x := ⟨_, rfl⟩
    obtain ⟨x1, hx1⟩ : ∃ x, s[s.size - 1]'h1s = x := ⟨_, rfl⟩
    have HPL : Hid (plainlyF s.data.toList = if x0 ≠ 34 ∨ x1 ≠ 34 then none else innerF ((s.data.toList.drop 1).take (s.size - 2))) := by
      rw [Hid, plainlyF, if_neg (by omega), e1, e2, hx0, hx1, hsl]
    clear e1 e2 hsl
    by_cases hq0 : x0 = 34
    case neg =>
      have hb0 : ((x0.toNat : Int) != 34) = true := bne_iff_ne.2 (fun h => hq0 (UInt8.toNat_inj.1 (Int.ofNat.inj h)))
      have HU : Hid (plainlyF s.data.toList = none) := by rw [Hid, HPL.out, if_pos (.inl hq0)]
      clear hq0
      go_enter Tryd.func56, Tryd.ntmps56
      go_wp2
      go_step3
      go_wp2
      all_goals (try rw [Exit.noGoto_ret])
      all_goals go_ret2
      all_goals exact ⟨by rw [HU.out]; rfl, Chg.refl _ _⟩
    by_cases hq1 : x1 = 34
    case neg =>
      have hb0 : ((x0.toNat : Int) != 34) = false := by rw [hq0]; rfl
      have hb1 : ((x1.toNat : Int) != 34) = true := bne_iff_ne.2 (fun h => hq1 (UInt8.toNat_inj.1 (Int.ofNat.inj h)))
      have HU : Hid (plainlyF s.data.toList = none) := by rw [Hid, HPL.out, if_pos (.inr hq1)]
      clear hq0 hq1
      go_enter Tryd.func56, Tryd.ntmps56
      go_wp2
      go_step3
      go_wp2
      all_goals (try rw [Exit.noGoto_ret])
      all_goals go_ret2
      all_goals exact ⟨by rw [HU.out]; rfl, Chg.refl _ _⟩
    have hb0 : ((x0.toNat : Int) != 34) = false := by rw [hq0]; rfl
    have hb1 : ((x1.toNat : Int) != 34) = false := by rw [hq1]; rfl
    have HPL : Hid (plainlyF s.data.toList = innerF ((s.data.toList.drop 1).take (s.size - 2))) := by rw [Hid, HPL.out, if_neg (by simp [hq0, hq1])]
    clear hq0 hq1
    go_enter Tryd.func56, Tryd.ntmps56
    go_wp2
    refine wp_scope_jumps2 0 (plJ w s) (plM s) rfl ?_ ?_
    · clear hx0 hx1 hb0 hb1 HPL h1s h0s
      rintro a' w' ⟨HC, at', n, ys, A, c, u, rfl, HO, HL, hn, ha, HP⟩
      have HC := Lib.hid HC
      have hsw := HC.out.size
      have hts : (s.extract 1 (s.size - 1)).size = s.size - 2 := by rw [ByteArray.size_extract]; omega
      have HTL : (s.data.toList.drop 1).take (s.size - 2) = (s.extract 1 (s.size - 1)).data.toList := by
        rw [ByteArray.data_extract, Array.toList_extract, List.extract_eq_take_drop]; congr 1
      rw [HTL] at HP
      clear HTL
      generalize hT : s.extract 1 (s.size - 1) = t at hts HP ⊢
      have HT := Lib.hid hT
      have HTL : Hid (((s.data.toList.drop 1).take (s.size - 2)) = t.data.toList) := by
        rw [Hid, ← hT, ByteArray.data_extract, Array.toList_extract, List.extract_eq_take_drop]; congr 1
      clear hT
      have HTS := Lib.hid hts
      have hta : at' ≤ t.size := by omega
      have htm : t.size ≤ 140737488355000 := by omega
      have hlen := size_list t
      clear hts ha
      rcases Nat.lt_or_ge at' t.size with hat | hat
      · have hb1 : ((at' : Int) == (t.size : Int)) = false := by rw [beq_eq_false_iff_ne]; omega
        have hd1 : ((at' : Int) = (t.size : Int)) = False := eq_false (by omega)
        obtain ⟨x, hx⟩ : ∃ x, t[at'] = x := ⟨_, rfl⟩
        have HD : Hid (t.data.toList.drop at' = x :: t.data.toList.drop (at' + 1)) := by
          rw [Hid, List.drop_eq_getElem_cons (by omega), ← hx]; rfl
        have hx256 : x.toNat < 256 := x.toNat_lt
        by_cases h34 : x = 34
        · subst h34
          have HU : Hid (plainlyF s.data.toList = none) := by rw [Hid, HP.out, HD.out, innerF.eq_def]; simp
          clear HP HD hlen
          go_wp2
          all_goals (try simp only [Exit.jump])
          all_goals go_ret2
          all_goals exact ⟨by rw [HU.out]; rfl, HC.out⟩
        have hb34 : ((x.toNat : Int) == 34) = false := beq_eq_false_iff_ne.2 (fun h => h34 (UInt8.toNat_inj.1 (Int.ofNat.inj h)))
        by_cases h92 : x = 92
        case neg =>
          have hb92 : ((x.toNat : Int) != 92) = true := bne_iff_ne.2 (fun h => h92 (UInt8.toNat_inj.1 (Int.ofNat.inj h)))
          have HP1 : Hid (plainlyF s.data.toList = (innerF (((s.data.toList.drop 1).take (s.size - 2)).drop (at' + 1))).map ((ys ++ [x]) ++ ·)) := by
            rw [Hid, HTL.out, HP.out, HD.out, innerF_plain x _ h34 h92]
            simp [Option.map_map, Function.comp_def]
          clear HP HD h34 h92 hlen
          go_wp2_with (at_builtin; (refine wpList_app _ rfl (.tmp 42) (.tmp 46) 57 57 rfl w.heap.size 5 (.int .u8 0) 1 1 infoU8 Tryd.underlying57 rfl (by decide) (.slice A n c) (.slice (some ⟨w'.heap.size, 0, none⟩) 1 1) n 1 (u8s ys) [.int .u8 (x.toNat : Int)] rfl rfl ?own ?src ?b1 ?b2 ?b3 ?_; (case own => exact OwnB.n (HO.out.alloc _) HL.out); (case src => exact Src.one Tryd.underlying57 _ rfl); (case b1 => omega); (case b2 => unfold maxLen; omega); (case b3 => simp; omega); intro v' w1 hown hg; refine Hid.out ?_))
          refine Lib.hid ?_
          have hX : OwnB w1 w.heap.size v' (ys ++ [x]) := .of hown (by rw [u8s_append]; rfl)
          obtain ⟨A', n', c', rfl, HL', HO'⟩ := hX.form
          have hn' : n' = n + 1 := by have h1 := HL'.out; have h2 := HL.out; rw [List.length_append] at h1; simp only [List.length_cons, List.length_nil] at h1; omega
          have HC1 : Hid (Chg No w w1) := (HC.out.alloc _).grown hg (fun k hk => .inl (HO.out.block k hk).1)
          clear hX hown hg
          go_wp2
          go_step3
          refine ⟨rfl, plJ_intro _ HC1.out (at' + 1) n' (ys ++ [x]) A' c' rfl rfl (congrArg Value.string HT.out.symm) rfl rfl rfl rfl HO' HL' (by omega) (by have := HTS.out; omega) HP1, ?_⟩
          have hts := HTS.out
          show s.size - 2 - ((at' + 1 : Nat) : Int).toNat < s.size - 2 - ((at' : Nat) : Int).toNat
          omega
        subst h92
        rcases Nat.lt_or_ge (at' + 1) t.size with hat2 | hat2
        case inr =>
          have HU : Hid (plainlyF s.data.toList = none) := by
            rw [Hid, HP.out, HD.out, List.drop_of_length_le (by omega : t.data.toList.length ≤ at' + 1), innerF.eq_def]
            simp
          have hre : (t.extract (at' + 1) t.size).toList = [] := by
            rw [Lib.toList_data, ByteArray.data_extract, Array.toList_extract, List.extract_eq_take_drop, List.drop_of_length_le (by omega : t.data.toList.length ≤ at' + 1)]
            simp
          clear HP HD hlen
          go_wp2
          all_goals (try simp only [Exit.jump])
          all_goals go_ret2
          all_goals exact ⟨by rw [HU.out]; rfl, HC.out⟩
        have hi3 : (at' : Int) + 1 ≤ (t.size : Int) := by omega
        have hrs : (t.extract (at' + 1) t.size).size = t.size - (at' + 1) := by rw [ByteArray.size_extract]; omega
        have hrp : 0 < (t.extract (at' + 1) t.size).size := by omega
        have hre : (t.extract (at' + 1) t.size).toList.isEmpty = false := by
          rw [Lib.toList_data]
          have := size_list (t.extract (at' + 1) t.size)
          cases hh : (t.extract (at' + 1) t.size).data.toList with
          | nil => rw [hh] at this; simp only [List.length_nil] at this; omega
          | cons a b => rfl
        obtain ⟨e, he⟩ : ∃ e, (t.extract (at' + 1) t.size)[0] = e := ⟨_, rfl⟩
        have hrl : (t.extract (at' + 1) t.size).data.toList = t.data.toList.drop (at' + 1) := by
          rw [ByteArray.data_extract, Array.toList_extract, List.extract_eq_take_drop, List.take_of_length_le (by rw [List.length_drop]; omega)]
        have hee : t.data.toList.drop (at' + 1) = e :: t.data.toList.drop (at' + 2) := by
          rw [List.drop_eq_getElem_cons (by omega), ← he]
          congr 1
          exact ext_get t (at' + 1) 0 hrp (by omega)
        have he256 : e.toNat < 256 := e.toNat_lt
        have HDE : Hid (t.data.toList.drop at' = 92 :: e :: t.data.toList.drop (at' + 2)) := by rw [Hid, HD.out, hee]
        clear HD
        have hb2e : ∀ k : UInt8, e ≠ k → ((e.toNat : Int) == (k.toNat : Int)) = false := fun k hk => beq_eq_false_iff_ne.2 (fun h => hk (UInt8.toNat_inj.1 (Int.ofNat.inj h)))
        by_cases e34 : e = 34
        · subst e34
          have HP1 : Hid (plainlyF s.data.toList = (innerF (((s.data.toList.drop 1).take (s.size - 2)).drop (at' + 2))).map ((ys ++ [34]) ++ ·)) := by
            rw [Hid, HTL.out, HP.out, HDE.out, innerF_esc 34 _ (.inl rfl)]
            simp [Option.map_map, Function.comp_def]
          clear HP HDE hlen hrl hee hb2e
          go_wp2_with (at_builtin; (refine wpList_app _ rfl (.tmp 66) (.tmp 69) 57 57 rfl w.heap.size 5 (.int .u8 0) 1 1 infoU8 Tryd.underlying57 rfl (by decide) (.slice A n c) (.slice (some ⟨w'.heap.size, 0, none⟩) 1 1) n 1 (u8s ys) [.int .u8 34] rfl rfl ?own ?src ?b1 ?b2 ?b3 ?_; (case own => exact OwnB.n (HO.out.alloc _) HL.out); (case src => exact Src.one Tryd.underlying57 _ rfl); (case b1 => omega); (case b2 => unfold maxLen; omega); (case b3 => simp; omega); intro v' w1 hown hg; refine Hid.out ?_))
          refine Lib.hid ?_
          have hX : OwnB w1 w.heap.size v' (ys ++ [34]) := .of hown (by rw [u8s_append]; rfl)
          obtain ⟨A', n', c', rfl, HL', HO'⟩ := hX.form
          have hn' : n' = n + 1 := by have h1 := HL'.out; have h2 := HL.out; rw [List.length_append] at h1; simp only [List.length_cons, List.length_nil] at h1; omega
          have HC1 : Hid (Chg No w w1) := (HC.out.alloc _).grown hg (fun k hk => .inl (HO.out.block k hk).1)
          clear hX hown hg
          go_wp2
          go_step3
          refine ⟨rfl, plJ_intro _ HC1.out (at' + 2) n' (ys ++ [34]) A' c' rfl rfl (congrArg Value.string HT.out.symm) rfl rfl rfl rfl HO' HL' (by omega) (by have := HTS.out; omega) HP1, ?_⟩
          have hts := HTS.out
          show s.size - 2 - ((at' + 2 : Nat) : Int).toNat < s.size - 2 - ((at' : Nat) : Int).toNat
          omega
        have hb34 : ((e.toNat : Int) == 34) = false := hb2e 34 e34
        by_cases e92 : e = 92
        · subst e92
          have HP1 : Hid (plainlyF s.data.toList = (innerF (((s.data.toList.drop 1).take (s.size - 2)).drop (at' + 2))).map ((ys ++ [92]) ++ ·)) := by
            rw [Hid, HTL.out, HP.out, HDE.out, innerF_esc 92 _ (.inr rfl)]
            simp [Option.map_map, Function.comp_def]
          clear HP HDE hlen hrl hee hb2e
          go_wp2_with (at_builtin; (refine wpList_app _ rfl (.tmp 66) (.tmp 69) 57 57 rfl w.heap.size 5 (.int .u8 0) 1 1 infoU8 Tryd.underlying57 rfl (by decide) (.slice A n c) (.slice (some ⟨w'.heap.size, 0, none⟩) 1 1) n 1 (u8s ys) [.int .u8 92] rfl rfl ?own ?src ?b1 ?b2 ?b3 ?_; (case own => exact OwnB.n (HO.out.alloc _) HL.out); (case src => exact Src.one Tryd.underlying57 _ rfl); (case b1 => omega); (case b2 => unfold maxLen; omega); (case b3 => simp; omega); intro v' w1 hown hg; refine Hid.out ?_))
          refine Lib.hid ?_
          have hX : OwnB w1 w.heap.size v' (ys ++ [92]) := .of hown (by rw [u8s_append]; rfl)
          obtain ⟨A', n', c', rfl, HL', HO'⟩ := hX.form
          have hn' : n' = n + 1 := by have h1 := HL'.out; have h2 := HL.out; rw [List.length_append] at h1; simp only [List.length_cons, List.length_nil] at h1; omega
          have HC1 : Hid (Chg No w w1) := (HC.out.alloc _).grown hg (fun k hk => .inl (HO.out.block k hk).1)
          clear hX hown hg
          go_wp2
          go_step3
          refine ⟨rfl, plJ_intro _ HC1.out (at' + 2) n' (ys ++ [92]) A' c' rfl rfl (congrArg Value.string HT.out.symm) rfl rfl rfl rfl HO' HL' (by omega) (by have := HTS.out; omega) HP1, ?_⟩
          have hts := HTS.out
          show s.size - 2 - ((at' + 2 : Nat) : Int).toNat < s.size - 2 - ((at' : Nat) : Int).toNat
          omega
        have hb92 : ((e.toNat : Int) == 92) = false := hb2e 92 e92
        by_cases e110 : e = 110
        · subst e110
          have HP1 : Hid (plainlyF s.data.toList = (innerF (((s.data.toList.drop 1).take (s.size - 2)).drop (at' + 2))).map ((ys ++ [10]) ++ ·)) := by
            rw [Hid, HTL.out, HP.out, HDE.out, innerF_nl]
            simp [Option.map_map, Function.comp_def]
          clear HP HDE hlen hrl hee hb2e
          go_wp2_with (at_builtin; (refine wpList_app _ rfl (.tmp 77) (.tmp 78) 57 57 rfl w.heap.size 5 (.int .u8 0) 1 1 infoU8 Tryd.underlying57 rfl (by decide) (.slice A n c) (.slice (some ⟨w'.heap.size, 0, none⟩) 1 1) n 1 (u8s ys) [.int .u8 10] rfl rfl ?own ?src ?b1 ?b2 ?b3 ?_; (case own => exact OwnB.n (HO.out.alloc _) HL.out); (case src => exact Src.one Tryd.underlying57 _ rfl); (case b1 => omega); (case b2 => unfold maxLen; omega); (case b3 => simp; omega); intro v' w1 hown hg; refine Hid.out ?_))
          refine Lib.hid ?_
          have hX : OwnB w1 w.heap.size v' (ys ++ [10]) := .of hown (by rw [u8s_append]; rfl)
          obtain ⟨A', n', c', rfl, HL', HO'⟩ := hX.form
          have hn' : n' = n + 1 := by have h1 := HL'.out; have h2 := HL.out; rw [List.length_append] at h1; simp only [List.length_cons, List.length_nil] at h1; omega
          have HC1 : Hid (Chg No w w1) := (HC.out.alloc _).grown hg (fun k hk => .inl (HO.out.block k hk).1)
          clear hX hown hg
          go_wp2
          go_step3
          refine ⟨rfl, plJ_intro _ HC1.out (at' + 2) n' (ys ++ [10]) A' c' rfl rfl (congrArg Value.string HT.out.symm) rfl rfl rfl rfl HO' HL' (by omega) (by have := HTS.out; omega) HP1, ?_⟩
          have hts := HTS.out
          show s.size - 2 - ((at' + 2 : Nat) : Int).toNat < s.size - 2 - ((at' : Nat) : Int).toNat
          omega
        have hb110 : ((e.toNat : Int) == 110) = false := hb2e 110 e110
        by_cases e120 : e = 120
        case neg =>
          have hb120 : ((e.toNat : Int) == 120) = false := hb2e 120 e120
          have HU : Hid (plainlyF s.data.toList = none) := by
            rw [Hid, HP.out, HDE.out, innerF.eq_def]
            simp [e34, e92, e110, e120]
          clear HP HDE hlen hrl hee hb2e e34 e92 e110 e120
          go_wp2
          all_goals (try simp only [Exit.jump])
          all_goals go_ret2
          all_goals exact ⟨by rw [HU.out]; rfl, HC.out⟩
        subst e120
        rcases Nat.lt_or_ge (at' + 3) t.size with hat3 | hat3
        case inr =>
          have hg2 : ¬ ((2 : Int) < ((t.size - (at' + 1) : Nat) : Int)) := by omega
          have HU : Hid (plainlyF s.data.toList = none) := by
            rw [Hid, HP.out, HDE.out]
            have hl2 : (t.data.toList.drop (at' + 2)).length ≤ 1 := by rw [List.length_drop]; omega
            match hh : t.data.toList.drop (at' + 2), hl2 with
            | [], _ => rw [innerF.eq_def]; simp
            | [a], _ => rw [innerF.eq_def]; simp
          clear HP HDE hlen hrl hee hb2e
          go_wp2
          all_goals (try simp only [Exit.jump])
          all_goals go_ret2
          all_goals exact ⟨by rw [HU.out]; rfl, HC.out⟩
        have hg2 : (2 : Int) < ((t.size - (at' + 1) : Nat) : Int) := by omega
        have hr1 : 1 < (t.extract (at' + 1) t.size).size := by omega
        have hr2 : 2 < (t.extract (at' + 1) t.size).size := by omega
        obtain ⟨p, hp⟩ : ∃ e, (t.extract (at' + 1) t.size)[1] = e := ⟨_, rfl⟩
        obtain ⟨q, hq⟩ : ∃ e, (t.extract (at' + 1) t.size)[2] = e := ⟨_, rfl⟩
        have hpq : t.data.toList.drop (at' + 2) = p :: q :: t.data.toList.drop (at' + 4) := by
          rw [List.drop_eq_getElem_cons (by omega), List.drop_eq_getElem_cons (by omega : at' + 2 + 1 < t.data.toList.length), ← hp, ← hq]
          congr 1
          · exact ext_get t (at' + 1) 1 hr1 (by omega)
          congr 1
          · exact ext_get t (at' + 1) 2 hr2 (by omega)
        have HDP : Hid (t.data.toList.drop at' = 92 :: 120 :: p :: q :: t.data.toList.drop (at' + 4)) := by rw [Hid, HDE.out, hpq]
        clear HDE hpq hrl hee hb2e
        have hp256 : p.toNat < 256 := p.toNat_lt
        have hq256 : q.toNat < 256 := q.toNat_lt
        have HXP : Hid (plainlyF s.data.toList = (if dg p.toNat < 16 ∧ dg q.toNat < 16 then (innerF (t.data.toList.drop (at' + 4))).map (UInt8.ofNat (dg p.toNat * 16 + dg q.toNat) :: ·) else none).map (ys ++ ·)) := by
          rw [Hid, HP.out, HDP.out]
          conv => lhs; rw [innerF.eq_def]
          simp
        clear HP HDP
        by_cases dp : dg p.toNat < 16
        case neg =>
          have hdp : ((dg p.toNat : Int) < 16) = False := eq_false (by omega)
          have HU : Hid (plainlyF s.data.toList = none) := by rw [Hid, HXP.out, if_neg (by simp [dp])]; rfl
          clear HXP
          go_wp2_with (go_at_call 72; refine (digit_calls _ _ (by first | exact hp256 | exact hq256)).mono ?_; rintro e w'' ⟨rfl, rfl⟩)
          all_goals (try simp only [Exit.jump])
          all_goals go_ret2
          all_goals exact ⟨by rw [HU.out]; rfl, HC.out⟩
        have hdp : ((dg p.toNat : Int) < 16) = True := eq_true (by omega)
        by_cases dq : dg q.toNat < 16
        case neg =>
          have hdq : ((dg q.toNat : Int) < 16) = False := eq_false (by omega)
          have HU : Hid (plainlyF s.data.toList = none) := by rw [Hid, HXP.out, if_neg (by simp [dq])]; rfl
          clear HXP
          go_wp2_with (go_at_call 72; refine (digit_calls _ _ (by first | exact hp256 | exact hq256)).mono ?_; rintro e w'' ⟨rfl, rfl⟩)
          all_goals (try simp only [Exit.jump])
          all_goals go_ret2
          all_goals exact ⟨by rw [HU.out]; rfl, HC.out⟩
        have hdq : ((dg q.toNat : Int) < 16) = True := eq_true (by omega)
        have HP1 : Hid (plainlyF s.data.toList = (innerF (((s.data.toList.drop 1).take (s.size - 2)).drop (at' + 4))).map ((ys ++ [UInt8.ofNat (dg p.toNat * 16 + dg q.toNat)]) ++ ·)) := by
          rw [Hid, HTL.out, HXP.out, if_pos ⟨dp, dq⟩]
          simp [Option.map_map, Function.comp_def]
        clear HXP
        go_wp2_with (go_at_call 72; refine (digit_calls _ _ (by first | exact hp256 | exact hq256)).mono ?_; rintro e w'' ⟨rfl, rfl⟩)
        have hr1i : (1 : Int) < ((t.size - (at' + 1) : Nat) : Int) := by omega
        have hr2i : (2 : Int) < ((t.size - (at' + 1) : Nat) : Int) := by omega
        clear hlen hb1 hd1 hx hi3 hre he he256 e34 hb34 e92 hb92 e110 hb110 hdp hdq hg2 h34 hx256
        obtain ⟨y, hy⟩ : ∃ y : UInt8, UInt8.ofNat (dg p.toNat * 16 + dg q.toNat) = y := ⟨_, rfl⟩
        have hor := or_dg _ dp _ dq
        rw [hy] at hor HP1
        clear hy dp dq
        refine wp_region_held_drew (S := fun _ => True) (by kernel_rfl) trivial (fun hSw => ?_)
        refine wpAnyH_take (i := 0) (oi := { dst := some 103, op := Go.Op.move (Go.Operand.tmp 4), type := 57, pos := "quote.go:103", after := #[], guard := none }) (v := ?_) rfl (by kernel_rfl) (by kernel_rfl) (by kernel_rfl) (fun _ _ _ h => h) (Or.inl ⟨by rfl, ?_⟩) hSw ?_
        rotate_left
        · (intro W hW; (try dsimp only at hW); go_simp; try with_reducible rfl)
        try simp only [Act.put, List.setIfInBounds_toArray, List.set_cons_zero, List.set_cons_succ]
        refine wpAnyH_take (i := 1) (oi := { dst := some 104, op := Go.Op.move (Go.Operand.tmp 6), type := 9, pos := "quote.go:103", after := #[], guard := none }) (v := ?_) rfl (by kernel_rfl) (by kernel_rfl) (by kernel_rfl) (fun _ _ _ h => h) (Or.inl ⟨by rfl, ?_⟩) hSw ?_
        rotate_left
        · (intro W hW; (try dsimp only at hW); go_simp; try with_reducible rfl)
        try simp only [Act.put, List.setIfInBounds_toArray, List.set_cons_zero, List.set_cons_succ]
        refine wpAnyH_take (i := 2) (oi := { dst := some 105, op := Go.Op.index 9 (Go.Operand.tmp 104) (Go.Operand.const (Go.Value.int Go.IntKind.i64 1)), type := 5, pos := "quote.go:103", after := #[{ on := 1, ground := Go.Ground.data }], guard := none }) (v := ?_) rfl (by kernel_rfl) (by kernel_rfl) (by kernel_rfl) (fun _ _ _ h => h) (Or.inl ⟨by rfl, ?_⟩) hSw ?_
        rotate_left
        · (intro W hW; (try dsimp only at hW); go_simp; try with_reducible rfl)
        try simp only [Act.put, List.setIfInBounds_toArray, List.set_cons_zero, List.set_cons_succ]
        refine wpAnyH_take (i := 5) (oi := { dst := some 108, op := Go.Op.move (Go.Operand.tmp 6), type := 9, pos := "quote.go:103", after := #[], guard := none }) (v := ?_) rfl (by kernel_rfl) (by kernel_rfl) (by kernel_rfl) (fun _ _ _ h => h) (Or.inl ⟨by rfl, ?_⟩) hSw ?_
        rotate_left
        · (intro W hW; (try dsimp only at hW); go_simp; try with_reducible rfl)
        try simp only [Act.put, List.setIfInBounds_toArray, List.set_cons_zero, List.set_cons_succ]
        refine wpAnyH_take (i := 6) (oi := { dst := some 109, op := Go.Op.index 9 (Go.Operand.tmp 108) (Go.Operand.const (Go.Value.int Go.IntKind.i64 2)), type := 5, pos := "quote.go:103", after := #[{ on := 5, ground := Go.Ground.data }], guard := none }) (v := ?_) rfl (by kernel_rfl) (by kernel_rfl) (by kernel_rfl) (fun _ _ _ h => h) (Or.inl ⟨by rfl, ?_⟩) hSw ?_
        rotate_left
        · (intro W hW; (try dsimp only at hW); go_simp; try with_reducible rfl)
        try simp only [Act.put, List.setIfInBounds_toArray, List.set_cons_zero, List.set_cons_succ]
        refine wpAnyH_ready (rs := [3]) (by kernel_rfl) (by simp) ?_
        refine AllReadyH.cons (o := { dst := some 106, op := Go.Op.call { callee := Go.Callee.value (Go.Operand.func 72), args := #[Go.Operand.tmp 105], argTypes := #[5] }, type := 5, pos := "quote.go:103", after := #[{ on := 2, ground := Go.Ground.data }], guard := none }) rfl (fun K hK => ?_) AllReadyH.nil
        rw [if_pos (by rfl)]
        go_simp
        refine (digit_calls _ p.toNat hp256).mono ?_
        rintro e w'' ⟨rfl, rfl⟩
        refine hK.out _ _ trivial (fun hSw => ?_)
        clear hK
        try simp only [Act.put, List.setIfInBounds_toArray, List.set_cons_zero, List.set_cons_succ]
        refine wpAnyH_take (i := 4) (oi := { dst := some 107, op := Go.Op.binOp Go.BinOp.shl 5 (Go.Operand.tmp 106) (Go.Operand.const (Go.Value.int Go.IntKind.u64 4)) 79, type := 5, pos := "quote.go:103", after := #[{ on := 3, ground := Go.Ground.data }], guard := none }) (v := ?_) rfl (by kernel_rfl) (by kernel_rfl) (by kernel_rfl) (fun _ _ _ h => h) (Or.inl ⟨by rfl, ?_⟩) hSw ?_
        rotate_left
        · (intro W hW; (try dsimp only at hW); go_simp; try with_reducible rfl)
        try simp only [Act.put, List.setIfInBounds_toArray, List.set_cons_zero, List.set_cons_succ]
        refine wpAnyH_ready (rs := [7]) (by kernel_rfl) (by simp) ?_
        refine AllReadyH.cons (o := { dst := some 110, op := Go.Op.call { callee := Go.Callee.value (Go.Operand.func 72), args := #[Go.Operand.tmp 109], argTypes := #[5] }, type := 5, pos := "quote.go:103", after := #[{ on := 6, ground := Go.Ground.data }, { on := 3, ground := Go.Ground.chain }], guard := none }) rfl (fun K hK => ?_) AllReadyH.nil
        rw [if_pos (by rfl)]
        go_simp
        refine (digit_calls _ q.toNat hq256).mono ?_
        rintro e w'' ⟨rfl, rfl⟩
        refine hK.out _ _ trivial (fun hSw => ?_)
        clear hK
        try simp only [Act.put, List.setIfInBounds_toArray, List.set_cons_zero, List.set_cons_succ]
        refine wpAnyH_take (i := 8) (oi := { dst := some 111, op := Go.Op.binOp Go.BinOp.or 5 (Go.Operand.tmp 107) (Go.Operand.tmp 110) 5, type := 5, pos := "quote.go:103", after := #[{ on := 4, ground := Go.Ground.data }, { on := 7, ground := Go.Ground.data }], guard := none }) (v := ?_) rfl (by kernel_rfl) (by kernel_rfl) (by kernel_rfl) (fun _ _ _ h => h) (Or.inl ⟨by rfl, ?_⟩) hSw ?_
        rotate_left
        · (intro W hW; (try dsimp only at hW); go_simp; try with_reducible rfl)
        try simp only [Act.put, List.setIfInBounds_toArray, List.set_cons_zero, List.set_cons_succ]
        refine wpAnyH_ready (rs := [9]) (by kernel_rfl) (by simp) ?_
        refine AllReadyH.cons (o := { dst := some 112, op := Go.Op.buildSlice 57 1 #[(0, Go.Operand.tmp 111)], type := 57, pos := "quote.go:103", after := #[{ on := 8, ground := Go.Ground.data }], guard := none }) rfl (fun K hK => ?_) AllReadyH.nil
        rw [if_pos (by rfl)]
        go_simp
        refine hK.out _ _ trivial (fun hSw => ?_)
        clear hK
        try simp only [Act.put, List.setIfInBounds_toArray, List.set_cons_zero, List.set_cons_succ]
        refine wpAnyH_ready (rs := [10]) (by kernel_rfl) (by simp) ?_
        refine AllReadyH.cons (o := { dst := some 113, op := Go.Op.call { callee := Go.Callee.builtin Go.Builtin.append, args := #[Go.Operand.tmp 103, Go.Operand.tmp 112], argTypes := #[57, 57] }, type := 57, pos := "quote.go:103", after := #[{ on := 0, ground := Go.Ground.data }, { on := 9, ground := Go.Ground.data }, { on := 7, ground := Go.Ground.chain }], guard := none }) rfl (fun K hK => ?_) AllReadyH.nil
        rw [if_pos (by rfl)]
        refine wp_app (.tmp 103) (.tmp 112) 57 57 rfl w.heap.size 5 (.int .u8 0) 1 1 infoU8 Tryd.underlying57 rfl (by decide) (.slice A n c) (.slice (some ⟨w'.heap.size, 0, none⟩) 1 1) n 1 (u8s ys) (u8s [y]) rfl rfl ?own ?src ?b1 ?b2 ?b3 ?_
        · (have h0 := HO.out.chg (((Chg.refl No w').drew).alloc (.cells #[.int .u8 (y.toNat : Int)] 5)) (fun _ _ h => h); unfold OwnB at h0; rw [HL.out] at h0; exact h0)
        · exact Src.one' (w := w'.drew) Tryd.underlying57 _ _ (Chg.refl No _) rfl (u8s_one _)
        · omega
        · unfold maxLen; omega
        · simp; omega
        intro v' w1 hown hg
        refine hK.out _ _ trivial (fun hSw => ?_)
        clear hK
        try simp only [Act.put, List.setIfInBounds_toArray, List.set_cons_zero, List.set_cons_succ]
        refine wpAnyH_ready (rs := [11]) (by kernel_rfl) (by simp) ?_
        refine AllReadyH.cons (o := { dst := some 4, op := Go.Op.assign (Go.Operand.tmp 113), type := 57, pos := "quote.go:103", after := #[{ on := 10, ground := Go.Ground.data }, { on := 10, ground := Go.Ground.chain }, { on := 0, ground := Go.Ground.phase }, { on := 1, ground := Go.Ground.phase }, { on := 2, ground := Go.Ground.phase }, { on := 3, ground := Go.Ground.phase }, { on := 4, ground := Go.Ground.phase }, { on := 5, ground := Go.Ground.phase }, { on := 6, ground := Go.Ground.phase }, { on := 7, ground := Go.Ground.phase }, { on := 8, ground := Go.Ground.phase }, { on := 9, ground := Go.Ground.phase }, { on := 10, ground := Go.Ground.phase }], guard := none }) rfl (fun K hK => ?_) AllReadyH.nil
        rw [if_pos (by rfl)]
        go_simp
        refine hK.out _ _ trivial (fun hSw => ?_)
        clear hK
        try simp only [Act.put, List.setIfInBounds_toArray, List.set_cons_zero, List.set_cons_succ]
        refine wpAnyH_done (by kernel_rfl) ?_ _

        have hX : OwnB w1 w.heap.size v' (ys ++ [y]) := .of hown (by rw [u8s_append])
        obtain ⟨A', n', c', rfl, HL', HO'⟩ := hX.form
        have hn' : n' = n + 1 := by have h1 := HL'.out; have h2 := HL.out; rw [List.length_append] at h1; simp only [List.length_cons, List.length_nil] at h1; omega
        have HC1 : Hid (Chg No w w1) := ((HC.out.drew).alloc _).grown hg (fun k hk => .inl (HO.out.block k hk).1)
        clear hX hown hg
        go_wp2
        go_step3
        refine ⟨rfl, plJ_intro _ HC1.out (at' + 4) n' (ys ++ [y]) A' c' rfl rfl (congrArg Value.string HT.out.symm) rfl rfl rfl rfl HO' HL' (by omega) (by have := HTS.out; omega) HP1, ?_⟩
        have hts := HTS.out
        show s.size - 2 - ((at' + 4 : Nat) : Int).toNat < s.size - 2 - ((at' : Nat) : Int).toNat
        omega
      · have hb1 : ((at' : Int) == (t.size : Int)) = true := by rw [beq_iff_eq]; omega
        have hd1 : ((at' : Int) = (t.size : Int)) = True := eq_true (by omega)
        have HU : Hid (plainlyF s.data.toList = some ys) := by
          rw [Hid, HP.out, List.drop_of_length_le (by omega), innerF.eq_def]; simp
        have hcv := HO.out.bytes.text (P := Tryd.prog) Tryd.underlying57 Tryd.underlying5 Tryd.underlying9
        clear HP
        go_wp2
        simp only [Exit.jump]
        go_ret2
        exact ⟨by rw [HU.out]; rfl, HC.out⟩
    · intro hpass
      go_wp2
      go_step3
      rename_i hKK
      refine hKK _ _ (hpass _ _ (plJ_intro _ (Chg.refl _ _) 0 0 [] none 0 rfl rfl rfl rfl rfl rfl rfl (World.ownsRow_nil _ _ _ _) rfl (Nat.le_refl _) (Nat.zero_le _) ?_))
      rw [Hid, HPL.out, List.drop_zero]
      simp
end Go.Proofs.YtcomcoolmabmgaaDoor

namespace Go.Proofs.YtcomcoolmabmgaaDoor
set_option linter.unnecessarySimpa false
open Go.RowKit
set_option linter.unusedVariables false
set_option linter.unusedSimpArgs false

theorem quoteF_parts (t : List UInt8) : quoteF t = 34 :: ((pcs t).flatMap quoteP ++ [34]) := by unfold quoteF; simp
theorem plainly_quote (t : List UInt8) : plainlyF (quoteF t) = some t := by
  have hi := innerF_quote t.length t (Nat.le_refl _)
  rw [quoteF_parts, plainlyF]
  generalize (pcs t).flatMap quoteP = m at hi
  have hl : (34 :: (m ++ [34])).length = m.length + 2 := by simp
  rw [hl, if_neg (by omega), if_neg, ← hi]
  · congr 1
    simp
  · simp
theorem innerF_len : ∀ (n : Nat) (l : List UInt8), l.length ≤ n → ∀ t, innerF l = some t → t.length ≤ l.length := by
  intro n
  induction n with
  | zero =>
    intro l hl t h
    have : l = [] := List.eq_nil_of_length_eq_zero (by omega)
    subst this
    simp [innerF] at h
    subst h
    simp
  | succ n ih =>
    intro l hl t h
    match l, hl, h with
    | [], _, h => simp [innerF] at h; subst h; simp
    | c :: r, hl, h =>
      rw [innerF.eq_def] at h
      simp only at h
      simp only [List.length_cons] at hl
      split at h
      · cases h
      split at h
      · obtain ⟨a, ha, rfl⟩ := Option.map_eq_some_iff.1 h
        have := ih r (by omega) a ha
        simp only [List.length_cons]; omega
      split at h
      · cases h
      rename_i e u
      simp only [List.length_cons] at hl
      split at h
      · obtain ⟨a, ha, rfl⟩ := Option.map_eq_some_iff.1 h
        have := ih u (by omega) a ha
        simp only [List.length_cons]; omega
      split at h
      · obtain ⟨a, ha, rfl⟩ := Option.map_eq_some_iff.1 h
        have := ih u (by omega) a ha
        simp only [List.length_cons]; omega
      split at h
      · split at h
        · rename_i p q v
          simp only [List.length_cons] at hl
          split at h
          · obtain ⟨a, ha, rfl⟩ := Option.map_eq_some_iff.1 h
            have := ih v (by omega) a ha
            simp only [List.length_cons]; omega
          · cases h
        · cases h
      · cases h
theorem plainlyF_len {l t : List UInt8} (h : plainlyF l = some t) : t.length ≤ l.length := by
  unfold plainlyF at h
  split at h
  · cases h
  split at h
  · cases h
  have := innerF_len _ _ (Nat.le_refl _) t h
  rw [List.length_take] at this
  omega
/-- The text that, quoted, is so. -/
def unqF (l : List UInt8) : Option (List UInt8) := match plainlyF l with
  | none => none
  | some t => if quoteF t = l then some t else none
theorem unq_quote (t : List UInt8) : unqF (quoteF t) = some t := by simp [unqF, plainly_quote]
theorem unq_some {l t : List UInt8} (h : unqF l = some t) : quoteF t = l := by
  unfold unqF at h
  split at h
  · cases h
  · split at h
    · cases h; assumption
    · cases h
def wordF (l : List UInt8) : List UInt8 := if plainF l then l else quoteF l

set_option maxRecDepth 100000 in
set_option maxHeartbeats 1600000 in
theorem unquote_calls (w : World) (s : ByteArray) (hs : s.size ≤ 35184372088000) :
    Calls Tryd.prog 37 #[.string s] w fun e w' => e = plainlyR (unqF s.data.toList) ∧ Chg No w w' := by
  go_enter Tryd.func37, Tryd.ntmps37
  go_wp2_with fail
  refine (plainly_calls w s (by omega)).mono ?_
  rintro e w1 ⟨rfl, hc1⟩
  have HC1 := Lib.hid hc1
  clear hc1
  cases hp : plainlyF s.data.toList with
  | none =>
    have HU : Hid (unqF s.data.toList = none) := by rw [Hid, unqF, hp]
    clear hp
    simp only [plainlyR]
    go_wp2
    go_ret2
    exact ⟨by rw [HU.out]; rfl, HC1.out⟩
  | some t =>
    have HP := Lib.hid hp
    clear hp
    simp only [plainlyR]
    go_wp2_with fail
    refine (quote_calls _ (mkS t) (by rw [mkS_size]; have := plainlyF_len HP.out; rw [size_list] at this; omega)).mono ?_
    rintro e w2 ⟨rfl, hc2⟩
    have HC2 : Hid (Chg No w w2) := HC1.out.no hc2
    clear hc2
    simp only [mkS_list]
    by_cases hq : quoteF t = s.data.toList
    · have hb : ((mkS (quoteF t)).toList == s.toList) = true := by rw [beq_iff_eq, Lib.toList_data, Lib.toList_data, mkS_list, hq]
      have HU : Hid (unqF s.data.toList = some t) := by simp only [Hid, unqF, HP.out]; rw [if_pos hq]
      clear hq
      go_wp2
      go_ret2
      exact ⟨by rw [HU.out]; rfl, HC2.out⟩
    · have hb : ((mkS (quoteF t)).toList == s.toList) = false := by rw [beq_eq_false_iff_ne, Lib.toList_data, Lib.toList_data, mkS_list]; exact hq
      have HU : Hid (unqF s.data.toList = none) := by simp only [Hid, unqF, HP.out]; rw [if_neg hq]
      clear hq
      go_wp2
      go_ret2
      exact ⟨by rw [HU.out]; rfl, HC2.out⟩

set_option maxRecDepth 100000 in
set_option maxHeartbeats 1600000 in
theorem word_calls (w : World) (s : ByteArray) (hs : s.size ≤ 35184372088000) :
    Calls Tryd.prog 50 #[.string s] w fun e w' => e = .returned (.string (mkS (wordF s.data.toList))) ∧ Chg No w w' := by
  go_enter Tryd.func50, Tryd.ntmps50
  go_wp2_with fail
  refine (plain_calls w s (by omega)).mono ?_
  rintro e w1 ⟨rfl, hc1⟩
  have HC1 := Lib.hid hc1
  clear hc1
  cases hp : plainF s.data.toList with
  | true =>
    have HU : Hid (mkS (wordF s.data.toList) = s) := by rw [Hid, wordF, hp, if_pos rfl, mkS_self]
    clear hp
    go_wp2
    go_ret
    exact ⟨by rw [HU.out]; rfl, HC1.out⟩
  | false =>
    have HU : Hid (wordF s.data.toList = quoteF s.data.toList) := by rw [Hid, wordF, hp]; rfl
    clear hp
    go_wp2_with fail
    refine (quote_calls _ s hs).mono ?_
    rintro e w2 ⟨rfl, hc2⟩
    have HC2 : Hid (Chg No w w2) := HC1.out.no hc2
    clear hc2
    go_wp2
    go_ret
    exact ⟨by rw [HU.out]; rfl, HC2.out⟩
end Go.Proofs.YtcomcoolmabmgaaDoor

