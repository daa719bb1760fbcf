/-
  Qn1, Sh2, Qn2, Qn3: in one text.
-/
import Derived.Test.YtcomcoolmabmgaaDoorBa1
import Derived.Lib.AtoiTie
import Derived.Lib.AtoiAllCases
import Derived.Lib.ItoaNum
import Derived.Test.YtcomcoolmabmgaaDoorBa2
import Derived.Shelf.LaysC
import Derived.Shelf.Strconv.AtoiAll
import Derived.Shelf.Strconv.ErrVarAll
import Derived.Test.YtcomcoolmabmgaaDoorBa7
import Derived.Lib.AtoiErrMem
import Derived.Stop.LaidErr
import Derived.Lib.LaidTab
import Derived.Test.YtcomcoolmabmgaaDoorBa4
namespace Go.Proofs.YtcomcoolmabmgaaDoor
set_option linter.unnecessarySimpa false
open Go.RowKit Go.Lib
set_option linter.unusedVariables false
set_option linter.unusedSimpArgs false
set_option maxRecDepth 100000

/-- A text without its sign. -/
def cutN (s : List UInt8) : List UInt8 := if s.head? = some 45 then s.tail else s
/-- The number that a text says. -/
def numF (s : List UInt8) : Option Int :=
  if (cutN s).length < 1 ∨ 18 < (cutN s).length ∨ ((cutN s).head? = some 48 ∧ (1 < (cutN s).length ∨ s.head? = some 45)) then none
  else (decFrom 0 (cutN s)).map fun (m : Nat) => if s.head? = some 45 then -(m : Int) else (m : Int)
/-- What the program says. -/
def gotF (s : List UInt8) : Option Int :=
  if 18 < (cutN s).length then none else match atoiAll s with
    | .ok v => if itoa v = s then some v else none
    | _ => none
theorem decFrom_snoc : ∀ (l : List UInt8) (acc : Nat) (b : UInt8), decFrom acc (l ++ [b]) = (decFrom acc l).bind fun m => (digitVal b).map fun d => m * 10 + d
  | [], acc, b => by
    simp only [List.nil_append, decFrom, Option.bind_some]
    cases digitVal b <;> rfl
  | a :: t, acc, b => by
    rw [List.cons_append, decFrom, decFrom]
    cases digitVal a with
    | none => rfl
    | some d => exact decFrom_snoc t _ b
theorem digit_byte {b : UInt8} {d : Nat} (h : digitVal b = some d) : d < 10 ∧ b = UInt8.ofNat (48 + d) := by
  obtain ⟨h1, h2, h3⟩ := digitVal_eq h
  refine ⟨by omega, ?_⟩
  apply UInt8.toNat.inj
  rw [UInt8.toNat_ofNat']
  omega
theorem ofNat_48 {d : Nat} (h : d < 10) : UInt8.ofNat (48 + d) = 48 ↔ d = 0 := by
  constructor
  · intro e
    have := congrArg UInt8.toNat e
    rw [UInt8.toNat_ofNat'] at this
    have e48 : (48 : UInt8).toNat = 48 := rfl
    omega
  · rintro rfl; rfl
theorem head_app {l u : List UInt8} (h : l ≠ []) : (l ++ u).head? = l.head? := by
  cases l with
  | nil => exact absurd rfl h
  | cons => rfl
theorem dec_head : ∀ (n m : Nat), m ≤ n → ((decDigits m).head? = some 48 ↔ m = 0) ∧ decDigits m ≠ []
  | 0, m, h => by
    obtain rfl : m = 0 := by omega
    rw [decDigits_one (by decide)]
    exact ⟨by simp, by simp⟩
  | n + 1, m, h => by
    by_cases h10 : m < 10
    · rw [decDigits_one h10]
      refine ⟨?_, by simp⟩
      simp only [List.head?_cons, Option.some.injEq]
      exact ofNat_48 h10
    · rw [decDigits, dif_neg h10]
      obtain ⟨ih1, ih2⟩ := dec_head n (m / 10) (by omega)
      refine ⟨?_, by simp⟩
      rw [head_app ih2, ih1]
      omega
theorem dec_canon : ∀ (n : Nat) (l : List UInt8) (m : Nat), l.length ≤ n → l ≠ [] → decFrom 0 l = some m → (decDigits m = l ↔ (l.head? ≠ some 48 ∨ l = [48]))
  | 0, l, m, hn, hl, h => absurd (List.eq_nil_of_length_eq_zero (by omega)) hl
  | n + 1, l, m, hn, hl, h => by
    obtain ⟨l', b, rfl⟩ : ∃ l' b, l = l' ++ [b] := ⟨l.dropLast, l.getLast hl, (List.dropLast_concat_getLast hl).symm⟩
    rw [decFrom_snoc] at h
    cases hm' : decFrom 0 l' with
    | none => rw [hm'] at h; cases h
    | some m' =>
      rw [hm'] at h
      cases hd : digitVal b with
      | none => rw [hd] at h; cases h
      | some d =>
        rw [hd] at h
        obtain rfl : m' * 10 + d = m := Option.some.inj h
        obtain ⟨hd10, rfl⟩ := digit_byte hd
        by_cases h0 : l' = []
        · subst h0
          obtain rfl : 0 = m' := Option.some.inj hm'
          rw [show 0 * 10 + d = d by omega, decDigits_one hd10, List.nil_append]
          refine ⟨fun _ => ?_, fun _ => rfl⟩
          by_cases hd0 : d = 0
          · subst hd0; exact .inr rfl
          · refine .inl fun e => hd0 ?_
            simp only [List.head?_cons, Option.some.injEq] at e
            exact (ofNat_48 hd10).1 e
        · have hne : ¬ (l' ++ [UInt8.ofNat (48 + d)] = [48]) := by
            intro e
            have := congrArg List.length e
            simp only [List.length_append, List.length_cons, List.length_nil] at this
            exact h0 (List.eq_nil_of_length_eq_zero (by omega))
          have hh : (l' ++ [UInt8.ofNat (48 + d)]).head? = l'.head? := head_app h0
          rw [hh]
          have ih := dec_canon n l' m' (by simp only [List.length_append, List.length_cons, List.length_nil] at hn; omega) h0 hm'
          constructor
          · intro e
            refine .inl fun h48 => ?_
            have h1 := (dec_head _ (m' * 10 + d) (Nat.le_refl _)).1.1 (by rw [e, hh]; exact h48)
            rw [h1, decDigits_one (by decide)] at e
            exact hne (by rw [← e]; rfl)
          · intro e
            have h48 := e.resolve_right hne
            have e1 := ih.2 (.inl h48)
            have hm1 : m' ≠ 0 := by
              rintro rfl
              rw [decDigits_one (by decide)] at e1
              rw [← e1] at h48
              exact h48 rfl
            rw [decDigits, dif_neg (by omega), show (m' * 10 + d) / 10 = m' by omega, show (m' * 10 + d) % 10 = d by omega, e1]
theorem got_eq (s : List UInt8) : gotF s = numF s := by
  cases s with
  | nil => rfl
  | cons c r =>
    by_cases h45 : c = 45
    · subst h45
      have hc : cutN (45 :: r) = r := by simp [cutN]
      have hh : (45 :: r : List UInt8).head? = some 45 := rfl
      rw [gotF, numF, hc, hh]
      by_cases h18 : 18 < r.length
      · rw [if_pos h18, if_pos (.inr (.inl h18))]
      · rw [if_neg h18, atoiAll_minus, signed_short (by omega)]
        by_cases hr : r = []
        · subst hr; rfl
        · have hdn : decNat r = decFrom 0 r := by rw [decNat]; cases r with | nil => exact absurd rfl hr | cons => rfl
          rw [hdn]
          have hpos : ¬ r.length < 1 := by have := List.length_pos_iff.2 hr; omega
          cases hm : decFrom 0 r with
          | none =>
            simp only [Option.map_none, NumEnd.ofOption]
            split <;> rfl
          | some m =>
            simp only [Option.map_some, NumEnd.ofOption, if_true]
            have hcn := dec_canon _ r m (Nat.le_refl _) hr hm
            have hz := dec_head _ m (Nat.le_refl _)
            by_cases h48 : r.head? = some 48
            · have hne : ¬ itoa (-(m : Int)) = 45 :: r := by
               intro e
               rw [itoa] at e
               split at e
               · rename_i hneg
                 simp only [List.cons.injEq, true_and, Int.natAbs_neg, Int.natAbs_natCast] at e
                 have h0 := hz.1.1 (by rw [e]; exact h48)
                 omega
               · rename_i hneg
                 have : m = 0 := by omega
                 subst this
                 rw [show (-((0 : Nat) : Int)).toNat = 0 by decide, decDigits_one (by decide)] at e
                 cases e
              rw [if_neg hne, if_pos (.inr (.inr ⟨h48, .inr trivial⟩))]
            · have e1 : decDigits m = r := hcn.2 (.inl h48)
              have hm0 : m ≠ 0 := fun h => h48 (by rw [← e1]; exact hz.1.2 h)
              have hi : itoa (-(m : Int)) = 45 :: r := by rw [itoa, if_pos (by omega), Int.natAbs_neg, Int.natAbs_natCast, e1]
              have hn : ¬ (r.length < 1 ∨ 18 < r.length ∨ r.head? = some 48 ∧ (1 < r.length ∨ True)) := by
                rintro (h | h | ⟨h, -⟩)
                · exact hpos h
                · exact h18 h
                · exact h48 h
              rw [if_pos hi, if_neg hn]
    · have hc : cutN (c :: r) = c :: r := by simp [cutN, h45]
      have hh : ¬ (c :: r : List UInt8).head? = some 45 := by simpa using h45
      have hnil : (c :: r : List UInt8) ≠ [] := by simp
      rw [gotF, numF, hc]
      simp only [hh, if_false, or_false]
      by_cases h18 : 18 < (c :: r).length
      · rw [if_pos h18, if_pos (.inr (.inl h18))]
      · rw [if_neg h18]
        have hc45 : c.toNat ≠ 45 := fun h => h45 (UInt8.toNat.inj h)
        have hpos : ¬ (c :: r).length < 1 := by simp
        by_cases h43 : c.toNat = 43
        · obtain rfl : c = 43 := UInt8.toNat.inj h43
          have hnone : decFrom 0 ((43 : UInt8) :: r) = none := rfl
          rw [hnone, Option.map_none, ite_self, atoiAll_plus, signless_short (by simp only [List.length_cons] at h18; omega)]
          cases hm : decNat r with
          | none => rfl
          | some m =>
            simp only [Option.map_some, NumEnd.ofOption]
            have hne : ¬ itoa (m : Int) = 43 :: r := by
             intro e
             rw [itoa, if_neg (by omega), Int.toNat_natCast] at e
             have : ∀ (k n : Nat), n ≤ k → (decDigits n).head? ≠ some 43 := by
               intro k
               induction k with
               | zero => intro n hn; obtain rfl : n = 0 := by omega
                         rw [decDigits_one (by decide)]; decide
               | succ k ih =>
                 intro n hn
                 by_cases h10 : n < 10
                 · rw [decDigits_one h10]
                   simp only [List.head?_cons, ne_eq, Option.some.injEq]
                   intro e
                   have := congrArg UInt8.toNat e
                   rw [UInt8.toNat_ofNat'] at this
                   have e43 : (43 : UInt8).toNat = 43 := rfl
                   omega
                 · rw [decDigits, dif_neg h10, head_app (dec_head _ _ (Nat.le_refl _)).2]
                   exact ih _ (by omega)
             exact this m m (Nat.le_refl _) (by rw [e]; rfl)
            rw [if_neg hne]
        · rw [atoiAll_plain c r h43 hc45, signless_short (by omega)]
          have hdn : decNat (c :: r) = decFrom 0 (c :: r) := rfl
          rw [hdn]
          cases hm : decFrom 0 (c :: r) with
          | none =>
            simp only [Option.map_none, NumEnd.ofOption]
            split <;> rfl
          | some m =>
            simp only [Option.map_some, NumEnd.ofOption]
            have hcn := dec_canon _ (c :: r) m (Nat.le_refl _) hnil hm
            have hit : itoa (m : Int) = decDigits m := by rw [itoa, if_neg (by omega), Int.toNat_natCast]
            rw [hit]
            by_cases hq : (c :: r).head? = some 48 ∧ 1 < (c :: r).length
            · have hne : ¬ decDigits m = c :: r := by
                intro e
                rcases hcn.1 e with h | h
                · exact h hq.1
                · rw [h] at hq; exact absurd hq.2 (by decide)
              rw [if_neg hne, if_pos (.inr (.inr hq))]
            · have hn : ¬ ((c :: r).length < 1 ∨ 18 < (c :: r).length ∨ (c :: r).head? = some 48 ∧ 1 < (c :: r).length) := by
                rintro (h | h | h)
                · exact hpos h
                · exact h18 h
                · exact hq h
              rw [if_neg hn, if_pos]
              refine hcn.2 ?_
              by_cases h48 : (c :: r).head? = some 48
              · right
                have hl : ¬ 1 < (c :: r).length := fun h => hq ⟨h48, h⟩
                have : r = [] := List.eq_nil_of_length_eq_zero (by simp only [List.length_cons] at hl; omega)
                subst this
                simp only [List.head?_cons, Option.some.injEq] at h48
                rw [h48]
              · exact .inl h48
end Go.Proofs.YtcomcoolmabmgaaDoor

namespace Go.Proofs
set_option linter.unnecessarySimpa false
open Go.Shelf
set_option maxRecDepth 100000
def Tryd.laysC172_ren : Go.Shelf.Ren := ⟨fun | 172 => 44 | 244 => 60 | 245 => 61 | 247 => 75 | 279 => 76 | 280 => 77 | 281 => 78 | 282 => 79 | 287 => 88 | 316 => 89 | 171 => 45 | 205 => 90 | 321 => 97 | 322 => 98 | 243 => 62 | 246 => 80 | 283 => 91 | 284 => 92 | 285 => 93 | 286 => 94 | 129 => 100 | 317 => 99 | 318 => 101 | 319 => 102 | 320 => 103 | 337 => 107 | 338 => 108 | n => n, fun | 9 => 9 | 3 => 3 | 75 => 61 | 76 => 62 | 4 => 4 | 5 => 5 | 167 => 87 | 37 => 57 | 0 => 0 | 85 => 88 | 2 => 2 | 168 => 90 | 53 => 97 | 175 => 98 | 46 => 79 | 210 => 101 | 127 => 77 | 145 => 114 | 143 => 112 | 21 => 21 | 171 => 103 | 173 => 106 | 212 => 116 | 51 => 109 | 20 => 20 | 213 => 117 | 232 => 125 | 233 => 126 | 80 => 64 | n => n, fun | 15 => 1 | 16 => 2 | 17 => 3 | 18 => 4 | 19 => 5 | n => n⟩
theorem Tryd.laysC172 : Go.Proofs.LaysC.n172 Tryd.prog Tryd.laysC172_ren := {
  mixed := by kernel_rfl
  f129 := Tryd.func100.trans (congrArg some (by kernel_rfl))
  f171 := Tryd.func45.trans (congrArg some (by kernel_rfl))
  f172 := Tryd.func44.trans (congrArg some (by kernel_rfl))
  f205 := Tryd.func90.trans (congrArg some (by kernel_rfl))
  f243 := Tryd.func62.trans (congrArg some (by kernel_rfl))
  f244 := Tryd.func60.trans (congrArg some (by kernel_rfl))
  f245 := Tryd.func61.trans (congrArg some (by kernel_rfl))
  f246 := Tryd.func80.trans (congrArg some (by kernel_rfl))
  f247 := Tryd.func75.trans (congrArg some (by kernel_rfl))
  f279 := Tryd.func76.trans (congrArg some (by kernel_rfl))
  f280 := Tryd.func77.trans (congrArg some (by kernel_rfl))
  f281 := Tryd.func78.trans (congrArg some (by kernel_rfl))
  f282 := Tryd.func79.trans (congrArg some (by kernel_rfl))
  f283 := Tryd.func91.trans (congrArg some (by kernel_rfl))
  f284 := Tryd.func92.trans (congrArg some (by kernel_rfl))
  f285 := Tryd.func93.trans (congrArg some (by kernel_rfl))
  f286 := Tryd.func94.trans (congrArg some (by kernel_rfl))
  f287 := Tryd.func88.trans (congrArg some (by kernel_rfl))
  f316 := Tryd.func89.trans (congrArg some (by kernel_rfl))
  f317 := Tryd.func99.trans (congrArg some (by kernel_rfl))
  f318 := Tryd.func101.trans (congrArg some (by kernel_rfl))
  f319 := Tryd.func102.trans (congrArg some (by kernel_rfl))
  f320 := Tryd.func103.trans (congrArg some (by kernel_rfl))
  f321 := Tryd.func97.trans (congrArg some (by kernel_rfl))
  f322 := Tryd.func98.trans (congrArg some (by kernel_rfl))
  f337 := Tryd.func107.trans (congrArg some (by kernel_rfl))
  f338 := Tryd.func108.trans (congrArg some (by kernel_rfl))
  t0 := Tryd.underlying0
  a0 := Tryd.isAgg0
  z0 := Tryd.sizeOf0
  v0 := Tryd.zeroValue0
  t2 := Tryd.underlying2
  a2 := Tryd.isAgg2
  z2 := Tryd.sizeOf2
  v2 := Tryd.zeroValue2
  t3 := Tryd.underlying3
  a3 := Tryd.isAgg3
  z3 := Tryd.sizeOf3
  v3 := Tryd.zeroValue3
  t4 := Tryd.underlying4
  a4 := Tryd.isAgg4
  z4 := Tryd.sizeOf4
  v4 := Tryd.zeroValue4
  t5 := Tryd.underlying5
  a5 := Tryd.isAgg5
  z5 := Tryd.sizeOf5
  v5 := Tryd.zeroValue5
  t9 := Tryd.underlying9
  a9 := Tryd.isAgg9
  z9 := Tryd.sizeOf9
  v9 := Tryd.zeroValue9
  t20 := Tryd.underlying20
  a20 := Tryd.isAgg20
  z20 := Tryd.sizeOf20
  v20 := Tryd.zeroValue20
  t21 := Tryd.underlying21
  a21 := Tryd.isAgg21
  z21 := Tryd.sizeOf21
  v21 := Tryd.zeroValue21
  t37 := Tryd.underlying57
  a37 := Tryd.isAgg57
  z37 := Tryd.sizeOf57
  v37 := Tryd.zeroValue57
  t46 := Tryd.underlying79
  a46 := Tryd.isAgg79
  z46 := Tryd.sizeOf79
  v46 := Tryd.zeroValue79
  t51 := Tryd.underlying109
  a51 := Tryd.isAgg109
  z51 := Tryd.sizeOf109
  v51 := Tryd.zeroValue109
  t53 := Tryd.underlying97
  a53 := Tryd.isAgg97
  z53 := Tryd.sizeOf97
  v53 := Tryd.zeroValue97
  t75 := Tryd.underlying61
  a75 := Tryd.isAgg61
  z75 := Tryd.sizeOf61
  v75 := Tryd.zeroValue61
  t76 := Tryd.underlying62
  a76 := Tryd.isAgg62
  z76 := Tryd.sizeOf62
  v76 := Tryd.zeroValue62
  t85 := Tryd.underlying88
  a85 := Tryd.isAgg88
  z85 := Tryd.sizeOf88
  v85 := Tryd.zeroValue88
  t127 := Tryd.underlying77
  a127 := Tryd.isAgg77
  z127 := Tryd.sizeOf77
  v127 := Tryd.zeroValue77
  t143 := Tryd.underlying112
  a143 := Tryd.isAgg112
  z143 := Tryd.sizeOf112
  v143 := Tryd.zeroValue112
  t145 := Tryd.underlying114
  a145 := Tryd.isAgg114
  z145 := Tryd.sizeOf114
  v145 := Tryd.zeroValue114
  t167 := Tryd.underlying87
  a167 := Tryd.isAgg87
  z167 := Tryd.sizeOf87
  v167 := Tryd.zeroValue87
  t168 := Tryd.underlying90
  a168 := Tryd.isAgg90
  z168 := Tryd.sizeOf90
  v168 := Tryd.zeroValue90
  t171 := Tryd.underlying103
  a171 := Tryd.isAgg103
  z171 := Tryd.sizeOf103
  v171 := Tryd.zeroValue103
  t173 := Tryd.underlying106
  a173 := Tryd.isAgg106
  z173 := Tryd.sizeOf106
  v173 := Tryd.zeroValue106
  t175 := Tryd.underlying98
  a175 := Tryd.isAgg98
  z175 := Tryd.sizeOf98
  v175 := Tryd.zeroValue98
  t210 := Tryd.underlying101
  a210 := Tryd.isAgg101
  z210 := Tryd.sizeOf101
  v210 := Tryd.zeroValue101
  t212 := Tryd.underlying116
  a212 := Tryd.isAgg116
  z212 := Tryd.sizeOf116
  v212 := Tryd.zeroValue116
  t213 := Tryd.underlying117
  a213 := Tryd.isAgg117
  z213 := Tryd.sizeOf117
  t232 := Tryd.underlying125
  a232 := Tryd.isAgg125
  z232 := Tryd.sizeOf125
  v232 := Tryd.zeroValue125
  t233 := Tryd.underlying126
  a233 := Tryd.isAgg126
  z233 := Tryd.sizeOf126
  v233 := Tryd.zeroValue126
  g15 := by kernel_rfl
  g16 := by kernel_rfl
  g17 := by kernel_rfl
  g18 := by kernel_rfl
  g19 := by kernel_rfl
  t80 := Tryd.underlying64
  a80 := Tryd.isAgg64
  z80 := Tryd.sizeOf64
  v80 := Tryd.zeroValue64
  i0 := by kernel_rfl
  i2 := by kernel_rfl
  i3 := by kernel_rfl
  i4 := by kernel_rfl
  i5 := by kernel_rfl
  i9 := by kernel_rfl
  i20 := by kernel_rfl
  i21 := by kernel_rfl
  i37 := by kernel_rfl
  i46 := by kernel_rfl
  i51 := by kernel_rfl
  i53 := by kernel_rfl
  i75 := by kernel_rfl
  i76 := by kernel_rfl
  i80 := by kernel_rfl
  i85 := by kernel_rfl
  i127 := by kernel_rfl
  i143 := by kernel_rfl
  i145 := by kernel_rfl
  i167 := by kernel_rfl
  i168 := by kernel_rfl
  i171 := by kernel_rfl
  i173 := by kernel_rfl
  i175 := by kernel_rfl
  i210 := by kernel_rfl
  i212 := by kernel_rfl
  i232 := by kernel_rfl
  i233 := by kernel_rfl
  m15 := by kernel_rfl
  m16 := by kernel_rfl
  m17 := by kernel_rfl
  m18 := by kernel_rfl
  m19 := by kernel_rfl
  c0 := by kernel_rfl
  c2 := by kernel_rfl
  c3 := by kernel_rfl
  c4 := by kernel_rfl
  c5 := by kernel_rfl
  c9 := by kernel_rfl
  c20 := by kernel_rfl
  c21 := by kernel_rfl
  c37 := by kernel_rfl
  c46 := by kernel_rfl
  c51 := by kernel_rfl
  c53 := by kernel_rfl
  c75 := by kernel_rfl
  c76 := by kernel_rfl
  c80 := by kernel_rfl
  c85 := by kernel_rfl
  c127 := by kernel_rfl
  c143 := by kernel_rfl
  c145 := by kernel_rfl
  c167 := by kernel_rfl
  c168 := by kernel_rfl
  c171 := by kernel_rfl
  c173 := by kernel_rfl
  c175 := by kernel_rfl
  c210 := by kernel_rfl
  c212 := by kernel_rfl
  c213 := by kernel_rfl
  c232 := by kernel_rfl
  c233 := by kernel_rfl }
open Go.RowKit in
theorem Tryd.strconv_Atoi_ok (s : ByteArray) (hmax : s.size ≤ 9223372036854775806) (v : Int) (h : Lib.atoiAll s.data.toList = .ok v) (w : World) :
    Calls Tryd.prog 44 #[.string s] w fun e w' => e = .returned (.tuple #[.int .i64 v, .nilIface]) ∧ (w' = w ∨ ∃ t, w' = Lib.bytesWorld w 5 t) := Any.strconv_Atoi_ok Tryd.laysC172 s hmax v h w
open Go.RowKit in
theorem Tryd.strconv_Atoi_syn (s : ByteArray) (hlim : s.size ≤ 281474976710656) (h : Lib.atoiAll s.data.toList = Lib.NumEnd.ofOption none) (ev : Value) (w : World) (hv : w.cell? ⟨1, 0, none⟩ = some ev) (hev : ev = .nilIface ∨ ∃ te pe, ev = .iface te pe) :
    Calls Tryd.prog 44 #[.string s] w fun e w' => ∃ N, e = .returned (.tuple #[.int .i64 (0), .iface 90 (.pointer (some ⟨N, 0, none⟩))]) ∧ w.heap.size ≤ N ∧ w'.heap[N]? = some (.cells #[.string ⟨#[65, 116, 111, 105]⟩, .string s, ev] 101 (0, 0)) ∧ Below w.heap.size w w' := Any.strconv_Atoi_syntax Tryd.laysC172 s hlim h ev w hv hev
open Go.RowKit in
theorem Tryd.strconv_Atoi_range (s : ByteArray) (hlim : s.size ≤ 281474976710656) (h : Lib.atoiAll s.data.toList = .range) (ev : Value) (w : World) (hv : w.cell? ⟨2, 0, none⟩ = some ev) (hev : ev = .nilIface ∨ ∃ te pe, ev = .iface te pe) :
    Calls Tryd.prog 44 #[.string s] w fun e w' => ∃ N, e = .returned (.tuple #[.int .i64 (Lib.atoiSat s.data.toList), .iface 90 (.pointer (some ⟨N, 0, none⟩))]) ∧ w.heap.size ≤ N ∧ w'.heap[N]? = some (.cells #[.string ⟨#[65, 116, 111, 105]⟩, .string s, ev] 101 (0, 0)) ∧ Below w.heap.size w w' := Any.strconv_Atoi_range Tryd.laysC172 s hlim h ev w hv hev
open Go.RowKit in
theorem Tryd.strconv_Atoi_syn_var (s : ByteArray) (hlim : s.size ≤ 281474976710656) (h : Lib.atoiAll s.data.toList = Lib.NumEnd.ofOption none) (tp : TypeId) (p : Value) (w : World) (hvar : w.var? Tryd.prog "strconv.ErrSyntax" = some #[.iface tp p]) :
    Calls Tryd.prog 44 #[.string s] w fun e w' => ∃ N, e = .returned (.tuple #[.int .i64 0, .iface 90 (.pointer (some ⟨N, 0, none⟩))]) ∧ w.heap.size ≤ N ∧ w'.heap[N]? = some (.cells #[.string ⟨#[65, 116, 111, 105]⟩, .string s, .iface tp p] 101 (0, 0)) ∧ Below w.heap.size w w' := Any.strconv_Atoi_syntax_var Tryd.laysC172 s hlim h tp p w hvar
open Go.RowKit in
theorem Tryd.strconv_Atoi_range_var (s : ByteArray) (hlim : s.size ≤ 281474976710656) (h : Lib.atoiAll s.data.toList = .range) (tp : TypeId) (p : Value) (w : World) (hvar : w.var? Tryd.prog "strconv.ErrRange" = some #[.iface tp p]) :
    Calls Tryd.prog 44 #[.string s] w fun e w' => ∃ N, e = .returned (.tuple #[.int .i64 (Lib.atoiSat s.data.toList), .iface 90 (.pointer (some ⟨N, 0, none⟩))]) ∧ w.heap.size ≤ N ∧ w'.heap[N]? = some (.cells #[.string ⟨#[65, 116, 111, 105]⟩, .string s, .iface tp p] 101 (0, 0)) ∧ Below w.heap.size w w' := Any.strconv_Atoi_range_var Tryd.laysC172 s hlim h tp p w hvar
end Go.Proofs

namespace Go.Proofs.YtcomcoolmabmgaaDoor
set_option linter.unnecessarySimpa false
open Go.RowKit Go.Shelf
set_option linter.unusedVariables false
set_option linter.unusedSimpArgs false
set_option maxRecDepth 100000

theorem trim_cut (l : List UInt8) : Lib.trimPrefix l [45] = cutN l := by
  rw [Lib.trimPrefix, cutN, Lib.hasPrefix]
  cases l with
  | nil => rfl
  | cons c r =>
    by_cases h : c = 45
    · subst h; rfl
    · have h1 : ([45] : List UInt8).isPrefixOf (c :: r) = false := by
        rw [List.isPrefixOf]
        have : ((45 : UInt8) == c) = false := beq_eq_false_iff_ne.2 (fun e => h e.symm)
        rw [this, Bool.false_and]
      rw [h1]
      simp [h]
theorem chg_grow (w : World) (k : Nat) (os : Array Obj) : Chg No w (Go.Sort.grow (w.drewN k) os) :=
  ⟨rfl, rfl, rfl, by simp [Go.Sort.grow, World.drewN], fun i hi _ => by
    show (w.heap ++ os)[i]? = w.heap[i]?
    rw [Array.getElem?_append_left hi]⟩
/-- What the tables and the errors hold. -/
def NumW (w : World) : Prop := ∃ e1 e2, w.cell? ⟨1, 0, none⟩ = some e1 ∧ (e1 = .nilIface ∨ ∃ te pe, e1 = .iface te pe) ∧ w.cell? ⟨2, 0, none⟩ = some e2 ∧ (e2 = .nilIface ∨ ∃ te pe, e2 = .iface te pe) ∧ Lib.TabIs Tryd.prog w "internal/strconv.uint64pow10" .u64 Lib.pow10Tab
theorem NumW.no {w w' : World} (h : NumW w) (hc : Chg No w w') : NumW w' := by
  obtain ⟨e1, e2, h1, h2, h3, h4, h5⟩ := h
  refine ⟨e1, e2, hc.cell h1 (fun x => x), h2, hc.cell h3 (fun x => x), h4, ?_⟩
  unfold Lib.TabIs World.var? at h5 ⊢
  rw [Option.bind_eq_some_iff] at h5 ⊢
  obtain ⟨g, hg, h6⟩ := h5
  refine ⟨g, hg, ?_⟩
  cases hx : w.heap[g]? with
  | none => rw [hx] at h6; cases h6
  | some o => rw [hc.heap hx (fun x => x)]; rw [hx] at h6; exact h6
theorem num_cases (x : Lib.NumEnd Int) : (∃ v, x = .ok v) ∨ x = Lib.NumEnd.ofOption none ∨ x = .range := by
  cases x
  · exact .inl ⟨_, rfl⟩
  · exact .inr (.inl rfl)
  · exact .inr (.inr rfl)
theorem atoi_calls (w : World) (hw : NumW w) (s : ByteArray) (hs : s.size ≤ 140737488351232) :
    Calls Tryd.prog 44 #[.string s] w fun e w' => Chg No w w' ∧ ((∃ v, Lib.atoiAll s.data.toList = .ok v ∧ e = .returned (.tuple #[.int .i64 v, .nilIface])) ∨ ((∀ v, Lib.atoiAll s.data.toList ≠ .ok v) ∧ ∃ v t N, e = .returned (.tuple #[.int .i64 v, .iface t (.pointer (some ⟨N, 0, none⟩))]))) := by
  obtain ⟨e1, e2, h1, h2, h3, h4, h5⟩ := hw
  rcases num_cases (Lib.atoiAll s.data.toList) with ⟨v, ha⟩ | ha | ha
  · refine (Tryd.strconv_Atoi_ok s (by omega) v ha w).mono ?_
    rintro e w' ⟨rfl, h⟩
    refine ⟨?_, .inl ⟨v, ha, rfl⟩⟩
    rcases h with rfl | ⟨t, rfl⟩
    · exact Chg.refl _ _
    · exact Chg.ofBelow (Lib.bytesWorld_below _ _ _)
  · refine (Tryd.strconv_Atoi_syn s (by omega) ha e1 w h1 h2).mono ?_
    rintro e w' ⟨N, rfl, -, -, hb⟩
    exact ⟨Chg.ofBelow hb, .inr ⟨fun v h => (by rw [ha] at h; cases h), _, _, _, rfl⟩⟩
  · refine (Tryd.strconv_Atoi_range s (by omega) ha e2 w h3 h4).mono ?_
    rintro e w' ⟨N, rfl, -, -, hb⟩
    exact ⟨Chg.ofBelow hb, .inr ⟨fun v h => (by rw [ha] at h; cases h), _, _, _, rfl⟩⟩
theorem itoa_calls (w : World) (hw : NumW w) (v : Int) (h0 : -9223372036854775808 ≤ v) (h1 : v ≤ 9223372036854775807) :
    Calls Tryd.prog 45 #[.int .i64 v] w fun e w' => e = .returned (.string (mkS (Lib.itoa v))) ∧ Chg No w w' := by
  obtain ⟨-, -, -, -, -, -, h5⟩ := hw
  refine (Tryd.strconv_Itoa v h0 h1 w h5).mono ?_
  rintro e w' ⟨rfl, k, os, rfl⟩
  exact ⟨rfl, chg_grow _ _ _⟩
/-- A number as it is answered. -/
def numV (o : Option Int) : Value := .tuple #[.int .i64 (o.getD 0), .bool o.isSome]
set_option maxHeartbeats 3200000 in
theorem number_calls (w : World) (hw : NumW w) (s : ByteArray) (hs : s.size ≤ 140737488351232) :
    Calls Tryd.prog 21 #[.string s] w fun e w' => e = .returned (numV (gotF s.data.toList)) ∧ Chg No w w' := by
  have HT := Lib.hid fun W => Tryd.strings_TrimPrefix s ⟨#[45]⟩ W
  have hcl : (cutN s.data.toList).length ≤ 140737488351232 := by
    have h9 : s.data.toList.length = s.size := by rw [Array.length_toList]; rfl
    rw [cutN]; split
    · rw [List.length_tail]; omega
    · omega
  rw [show Lib.trimPrefix s.data.toList (⟨#[45]⟩ : ByteArray).data.toList = cutN s.data.toList from trim_cut _] at HT
  rw [show (⟨(cutN s.data.toList).toArray⟩ : ByteArray) = mkS (cutN s.data.toList) from rfl] at HT
  have hcs : (mkS (cutN s.data.toList)).size = (cutN s.data.toList).length := mkS_size _
  by_cases h18 : 18 < (cutN s.data.toList).length
  · have HG : Hid (gotF s.data.toList = none) := by rw [Hid, gotF, if_pos h18]
    have b1 : (18 : Int) < ((mkS (cutN s.data.toList)).size : Int) := by rw [hcs]; omega
    clear h18 hcs
    generalize cutN s.data.toList = ct at *
    go_enter Tryd.func21, Tryd.ntmps21
    go_wp2_with fail
    refine (HT.out _).mono ?_
    rintro e w1 ⟨rfl, hw1⟩
    subst hw1
    go_wp2
    go_ret2
    exact ⟨by rw [HG.out]; rfl, Chg.refl _ _⟩
  · have b1 : ¬ (18 : Int) < ((mkS (cutN s.data.toList)).size : Int) := by rw [hcs]; omega
    have HG : Hid (gotF s.data.toList = match Lib.atoiAll s.data.toList with | .ok v => if Lib.itoa v = s.data.toList then some v else none | _ => none) := by rw [Hid, gotF, if_neg h18]; try rfl
    have HAT := Lib.hid (atoi_calls w hw s hs)
    have HW := Lib.hid hw
    clear h18 hcs hw
    generalize cutN s.data.toList = ct at *
    go_enter Tryd.func21, Tryd.ntmps21
    go_wp2_with fail
    refine (HT.out _).mono ?_
    rintro e w1 ⟨rfl, hw1⟩
    subst hw1
    go_wp2_with fail
    refine HAT.out.mono ?_
    rintro e w2 ⟨hc2, ⟨v, hv, rfl⟩ | ⟨hv, v, t, N, rfl⟩⟩
    · obtain ⟨v1, v2⟩ := Lib.atoiAll_bounds hv
      have HI := Lib.hid (itoa_calls w2 (HW.out.no hc2) v v1 v2)
      have HC2 := Lib.hid hc2
      have HV := Lib.hid hv
      clear hc2 hv HAT
      by_cases he : Lib.itoa v = s.data.toList
      · have HF : Hid (gotF s.data.toList = some v) := by rw [Hid, HG.out, HV.out]; simp only; rw [if_pos he]
        have n1 : ((mkS (Lib.itoa v)).toList == s.toList) = true := by rw [Lib.toList_data, Lib.toList_data, mkS_list, he]; simp
        have n3 : (mkS (Lib.itoa v)).toList = s.toList := by rw [Lib.toList_data, Lib.toList_data, mkS_list, he]
        clear he HG HV
        go_wp2_with fail
        refine HI.out.mono ?_
        rintro e w3 ⟨rfl, hc3⟩
        have HC3 := Lib.hid (HC2.out.no hc3)
        clear hc3
        go_wp2
        go_ret2
        exact ⟨by rw [HF.out]; rfl, HC3.out⟩
      · have HF : Hid (gotF s.data.toList = none) := by rw [Hid, HG.out, HV.out]; simp only; rw [if_neg he]
        have n3 : ¬ (mkS (Lib.itoa v)).toList = s.toList := by rw [Lib.toList_data, Lib.toList_data, mkS_list]; exact he
        have n1 : ((mkS (Lib.itoa v)).toList == s.toList) = false := beq_eq_false_iff_ne.2 n3
        clear he HG HV
        go_wp2_with fail
        refine HI.out.mono ?_
        rintro e w3 ⟨rfl, hc3⟩
        have HC3 := Lib.hid (HC2.out.no hc3)
        clear hc3
        go_wp2
        go_ret2
        exact ⟨by rw [HF.out]; rfl, HC3.out⟩
    · have HF : Hid (gotF s.data.toList = none) := by
        rw [Hid, HG.out]
        rcases num_cases (Lib.atoiAll s.data.toList) with ⟨v, h⟩ | h | h
        · exact absurd h (hv v)
        · rw [h]; rfl
        · rw [h]
      have HC2 := Lib.hid hc2
      clear hc2 hv HAT HG
      go_wp2
      go_ret2
      exact ⟨by rw [HF.out]; rfl, HC2.out⟩
end Go.Proofs.YtcomcoolmabmgaaDoor

namespace Go.Proofs.YtcomcoolmabmgaaDoor
set_option linter.unnecessarySimpa false
open Go.RowKit Go.Shelf
set_option linter.unusedVariables false
set_option linter.unusedSimpArgs false
set_option maxRecDepth 100000

theorem decFrom_app : ∀ (a b : List UInt8) (acc : Nat), Lib.decFrom acc (a ++ b) = (Lib.decFrom acc a).bind fun m => Lib.decFrom m b
  | [], b, acc => rfl
  | x :: t, b, acc => by
    rw [List.cons_append, Lib.decFrom, Lib.decFrom]
    cases Lib.digitVal x with
    | none => rfl
    | some d => exact decFrom_app t b _
theorem decFrom_lt10 {l : List UInt8} {m k : Nat} (h : Lib.decFrom 0 l = some m) (hk : l.length ≤ k) : m < 10 ^ k := by
  have := Lib.decFrom_lt l 0 m h
  have h2 : (10 : Nat) ^ l.length ≤ 10 ^ k := Nat.pow_le_pow_right (by decide) hk
  omega
theorem get_list (s : ByteArray) (i : Nat) (h : i < s.size) : s.data.toList[i]? = some s[i] := by
  rw [List.getElem?_eq_getElem (by rw [Array.length_toList]; exact h)]; rfl
/-- The reference's Number, from the place of the first digit on. -/
theorem numF_of {s : ByteArray} {a : Nat} {neg : Bool} (h : (neg = true ∧ a = 1 ∧ s.data.toList.head? = some 45) ∨ (neg = false ∧ a = 0 ∧ s.data.toList.head? ≠ some 45)) :
    numF s.data.toList = if s.size - a < 1 ∨ 18 < s.size - a ∨ (s.data.toList[a]? = some 48 ∧ (1 < s.size - a ∨ neg = true)) then none else (Lib.decFrom 0 (s.data.toList.drop a)).map fun (m : Nat) => if neg = true then -(m : Int) else (m : Int) := by
  have hl : s.data.toList.length = s.size := Array.length_toList
  have hd : cutN s.data.toList = s.data.toList.drop a := by
    rw [cutN]
    rcases h with ⟨-, rfl, h⟩ | ⟨-, rfl, h⟩
    · rw [if_pos h, ← List.drop_one]
    · rw [if_neg h, List.drop_zero]
  rw [numF, hd, List.length_drop, hl, List.head?_drop]
  rcases h with ⟨rfl, rfl, h⟩ | ⟨rfl, rfl, h⟩
  · simp only [h]
  · simp only [h, if_false, Bool.false_eq_true]
theorem wrap64_of {n : Int} (h0 : -9223372036854775808 ≤ n) (h1 : n ≤ 9223372036854775807) : wrap64 n = n := by
  unfold wrap64; omega
theorem u8_sub {x : Nat} (h1 : 48 ≤ x) (h2 : x ≤ 57) : IntKind.u8.wrap ((x : Int) - 48) = ((x - 48 : Nat) : Int) := by
  rw [show ((x : Int) - 48) = ((x - 48 : Nat) : Int) by omega]
  rw [IntKind.wrap_u8]; omega
set_option maxHeartbeats 6400000 in
theorem refnumber_calls (w : World) (s : ByteArray) (hs : s.size ≤ 140737488351232) :
    Calls Tryd.prog 22 #[.string s] w fun e w' => e = .returned (numV (numF s.data.toList)) ∧ Chg No w w' := by
  have hl : s.data.toList.length = s.size := Array.length_toList
  by_cases hneg : s.data.toList.head? = some 45
  · have HX := Lib.hid (numF_of (s := s) (a := 1) (neg := true) (.inl ⟨rfl, rfl, hneg⟩))
    have hs0 : 0 < s.size := by rw [← hl]; cases h : s.data.toList with | nil => rw [h] at hneg; cases hneg | cons => simp
    have hx0 : s[0] = 45 := by
      have := get_list s 0 hs0
      rw [← List.head?_eq_getElem?, hneg] at this
      exact (Option.some.inj this).symm
    have b0 : (0 : Int) < (s.size : Int) := by omega
    clear hneg
    by_cases h0 : s.size - 1 < 1
    · have HF : Hid (numF s.data.toList = none) := by rw [Hid, HX.out, if_pos (.inl h0)]
      have hz : s.size = 1 := by omega
      clear HX h0
      go_enter Tryd.func22, Tryd.ntmps22
      go_wp2
      all_goals
        go_ret2
        exact ⟨by rw [HF.out]; rfl, Chg.refl _ _⟩
    by_cases h18 : 18 < s.size - 1
    · have HF : Hid (numF s.data.toList = none) := by rw [Hid, HX.out, if_pos (.inr (.inl h18))]
      clear HX
      go_enter Tryd.func22, Tryd.ntmps22
      go_wp2
      all_goals
        go_ret2
        exact ⟨by rw [HF.out]; rfl, Chg.refl _ _⟩
    obtain ⟨n, hsz⟩ : ∃ n, s.size = 1 + n := ⟨s.size - 1, by omega⟩
    have hn1 : 1 ≤ n := by omega
    have hn18 : n ≤ 18 := by omega
    have HSZ := Lib.hid hsz
    have hsa : 1 < s.size := by omega
    obtain ⟨c, hc⟩ : ∃ c, s[1]'hsa = c := ⟨_, rfl⟩
    have b1 : ¬ ((s.size : Int) - 1) < 1 := by omega
    have b2 : ¬ (18 : Int) < ((s.size : Int) - 1) := by omega
    have HCC : Hid (s.data.toList[1]? = some c) := by rw [Hid, get_list s 1 (by omega), hc]

    by_cases h48 : c = 48
    · have HF : Hid (numF s.data.toList = none) := by rw [Hid, HX.out, if_pos (.inr (.inr ⟨by rw [HCC.out, h48], .inr rfl⟩))]
      subst h48
      clear HX HCC hsz
      go_enter Tryd.func22, Tryd.ntmps22
      go_wp2
      all_goals
        go_ret2
        exact ⟨by rw [HF.out]; rfl, Chg.refl _ _⟩
    · have HN : Hid (numF s.data.toList = (Lib.decFrom 0 (s.data.toList.drop 1)).map fun (m : Nat) => if true = true then -(m : Int) else (m : Int)) := by
        rw [Hid, HX.out, if_neg]
        rintro (h | h | ⟨h, -⟩)
        · omega
        · omega
        · rw [HCC.out] at h; exact h48 (Option.some.inj h)
      have c48 : ((c.toNat : Int) == 48) = false := by rw [beq_eq_false_iff_ne]; intro e; exact h48 (UInt8.toNat.inj (by show c.toNat = 48; omega))
      clear HCC
      clear HX hsz
      go_enter Tryd.func22, Tryd.ntmps22
      go_wp2
      go_loopw [7, 8] (fun x i wr => ∃ (k m : Nat), k ≤ n ∧ i = .int .i64 (((1 + k) : Nat) : Int) ∧ x = .int .i64 (m : Int) ∧ Hid (Lib.decFrom 0 ((s.data.toList.drop 1).take k) = some m) ∧ Hid (Chg No w wr)) (fun _ i _ => s.size - (intOf i).toNat)
      case atStart => exact ⟨0, 0, Nat.zero_le _, rfl, rfl, rfl, Chg.refl _ _⟩
      case round =>
        obtain ⟨k, m, hk, rfl, rfl, HM, HC⟩ := hrel
        have hsz := HSZ.out
        have hm18 : m < 10 ^ k := decFrom_lt10 HM.out (by rw [List.length_take]; omega)
        have hmk : (10 : Nat) ^ k ≤ 10 ^ 18 := Nat.pow_le_pow_right (by decide) (by omega)
        have hmm : m < 1000000000000000000 := by have : (10 : Nat) ^ 18 = 1000000000000000000 := by decide
                                                 omega
        clear hm18 hmk
        have HSP : Hid (Lib.decFrom 0 (s.data.toList.drop 1) = Lib.decFrom m (s.data.toList.drop (1 + k))) := by
          have h := decFrom_app ((s.data.toList.drop 1).take k) ((s.data.toList.drop 1).drop k) 0
          rw [List.take_append_drop, HM.out, List.drop_drop] at h

          exact h
        by_cases hlt : k < n
        · have hmm : m < 100000000000000000 := by
            have h1 : m < 10 ^ k := decFrom_lt10 HM.out (by rw [List.length_take]; omega)
            have h2 : (10 : Nat) ^ k ≤ 10 ^ 17 := Nat.pow_le_pow_right (by decide) (by omega)
            have h3 : (10 : Nat) ^ 17 = 100000000000000000 := by decide
            omega
          have hks : (1 + k) < s.size := by omega
          have i1 : (((1 + k) : Nat) : Int) < (s.size : Int) := by omega
          obtain ⟨x, hx⟩ : ∃ x, s[(1 + k)] = x := ⟨_, rfl⟩
          have HD : Hid (s.data.toList.drop (1 + k) = x :: s.data.toList.drop ((1 + k) + 1)) := by
            rw [Hid, List.drop_eq_getElem_cons (by rw [hl]; omega), ← hx]; rfl
          have HT : Hid ((s.data.toList.drop 1).take (k + 1) = (s.data.toList.drop 1).take k ++ [x]) := by
            rw [Hid, List.take_add_one, List.getElem?_drop, get_list s (1 + k) hks, hx]; rfl
          by_cases h1 : x.toNat < 48
          · have HE : Hid (numF s.data.toList = none) := by
              rw [Hid, HN.out, HSP.out, HD.out, Lib.decFrom]
              have : Lib.digitVal x = none := by rw [Lib.digitVal, if_neg (by omega)]
              rw [this]; rfl
            have j1 : (x.toNat : Int) < 48 := by omega
            clear HSP HD HT HM h1 hsz
            go_wp2
            go_ret2
            exact ⟨by rw [HE.out]; rfl, HC.out⟩
          by_cases h2 : 57 < x.toNat
          · have HE : Hid (numF s.data.toList = none) := by
              rw [Hid, HN.out, HSP.out, HD.out, Lib.decFrom]
              have : Lib.digitVal x = none := by rw [Lib.digitVal, if_neg (by omega)]
              rw [this]; rfl
            have j1 : ¬ (x.toNat : Int) < 48 := by omega
            have j2 : (57 : Int) < (x.toNat : Int) := by omega
            clear HSP HD HT HM h1 h2 hsz
            go_wp2
            go_ret2
            exact ⟨by rw [HE.out]; rfl, HC.out⟩
          · have HM' : Hid (Lib.decFrom 0 ((s.data.toList.drop 1).take (k + 1)) = some (m * 10 + (x.toNat - 48))) := by
              rw [Hid, HT.out, decFrom_snoc, HM.out]
              have : Lib.digitVal x = some (x.toNat - 48) := by rw [Lib.digitVal, if_pos (by omega)]
              rw [this]; rfl
            have j1 : ¬ (x.toNat : Int) < 48 := by omega
            have j2 : ¬ (57 : Int) < (x.toNat : Int) := by omega
            have j3 := u8_sub (x := x.toNat) (by omega) (by omega)
            obtain ⟨y, hy⟩ : ∃ y, y = x.toNat - 48 := ⟨_, rfl⟩
            rw [← hy] at HM' j3
            have hy10 : y < 10 := by omega
            have q1 : wrap64 ((m : Int) * 10) = (m : Int) * 10 := wrap64_of (by omega) (by omega)
            have q2 : wrap64 ((m : Int) * 10 + (y : Int)) = (m : Int) * 10 + (y : Int) := wrap64_of (by omega) (by omega)
            clear HSP HD HT HM h1 h2 hy hsz
            go_wp2
            go_roundw
            case rel => exact ⟨k + 1, m * 10 + y, by omega, by go_num, by go_num, HM', HC⟩
            case measure => simp [intOf]; omega
        · have hkn : k = n := by omega
          subst hkn
          have i1 : ¬ (((1 + k) : Nat) : Int) < (s.size : Int) := by omega
          have HE : Hid (numF s.data.toList = some (-(m : Int))) := by
            have : (s.data.toList.drop 1).take k = s.data.toList.drop 1 := List.take_of_length_le (by rw [List.length_drop, hl]; omega)
            rw [Hid, HN.out, ← this, HM.out]; rfl
          clear HSP HM hlt hsz
          go_wp2
          go_ret2
          exact ⟨by rw [HE.out]; rfl, HC.out⟩
  · have HX := Lib.hid (numF_of (s := s) (a := 0) (neg := false) (.inr ⟨rfl, rfl, hneg⟩))
    by_cases hs0 : s.size = 0
    · have HF : Hid (numF s.data.toList = none) := by rw [Hid, HX.out, if_pos (.inl (by omega))]
      have b0 : ¬ (0 : Int) < (s.size : Int) := by omega
      clear HX hneg
      go_enter Tryd.func22, Tryd.ntmps22
      go_wp2
      all_goals
        go_ret2
        exact ⟨by rw [HF.out]; rfl, Chg.refl _ _⟩
    have hs1 : 0 < s.size := by omega
    have hx0 : ((s[0].toNat : Int) == 45) = false := by
      rw [beq_eq_false_iff_ne]
      intro e
      refine hneg ?_
      rw [List.head?_eq_getElem?, get_list s 0 hs1]
      exact congrArg some (UInt8.toNat.inj (by show s[0].toNat = 45; omega))
    have b0 : (0 : Int) < (s.size : Int) := by omega
    clear hneg hs0
    by_cases h18 : 18 < s.size - 0
    · have HF : Hid (numF s.data.toList = none) := by rw [Hid, HX.out, if_pos (.inr (.inl h18))]
      clear HX
      go_enter Tryd.func22, Tryd.ntmps22
      go_wp2
      all_goals
        go_ret2
        exact ⟨by rw [HF.out]; rfl, Chg.refl _ _⟩
    obtain ⟨n, hsz⟩ : ∃ n, s.size = 0 + n := ⟨s.size - 0, by omega⟩
    have hn1 : 1 ≤ n := by omega
    have hn18 : n ≤ 18 := by omega
    have HSZ := Lib.hid hsz
    have hsa : 0 < s.size := by omega
    obtain ⟨c, hc⟩ : ∃ c, s[0]'hsa = c := ⟨_, rfl⟩
    have b1 : ¬ ((s.size : Int)) < 1 := by omega
    have b2 : ¬ (18 : Int) < ((s.size : Int)) := by omega
    have HCC : Hid (s.data.toList[0]? = some c) := by rw [Hid, get_list s 0 (by omega), hc]
    rw [hc] at hx0
    by_cases h48 : c = 48
    · by_cases h1 : 1 < n
      · have HF : Hid (numF s.data.toList = none) := by rw [Hid, HX.out, if_pos (.inr (.inr ⟨by rw [HCC.out, h48], .inl (by omega)⟩))]
        have b3 : (1 : Int) < (s.size : Int) := by omega
        subst h48
        clear HX HCC hsz
        go_enter Tryd.func22, Tryd.ntmps22
        go_wp2
        all_goals
          go_ret2
          exact ⟨by rw [HF.out]; rfl, Chg.refl _ _⟩
      · have b3 : ¬ (1 : Int) < (s.size : Int) := by omega
        have HN : Hid (numF s.data.toList = (Lib.decFrom 0 (s.data.toList.drop 0)).map fun (m : Nat) => if false = true then -(m : Int) else (m : Int)) := by
          rw [Hid, HX.out, if_neg]
          rintro (h | h | ⟨-, h | h⟩)
          · omega
          · omega
          · omega
          · cases h
        subst h48
        clear HX HCC h1 hsz
        go_enter Tryd.func22, Tryd.ntmps22
        go_wp2
        go_loopw [7, 8] (fun x i wr => ∃ (k m : Nat), k ≤ n ∧ i = .int .i64 ((k : Nat) : Int) ∧ x = .int .i64 (m : Int) ∧ Hid (Lib.decFrom 0 ((s.data.toList.drop 0).take k) = some m) ∧ Hid (Chg No w wr)) (fun _ i _ => s.size - (intOf i).toNat)
        case atStart => exact ⟨0, 0, Nat.zero_le _, rfl, rfl, rfl, Chg.refl _ _⟩
        case round =>
          obtain ⟨k, m, hk, rfl, rfl, HM, HC⟩ := hrel
          have hsz := HSZ.out
          have hm18 : m < 10 ^ k := decFrom_lt10 HM.out (by rw [List.length_take]; omega)
          have hmk : (10 : Nat) ^ k ≤ 10 ^ 18 := Nat.pow_le_pow_right (by decide) (by omega)
          have hmm : m < 1000000000000000000 := by have : (10 : Nat) ^ 18 = 1000000000000000000 := by decide
                                                   omega
          clear hm18 hmk
          have HSP : Hid (Lib.decFrom 0 (s.data.toList.drop 0) = Lib.decFrom m (s.data.toList.drop k)) := by
            have h := decFrom_app ((s.data.toList.drop 0).take k) ((s.data.toList.drop 0).drop k) 0
            rw [List.take_append_drop, HM.out, List.drop_drop] at h
            rw [Nat.zero_add] at h
            exact h
          by_cases hlt : k < n
          · have hmm : m < 100000000000000000 := by
              have h1 : m < 10 ^ k := decFrom_lt10 HM.out (by rw [List.length_take]; omega)
              have h2 : (10 : Nat) ^ k ≤ 10 ^ 17 := Nat.pow_le_pow_right (by decide) (by omega)
              have h3 : (10 : Nat) ^ 17 = 100000000000000000 := by decide
              omega
            have hks : k < s.size := by omega
            have i1 : ((k : Nat) : Int) < (s.size : Int) := by omega
            obtain ⟨x, hx⟩ : ∃ x, s[k] = x := ⟨_, rfl⟩
            have HD : Hid (s.data.toList.drop k = x :: s.data.toList.drop (k + 1)) := by
              rw [Hid, List.drop_eq_getElem_cons (by rw [hl]; omega), ← hx]; rfl
            have HT : Hid ((s.data.toList.drop 0).take (k + 1) = (s.data.toList.drop 0).take k ++ [x]) := by
              rw [Hid, List.take_add_one, List.getElem?_drop, Nat.zero_add, get_list s k hks, hx]; rfl
            by_cases h1 : x.toNat < 48
            · have HE : Hid (numF s.data.toList = none) := by
                rw [Hid, HN.out, HSP.out, HD.out, Lib.decFrom]
                have : Lib.digitVal x = none := by rw [Lib.digitVal, if_neg (by omega)]
                rw [this]; rfl
              have j1 : (x.toNat : Int) < 48 := by omega
              clear HSP HD HT HM h1 hsz
              go_wp2
              go_ret2
              exact ⟨by rw [HE.out]; rfl, HC.out⟩
            by_cases h2 : 57 < x.toNat
            · have HE : Hid (numF s.data.toList = none) := by
                rw [Hid, HN.out, HSP.out, HD.out, Lib.decFrom]
                have : Lib.digitVal x = none := by rw [Lib.digitVal, if_neg (by omega)]
                rw [this]; rfl
              have j1 : ¬ (x.toNat : Int) < 48 := by omega
              have j2 : (57 : Int) < (x.toNat : Int) := by omega
              clear HSP HD HT HM h1 h2 hsz
              go_wp2
              go_ret2
              exact ⟨by rw [HE.out]; rfl, HC.out⟩
            · have HM' : Hid (Lib.decFrom 0 ((s.data.toList.drop 0).take (k + 1)) = some (m * 10 + (x.toNat - 48))) := by
                rw [Hid, HT.out, decFrom_snoc, HM.out]
                have : Lib.digitVal x = some (x.toNat - 48) := by rw [Lib.digitVal, if_pos (by omega)]
                rw [this]; rfl
              have j1 : ¬ (x.toNat : Int) < 48 := by omega
              have j2 : ¬ (57 : Int) < (x.toNat : Int) := by omega
              have j3 := u8_sub (x := x.toNat) (by omega) (by omega)
              obtain ⟨y, hy⟩ : ∃ y, y = x.toNat - 48 := ⟨_, rfl⟩
              rw [← hy] at HM' j3
              have hy10 : y < 10 := by omega
              have q1 : wrap64 ((m : Int) * 10) = (m : Int) * 10 := wrap64_of (by omega) (by omega)
              have q2 : wrap64 ((m : Int) * 10 + (y : Int)) = (m : Int) * 10 + (y : Int) := wrap64_of (by omega) (by omega)
              clear HSP HD HT HM h1 h2 hy hsz
              go_wp2
              go_roundw
              case rel => exact ⟨k + 1, m * 10 + y, by omega, by go_num, by go_num, HM', HC⟩
              case measure => simp [intOf]; omega
          · have hkn : k = n := by omega
            subst hkn
            have i1 : ¬ ((k : Nat) : Int) < (s.size : Int) := by omega
            have HE : Hid (numF s.data.toList = some ((m : Int))) := by
              have : (s.data.toList.drop 0).take k = s.data.toList.drop 0 := List.take_of_length_le (by rw [List.length_drop, hl]; omega)
              rw [Hid, HN.out, ← this, HM.out]; rfl
            clear HSP HM hlt hsz
            go_wp2
            go_ret2
            exact ⟨by rw [HE.out]; rfl, HC.out⟩
    · have HN : Hid (numF s.data.toList = (Lib.decFrom 0 (s.data.toList.drop 0)).map fun (m : Nat) => if false = true then -(m : Int) else (m : Int)) := by
        rw [Hid, HX.out, if_neg]
        rintro (h | h | ⟨h, -⟩)
        · omega
        · omega
        · rw [HCC.out] at h; exact h48 (Option.some.inj h)
      have c48 : ((c.toNat : Int) == 48) = false := by rw [beq_eq_false_iff_ne]; intro e; exact h48 (UInt8.toNat.inj (by show c.toNat = 48; omega))
      clear HCC
      clear HX hsz
      go_enter Tryd.func22, Tryd.ntmps22
      go_wp2
      go_loopw [7, 8] (fun x i wr => ∃ (k m : Nat), k ≤ n ∧ i = .int .i64 ((k : Nat) : Int) ∧ x = .int .i64 (m : Int) ∧ Hid (Lib.decFrom 0 ((s.data.toList.drop 0).take k) = some m) ∧ Hid (Chg No w wr)) (fun _ i _ => s.size - (intOf i).toNat)
      case atStart => exact ⟨0, 0, Nat.zero_le _, rfl, rfl, rfl, Chg.refl _ _⟩
      case round =>
        obtain ⟨k, m, hk, rfl, rfl, HM, HC⟩ := hrel
        have hsz := HSZ.out
        have hm18 : m < 10 ^ k := decFrom_lt10 HM.out (by rw [List.length_take]; omega)
        have hmk : (10 : Nat) ^ k ≤ 10 ^ 18 := Nat.pow_le_pow_right (by decide) (by omega)
        have hmm : m < 1000000000000000000 := by have : (10 : Nat) ^ 18 = 1000000000000000000 := by decide
                                                 omega
        clear hm18 hmk
        have HSP : Hid (Lib.decFrom 0 (s.data.toList.drop 0) = Lib.decFrom m (s.data.toList.drop k)) := by
          have h := decFrom_app ((s.data.toList.drop 0).take k) ((s.data.toList.drop 0).drop k) 0
          rw [List.take_append_drop, HM.out, List.drop_drop] at h
          rw [Nat.zero_add] at h
          exact h
        by_cases hlt : k < n
        · have hmm : m < 100000000000000000 := by
            have h1 : m < 10 ^ k := decFrom_lt10 HM.out (by rw [List.length_take]; omega)
            have h2 : (10 : Nat) ^ k ≤ 10 ^ 17 := Nat.pow_le_pow_right (by decide) (by omega)
            have h3 : (10 : Nat) ^ 17 = 100000000000000000 := by decide
            omega
          have hks : k < s.size := by omega
          have i1 : ((k : Nat) : Int) < (s.size : Int) := by omega
          obtain ⟨x, hx⟩ : ∃ x, s[k] = x := ⟨_, rfl⟩
          have HD : Hid (s.data.toList.drop k = x :: s.data.toList.drop (k + 1)) := by
            rw [Hid, List.drop_eq_getElem_cons (by rw [hl]; omega), ← hx]; rfl
          have HT : Hid ((s.data.toList.drop 0).take (k + 1) = (s.data.toList.drop 0).take k ++ [x]) := by
            rw [Hid, List.take_add_one, List.getElem?_drop, Nat.zero_add, get_list s k hks, hx]; rfl
          by_cases h1 : x.toNat < 48
          · have HE : Hid (numF s.data.toList = none) := by
              rw [Hid, HN.out, HSP.out, HD.out, Lib.decFrom]
              have : Lib.digitVal x = none := by rw [Lib.digitVal, if_neg (by omega)]
              rw [this]; rfl
            have j1 : (x.toNat : Int) < 48 := by omega
            clear HSP HD HT HM h1 hsz
            go_wp2
            go_ret2
            exact ⟨by rw [HE.out]; rfl, HC.out⟩
          by_cases h2 : 57 < x.toNat
          · have HE : Hid (numF s.data.toList = none) := by
              rw [Hid, HN.out, HSP.out, HD.out, Lib.decFrom]
              have : Lib.digitVal x = none := by rw [Lib.digitVal, if_neg (by omega)]
              rw [this]; rfl
            have j1 : ¬ (x.toNat : Int) < 48 := by omega
            have j2 : (57 : Int) < (x.toNat : Int) := by omega
            clear HSP HD HT HM h1 h2 hsz
            go_wp2
            go_ret2
            exact ⟨by rw [HE.out]; rfl, HC.out⟩
          · have HM' : Hid (Lib.decFrom 0 ((s.data.toList.drop 0).take (k + 1)) = some (m * 10 + (x.toNat - 48))) := by
              rw [Hid, HT.out, decFrom_snoc, HM.out]
              have : Lib.digitVal x = some (x.toNat - 48) := by rw [Lib.digitVal, if_pos (by omega)]
              rw [this]; rfl
            have j1 : ¬ (x.toNat : Int) < 48 := by omega
            have j2 : ¬ (57 : Int) < (x.toNat : Int) := by omega
            have j3 := u8_sub (x := x.toNat) (by omega) (by omega)
            obtain ⟨y, hy⟩ : ∃ y, y = x.toNat - 48 := ⟨_, rfl⟩
            rw [← hy] at HM' j3
            have hy10 : y < 10 := by omega
            have q1 : wrap64 ((m : Int) * 10) = (m : Int) * 10 := wrap64_of (by omega) (by omega)
            have q2 : wrap64 ((m : Int) * 10 + (y : Int)) = (m : Int) * 10 + (y : Int) := wrap64_of (by omega) (by omega)
            clear HSP HD HT HM h1 h2 hy hsz
            go_wp2
            go_roundw
            case rel => exact ⟨k + 1, m * 10 + y, by omega, by go_num, by go_num, HM', HC⟩
            case measure => simp [intOf]; omega
        · have hkn : k = n := by omega
          subst hkn
          have i1 : ¬ ((k : Nat) : Int) < (s.size : Int) := by omega
          have HE : Hid (numF s.data.toList = some ((m : Int))) := by
            have : (s.data.toList.drop 0).take k = s.data.toList.drop 0 := List.take_of_length_le (by rw [List.length_drop, hl]; omega)
            rw [Hid, HN.out, ← this, HM.out]; rfl
          clear HSP HM hlt hsz
          go_wp2
          go_ret2
          exact ⟨by rw [HE.out]; rfl, HC.out⟩
end Go.Proofs.YtcomcoolmabmgaaDoor

