/-
  Jp, J12, Rf, J10, J11, Rd1, J13, J14, S3: in one text.
-/
import Derived.Test.YtccphnkdnifpfaaBa5
import Derived.Test.YtccphnkdnifpfaaBa3
import Derived.Test.YtccphnkdnifpfaaBa6
import Derived.Lib.ConvBytes
import Derived.Deep.LoopGhost
import Derived.Test.YtccphnkdnifpfaaBa1
import Derived.RangeFuncNested
import Derived.RangeFuncBound
import Derived.RangeFuncCalls
import Derived.RangeFuncLeaves
import Derived.RangeFuncFrom
import Derived.RangeFuncBox
import Derived.Shelf.Abstract
import Derived.Shelf.RegionOpen
import Derived.WalkKit
import Derived.OwnWalkIn
import Derived.TacticsInMore
import Derived.LoopNIn
import Derived.LoopIn
import Derived.Sort.QuietIn
import Derived.Test.YtccphnkdnifpfaaBa4
import Derived.BigQuiet
import Derived.Lib.Strings
import Derived.Lib.SmallJoins
namespace Go.Proofs.Ytccphnkdnifpfaa
set_option linter.unnecessarySimpa false
set_option linter.unusedVariables false
set_option linter.unusedSimpArgs false

theorem recF_len0 (p : List UInt8) : 9 ≤ (recF p).length := by
  have h1 := leb_pos p.length
  have h2 := wide_len (hashF p)
  simp only [recF, List.length_append]
  omega

/-- The next record's payload, or: wrong bytes, or: none more. -/
def stepF (xs : List UInt8) : Option (Option (List UInt8)) :=
  if xs = [] ∨ (numF 0 0 xs).2.2 = 110 then none
  else if (numF 0 0 xs).2.2 ≠ 0 ∨ 262144 < (numF 0 0 xs).1 then some none
  else if xs.length - (numF 0 0 xs).2.1 < (numF 0 0 xs).1 + 8 then none
  else if beF 0 (((xs.drop (numF 0 0 xs).2.1).drop (numF 0 0 xs).1).take 8) = hashF ((xs.drop (numF 0 0 xs).2.1).take (numF 0 0 xs).1) then some (some ((xs.drop (numF 0 0 xs).2.1).take (numF 0 0 xs).1))
  else some none
theorem step_rec {xs p : List UInt8} (h : stepF xs = some (some p)) : xs ≠ [] ∧ (numF 0 0 xs).2.2 = 0 ∧ p.length = (numF 0 0 xs).1 ∧ p.length ≤ 262144 ∧ p = (xs.drop (numF 0 0 xs).2.1).take p.length ∧ (numF 0 0 xs).2.1 + p.length + 8 ≤ xs.length ∧ beF 0 (((xs.drop (numF 0 0 xs).2.1).drop p.length).take 8) = hashF p ∧ recF p = xs.take ((numF 0 0 xs).2.1 + p.length + 8) ∧ (recF p).length = (numF 0 0 xs).2.1 + p.length + 8 := by
  unfold stepF at h
  split at h
  · cases h
  rename_i h1
  split at h
  · cases h
  rename_i h2
  split at h
  · cases h
  rename_i h3
  split at h
  case isFalse => cases h
  rename_i h4
  simp only [not_or, Decidable.not_not, Nat.not_lt] at h1 h2 h3
  obtain ⟨f1, -, -, -, -⟩ := numF_at xs
  obtain ⟨v, n, e⟩ : ∃ v n, numF 0 0 xs = (v, n, 0) := ⟨(numF 0 0 xs).1, (numF 0 0 xs).2.1, by rw [← h2.1]⟩
  have hleb := numF_leb0 xs v n e
  rw [e] at h h2 h3 h4 f1 ⊢
  simp only at h h2 h3 h4 f1 ⊢
  have hp : p = (xs.drop n).take v := by simpa using h.symm
  have hpl : p.length = v := by rw [hp, List.length_take, List.length_drop]; omega
  rw [← hp] at h4
  rw [hpl]
  have h8 : (((xs.drop n).drop v).take 8).length = 8 := by simp only [List.length_take, List.length_drop]; omega
  have hw : wide (hashF p) = ((xs.drop n).drop v).take 8 := by rw [← h4]; exact wide_beF _ h8
  have hr : recF p = xs.take (n + v + 8) := by
    unfold recF
    rw [hpl, hleb, hw]
    conv => lhs; rw [hp]
    rw [List.drop_drop, List.take_add, List.take_add]
  refine ⟨h1.1, trivial, rfl, by omega, hp, by omega, h4, hr, ?_⟩
  rw [hr, List.length_take]; omega
theorem step_split {xs p : List UInt8} (h : stepF xs = some (some p)) : xs = recF p ++ xs.drop (recF p).length := by
  obtain ⟨_, _, _, _, _, h6, _, h8, h9⟩ := step_rec h
  rw [h9]
  conv => lhs; rw [← List.take_append_drop ((numF 0 0 xs).2.1 + p.length + 8) xs]
  rw [h8]

/-- The records of bytes, and whether what is behind them is wrong. -/
def Rds : List UInt8 → List (List UInt8) → Bool → Prop
  | xs, [], w => (stepF xs = none ∧ w = false) ∨ (stepF xs = some none ∧ w = true)
  | xs, p :: ps, w => stepF xs = some (some p) ∧ Rds (xs.drop (recF p).length) ps w
theorem Rds.stop {xs : List UInt8} (h : stepF xs = none) : Rds xs [] false := .inl ⟨h, rfl⟩
theorem Rds.wrong {xs : List UInt8} (h : stepF xs = some none) : Rds xs [] true := .inr ⟨h, rfl⟩
theorem Rds.more {xs p : List UInt8} {ps : List (List UInt8)} {w : Bool} (h : stepF xs = some (some p)) (r : Rds (xs.drop (recF p).length) ps w) : Rds xs (p :: ps) w := ⟨h, r⟩
theorem Rds.unique : ∀ {ps qs : List (List UInt8)} {xs : List UInt8} {w v : Bool}, Rds xs ps w → Rds xs qs v → ps = qs ∧ w = v
  | [], [], xs, w, v, h, k => by
    rcases h with ⟨h1, rfl⟩ | ⟨h1, rfl⟩ <;> rcases k with ⟨k1, rfl⟩ | ⟨k1, rfl⟩ <;> first | exact ⟨rfl, rfl⟩ | (rw [h1] at k1; cases k1)
  | [], q :: qs, xs, w, v, h, k => by
    have := k.1
    rcases h with ⟨h1, _⟩ | ⟨h1, _⟩ <;> (rw [h1] at this; cases this)
  | p :: ps, [], xs, w, v, h, k => by
    have := h.1
    rcases k with ⟨h1, _⟩ | ⟨h1, _⟩ <;> (rw [h1] at this; cases this)
  | p :: ps, q :: qs, xs, w, v, h, k => by
    have h1 := h.1
    have k1 := k.1
    rw [h1] at k1
    cases k1
    obtain ⟨e, e2⟩ := Rds.unique h.2 k.2
    exact ⟨by rw [e], e2⟩
theorem Rds.split : ∀ {ps : List (List UInt8)} {xs : List UInt8} {w : Bool}, Rds xs ps w → xs = encF ps ++ xs.drop (encF ps).length
  | [], xs, w, _ => by simp [encF]
  | p :: ps, xs, w, h => by
    have h1 := step_split h.1
    have h2 := Rds.split h.2
    have e : encF (p :: ps) = recF p ++ encF ps := by simp [encF]
    rw [e, List.length_append, ← List.drop_drop, List.append_assoc, ← h2]
    exact h1
theorem Rds.enc : ∀ {ps : List (List UInt8)} {xs : List UInt8} {w : Bool}, Rds xs ps w → xs.take (encF ps).length = encF ps ∧ (encF ps).length ≤ xs.length := by
  intro ps xs w h
  have e := h.split
  have hl := congrArg List.length e
  rw [List.length_append, List.length_drop] at hl
  refine ⟨?_, by omega⟩
  conv => lhs; rw [e]
  rw [List.take_left]
theorem Rds.ex (n : Nat) : ∀ (xs : List UInt8), xs.length ≤ n → ∃ ps w, Rds xs ps w := by
  induction n with
  | zero =>
    intro xs h
    have : xs = [] := List.eq_nil_of_length_eq_zero (by omega)
    subst this
    exact ⟨[], false, .stop (by simp [stepF])⟩
  | succ n ih =>
    intro xs h
    cases e : stepF xs with
    | none => exact ⟨[], false, .stop e⟩
    | some o =>
      cases o with
      | none => exact ⟨[], true, .wrong e⟩
      | some p =>
        obtain ⟨ps, w, r⟩ := ih (xs.drop (recF p).length) (by
          have := (recF_len0 p)
          have hne := (step_rec e).1
          have := List.length_pos_iff.2 hne
          rw [List.length_drop]; omega)
        exact ⟨p :: ps, w, .more e r⟩

/-- The reader's steps. -/
theorem reader_step (xs : List UInt8) (hne : xs ≠ []) :
    match stepF xs with
    | none => (rWord (rText 262144 ⟨xs, 0⟩).2).2.err = 110
    | some none => (rWord (rText 262144 ⟨xs, 0⟩).2).2.err ≠ 110 ∧ ((rWord (rText 262144 ⟨xs, 0⟩).2).2.err ≠ 0 ∨ (rWord (rText 262144 ⟨xs, 0⟩).2).1 ≠ hashF (rText 262144 ⟨xs, 0⟩).1)
    | some (some p) => (rWord (rText 262144 ⟨xs, 0⟩).2).2 = ⟨xs.drop (recF p).length, 0⟩ ∧ (rWord (rText 262144 ⟨xs, 0⟩).2).1 = hashF p ∧ (rText 262144 ⟨xs, 0⟩).1 = p := by
  cases e : stepF xs with
  | some o =>
    cases o with
    | some p =>
      obtain ⟨h1, h2, h3, h4, h5, h6, h7, h8, h9⟩ := step_rec e
      have hT : rText 262144 ⟨xs, 0⟩ = (p, ⟨(xs.drop (numF 0 0 xs).2.1).drop p.length, 0⟩) := by
        unfold rText
        rw [if_neg (by simp), if_neg (by omega), if_neg (by simp [h2]), if_neg (by simp only; omega), if_neg (by simp only; omega)]
        simp only [← h3, ← h5]
      have hl : ((xs.drop (numF 0 0 xs).2.1).drop p.length).length = xs.length - (numF 0 0 xs).2.1 - p.length := by simp only [List.length_drop]
      simp only [hT]
      unfold rWord
      rw [if_neg (by simp), if_neg (by simp only [hl]; omega)]
      refine ⟨?_, h7, trivial⟩
      simp only [h9, List.drop_drop]
    | none =>
      simp only
      unfold stepF at e
      split at e
      · cases e
      rename_i g1
      split at e
      · rename_i g2
        by_cases hz : (numF 0 0 xs).2.2 = 0
        · have hb : 262144 < (numF 0 0 xs).1 := by rcases g2 with h | h; exact absurd hz h; exact h
          have hT : rText 262144 ⟨xs, 0⟩ = ([], ⟨xs, 3⟩) := by
            unfold rText
            rw [if_neg (by simp), if_neg (by omega), if_neg (by simp [hz]), if_pos (by simp only; omega)]
          rw [hT]
          unfold rWord
          rw [if_pos (by simp)]
          exact ⟨by simp, .inl (by simp)⟩
        · have hT : rText 262144 ⟨xs, 0⟩ = ([], ⟨xs, (numF 0 0 xs).2.2⟩) := by
            unfold rText
            rw [if_neg (by simp), if_neg (by omega), if_pos (by simp only; exact hz)]
          rw [hT]
          unfold rWord
          rw [if_pos (by simp only; exact hz)]
          exact ⟨fun h => g1 (.inr h), .inl hz⟩
      · rename_i g2
        split at e
        · cases e
        rename_i g3
        split at e
        · cases e
        rename_i g4
        simp only [not_or, Decidable.not_not, Nat.not_lt] at g1 g2 g3
        have hT : rText 262144 ⟨xs, 0⟩ = ((xs.drop (numF 0 0 xs).2.1).take (numF 0 0 xs).1, ⟨(xs.drop (numF 0 0 xs).2.1).drop (numF 0 0 xs).1, 0⟩) := by
          unfold rText
          rw [if_neg (by simp), if_neg (by omega), if_neg (by simp [g2.1]), if_neg (by simp only; omega), if_neg (by simp only; omega)]
        rw [hT]
        have hl : ((xs.drop (numF 0 0 xs).2.1).drop (numF 0 0 xs).1).length = xs.length - (numF 0 0 xs).2.1 - (numF 0 0 xs).1 := by simp only [List.length_drop]
        unfold rWord
        rw [if_neg (by simp), if_neg (by simp only [hl]; omega)]
        exact ⟨by simp, .inr g4⟩
  | none =>
    simp only
    unfold stepF at e
    split at e
    · rename_i g1
      have g1 : (numF 0 0 xs).2.2 = 110 := by rcases g1 with h | h; exact absurd h hne; exact h
      have hT : rText 262144 ⟨xs, 0⟩ = ([], ⟨xs, 110⟩) := by
        unfold rText
        rw [if_neg (by simp), if_neg (by omega), if_pos (by simp [g1])]
        simp only [g1]
      rw [hT]
      unfold rWord
      rw [if_pos (by simp)]
    · rename_i g1
      split at e
      · cases e
      rename_i g2
      split at e
      · rename_i g3
        simp only [not_or, Decidable.not_not, Nat.not_lt] at g1 g2
        by_cases hs : xs.length - (numF 0 0 xs).2.1 < (numF 0 0 xs).1
        · have hT : rText 262144 ⟨xs, 0⟩ = ([], ⟨xs, 110⟩) := by
            unfold rText
            rw [if_neg (by simp), if_neg (by omega), if_neg (by simp [g2.1]), if_neg (by simp only; omega), if_pos (by simp only; omega)]
          rw [hT]
          unfold rWord
          rw [if_pos (by simp)]
        · have hT : rText 262144 ⟨xs, 0⟩ = ((xs.drop (numF 0 0 xs).2.1).take (numF 0 0 xs).1, ⟨(xs.drop (numF 0 0 xs).2.1).drop (numF 0 0 xs).1, 0⟩) := by
            unfold rText
            rw [if_neg (by simp), if_neg (by omega), if_neg (by simp [g2.1]), if_neg (by simp only; omega), if_neg (by simp only; omega)]
          rw [hT]
          have hl : ((xs.drop (numF 0 0 xs).2.1).drop (numF 0 0 xs).1).length = xs.length - (numF 0 0 xs).2.1 - (numF 0 0 xs).1 := by simp only [List.length_drop]
          unfold rWord
          rw [if_neg (by simp), if_pos (by simp only [hl]; omega)]
      · split at e <;> cases e
end Go.Proofs.Ytccphnkdnifpfaa

namespace Go.Proofs.Ytccphnkdnifpfaa
set_option linter.unnecessarySimpa false
open Go.RowKit Go.Shelf
set_option linter.unusedVariables false
set_option linter.unusedSimpArgs false
set_option maxRecDepth 100000

theorem open_none (w : World) (k : ByteArray) :
    Calls Try.prog 29 #[.pointer none, .string k] w fun e w' => e = .returned (.tuple #[.pointer none, .int .i64 1]) ∧ Chg No w w' := by
  go_enter Try.func29, Try.ntmps29
  go_wp2
  go_step3
  go_wp2
  rw [Exit.noGoto_ret]
  go_ret2
  exact ⟨rfl, Chg.refl _ _⟩

/-- What Open reads, whether the file is there or not. -/
theorem dread_any (w : World) (base d m wr : Nat) (k : ByteArray) (th : Bool) (A : Option Addr) (n c : Nat) (xs : List UInt8) (h : DiskAt w d m wr (if th then some (k, .slice A n c) else none)) (ho : OwnB w base (.slice A n c) xs) (hl : xs.length = n) (hth : th = false → xs = []) (hx : n ≤ 140737488355328) :
    Calls Try.prog 48 #[.pointer (some ⟨d, 0, none⟩), .string k] w fun e w' => ∃ v er, e = .returned (.tuple #[v, .int .i64 er]) ∧ (er = 0 ∨ er = 4) ∧ OwnB w' w.heap.size v xs ∧ Chg No w w' := by
  cases th
  · obtain rfl := hth rfl
    refine (dread_none w d m wr k h).mono ?_
    rintro e w' ⟨rfl, hc⟩
    exact ⟨_, 4, rfl, .inr rfl, World.ownsRow_nil _ _ _ _, hc⟩
  · refine (dread_some w d m wr k A n c xs h ho.bytes hx).mono ?_
    rintro e w' ⟨v, rfl, ho', hc⟩
    exact ⟨v, 0, rfl, .inl rfl, ho', hc⟩

/-- A convert of a text to bytes. -/
theorem conv_bytes (w : World) (l : List UInt8) (hl : l.length ≤ 140737488355328) : ∃ c w', Sem.run Try.prog (convert 9 30 (.string (mkS l))) w = .ok (.slice (some ⟨w.heap.size, 0, none⟩) l.length c) w' ∧ Bytes w' (.slice (some ⟨w.heap.size, 0, none⟩) l.length c) l ∧ Chg No w w' ∧ w'.heap.size = w.heap.size + 1 := by
  have hr := Lib.run_convert_string_bytes (P := Try.prog) w 9 30 5 (mkS l) Try.underlying9 Try.underlying30 Try.underlying5
  have hs : (mkS l).size = l.length := mkS_size l
  rw [hs] at hr
  refine ⟨_, _, hr, ⟨_, _, rfl, grownCap_ge w _ _ _, grownCap_le_maxLen w _ _ _ (by unfold maxLen; omega), fun hp => ⟨_, _, rfl, fun j u hj => ?_⟩⟩, ⟨rfl, rfl, rfl, by rw [Lib.bytesWorld_size]; omega, fun k hk _ => Lib.bytesWorld_at_old w _ _ k hk⟩, Lib.bytesWorld_size _ _ _⟩
  have hjl : j < l.length := by have := (List.getElem?_eq_some_iff.1 hj).1; simpa using this
  rw [Nat.zero_add, Lib.bytesWorld_cell w _ _ j (by rw [hs]; exact hjl), ← hj, u8s_get l j hjl]
  simp [List.getD, hjl]


theorem ownsRow_base {w : World} {base base' size n : Nat} {e : TypeId} {v : Value} {xs : List Value} (h : w.ownsRow base e size v n xs) (hb : base' ≤ base) : w.ownsRow base' e size v n xs := by
  obtain ⟨h1, h2⟩ := h
  refine ⟨h1, h2.imp id ?_⟩
  rintro ⟨g, cap, cur, hv, hg, r⟩
  exact ⟨g, cap, cur, hv, Nat.le_trans hb hg, r⟩
theorem JCells.ned {w : World} {j d d' m wr : Nat} {k : ByteArray} {va vp : Value} {sz : Nat} {cut : Bool} {f : Option (ByteArray × Value)} (h : JCells w j d k va vp sz cut) (hd : DiskAt w d' m wr f) : j ≠ d' ∧ j ≠ m := by
  constructor
  · rintro rfl
    have h1 := (show w.heap[j]? = _ from h).symm.trans hd.1
    cases h1
  · rintro rfl
    have h1 := (show w.heap[j]? = _ from h).symm.trans hd.2
    unfold mapObj at h1
    split at h1 <;> cases h1
theorem DiskAt.no {w w' : World} {d m wr : Nat} {f : Option (ByteArray × Value)} (h : DiskAt w d m wr f) (hc : Chg No w w') : DiskAt w' d m wr f := h.chg hc (fun x => x) (fun x => x)
theorem RdrAt.gobj {w : World} {g d : Nat} {r : Rd} (h : RdrAt w g d r) : ∃ v e, w.heap[g]? = some (.cells #[.bool true, v, .int .i64 e] 141 (0, 0)) := by
  obtain ⟨A, c, h1, h2, h3, h4⟩ := h
  exact ⟨_, _, h1⟩
theorem left_at (w : World) (g d n : Nat) (xs : List UInt8) (e : Int) (h : RdrAt w g d ⟨xs, e⟩) (hl : xs.length = n) :
    Calls Try.prog 50 #[.pointer (some ⟨g, 0, none⟩)] w fun r w' => r = .returned (.int .i64 (n : Int)) ∧ w = w' := by
  subst hl; exact left_calls w g d _ h
theorem text_at (w : World) (g d : Nat) (xs t1 t2 : List UInt8) (te : Int) (h : RdrAt w g d ⟨xs, 0⟩) (hx : xs.length ≤ 140737488355328) (hT : rText 262144 ⟨xs, 0⟩ = (t1, ⟨t2, te⟩)) :
    Calls Try.prog 51 #[.pointer (some ⟨g, 0, none⟩), .int .i64 262144] w fun e w' => e = .returned (.string (mkS t1)) ∧ RdrAt w' g d ⟨t2, te⟩ ∧ Chg (One g) w w' := by
  have := text_calls w g d ⟨xs, 0⟩ 262144 (by omega) h hx
  rw [hT] at this
  exact this
theorem word_at (w : World) (g d s1 : Nat) (t2 s2 : List UInt8) (te se : Int) (h : RdrAt w g d ⟨t2, te⟩) (hS : rWord ⟨t2, te⟩ = (s1, ⟨s2, se⟩)) :
    Calls Try.prog 52 #[.pointer (some ⟨g, 0, none⟩)] w fun e w' => e = .returned (.int .u64 (s1 : Int)) ∧ RdrAt w' g d ⟨s2, se⟩ ∧ Chg (One g) w w' := by
  have := word_calls w g d ⟨t2, te⟩ h
  rw [hS] at this
  exact this
/-- The blocks of an opened journal. -/
def OS (w w' : World) (d m : Nat) (v : Value) : Nat → Prop := fun i => (i = d ∨ i = m ∨ some i = v.ownBlock) ∨ (w.heap.size ≤ i ∧ i < w'.heap.size)

set_option maxHeartbeats 6400000 in
theorem open_calls (w : World) (base d m nw : Nat) (k : ByteArray) (th : Bool) (AF : Option Addr) (nf cf : Nat) (file : List UInt8) (ps : List (List UInt8)) (wrong : Bool) (hR : Rds file ps wrong)
    (h : DiskAt w d m nw (if th then some (k, .slice AF nf cf) else none)) (ho : OwnB w base (.slice AF nf cf) file) (hl : file.length = nf) (hth : th = false → AF = none ∧ nf = 0 ∧ cf = 0) (hn : nf ≤ 4194304) (hw : nw < 9223372036850000000) (hbd : base ≤ d ∧ base ≤ m) (hbase : base ≤ w.heap.size) :
    Calls Try.prog 29 #[.pointer (some ⟨d, 0, none⟩), .string k] w fun e w' =>
      (wrong = true → e = .returned (.tuple #[.pointer none, .int .i64 8]) ∧ Chg No w w') ∧
      (wrong = false → ∃ j, e = .returned (.tuple #[.pointer (some ⟨j, 0, none⟩), .int .i64 0]) ∧ ∃ nw', nw' ≤ nw + 1 ∧ (encF ps = file → nw' = nw ∧ Chg No w w') ∧ JD w' (OS w w' d m (.slice AF nf cf)) base j d m nw' k th ps ∧ Chg (DM d m) w w' ∧ w.heap.size ≤ j) := by
  have HD := Lib.hid h
  have HO := Lib.hid ho
  have HL := Lib.hid hl
  have HTH := Lib.hid hth
  have HR := Lib.hid hR
  have hth2 : th = false → file = [] := fun ht => List.eq_nil_of_length_eq_zero (by rw [hl, (hth ht).2.1])
  have HRD := Lib.hid (dread_any w base d m nw k th AF nf cf file h ho hl hth2 (by omega))
  clear h ho hl hth hR hth2
  go_enter Try.func29, Try.ntmps29
  go_wp2
  go_step3
  go_wp2_with fail
  refine HRD.out.mono ?_
  rintro e w1 ⟨v1, er, rfl, her, ho1, hc1⟩
  obtain ⟨A1, n1, c1, rfl, HL1, HO1⟩ := ho1.form
  have HC1 := Lib.hid hc1
  clear ho1 hc1
  rcases her with rfl | rfl
  all_goals (
    go_wp2_with fail
    refine (read_calls _ A1 n1 c1 file (HO1.out.bytes.no ((Chg.refl No _).alloc _)) (by have := HL1.out; have := HL.out; omega)).mono ?_
    rintro e w2 ⟨w3, v3, rfl, rfl, ho3, hc3⟩
    obtain ⟨gd, hgd, hr3⟩ := RdrAt.made ho3 (by have := hc3.size; simpa using this)
    have hszw := HC1.out.size
    have hsz3 := hc3.size
    simp only [World.size_alloc] at hgd hsz3
    have hJ4 : JCells (w3.alloc (.cells #[.bool true, v3, .int .i64 0] 141)) w1.heap.size d k (.slice none 0 0) (.slice none 0 0) (encF []).length false :=
      (Chg.alloc hc3 _).heap (heap_alloc_new w1 _) (fun x => x)
    have hC4 : Chg No w (w3.alloc (.cells #[.bool true, v3, .int .i64 0] 141)) := ((HC1.out.alloc _).no hc3).alloc _
    have hj : w.heap.size ≤ w1.heap.size := hszw
    have hgj : w1.heap.size < w3.heap.size := by omega
    clear ho3 hc3 hszw hsz3
    have HR3 := Lib.hid hr3
    have HJ4 := Lib.hid hJ4
    have HC4 := Lib.hid hC4
    clear hr3 hJ4 hC4
    generalize w3.alloc (.cells #[.bool true, v3, .int .i64 0] 141) = w4 at *
    generalize w1.heap.size = j at *
    generalize w3.heap.size = g at *
    go_wp2
    go_step3
    go_wp2
    go_loopg [10] nf (fun gk _ wr => ∃ (done : List (List UInt8)) (rest : List UInt8) (A : Option Addr) (n c : Nat) (AP : Option Addr) (np cp : Nat), rest.length ≤ gk ∧ Hid (file = encF done ++ rest) ∧ Hid (∀ qs v, Rds rest qs v → Rds file (done ++ qs) v) ∧ Hid (RdrAt wr g gd ⟨rest, 0⟩) ∧ Hid (JCells wr j d k (.slice A n c) (.slice AP np cp) (encF done).length false) ∧ Hid (OwnB wr w.heap.size (.slice A n c) done.flatten) ∧ Hid (wr.ownsRow w.heap.size 147 2 (.slice AP np cp) np (partsC 0 done)) ∧ Hid (done.flatten.length = n) ∧ Hid (done.length = np) ∧ Hid (Chg No w wr) ∧ Hid ((∀ b, (Value.slice A n c).ownBlock = some b → b ≠ gd) ∧ (∀ b, (Value.slice AP np cp).ownBlock = some b → b ≠ gd)))
    case atStart => exact ⟨[], file, none, 0, 0, none, 0, 0, by have := HL.out; omega, rfl, fun _ _ h => h, HR3.out, HJ4.out, World.ownsRow_nil _ _ _ _, World.ownsRow_nil _ _ _ _, rfl, rfl, HC4.out, (fun b hb => by cases hb), (fun b hb => by cases hb)⟩
    case round =>
      obtain ⟨done, rest, A, n, c, AP, np, cp, hgk, HX, HK, HRr, HJ, HOA, HOP, HLA, HLP, HC, HNG⟩ := hrel
      by_cases hne : rest = []
      · subst hne
        have hstop : stepF [] = none := by simp [stepF]
        go_wp2_with fail
        refine (left_at wr g gd 0 [] 0 HRr.out rfl).mono ?_
        rintro e w' ⟨rfl, rfl⟩
        have hps : ps = done ∧ wrong = false := by
          have h2 := HR.out.unique (HK.out [] false (.stop hstop))
          rw [List.append_nil] at h2
          exact h2
        obtain ⟨rfl, rfl⟩ := hps
        have henc := HR.out.enc
        have HENC := Lib.hid henc
        have HLe : Hid ((encF ps).length ≤ nf) := by have := henc.2; rw [HL.out] at this; exact this
        have e4 := HJ.out.c4
        have hDr := HD.out.no HC.out
        obtain ⟨sz, hsz⟩ : ∃ sz, (encF ps).length = sz := ⟨_, rfl⟩
        rw [hsz] at e4
        have HS := Lib.hid hsz
        have hsn : sz ≤ nf := by have := HLe.out; omega
        have hnf1 : n1 = nf := by have := HL1.out; have := HL.out; omega
        subst hnf1
        clear hsz henc
        have HFO := Lib.hid (HO.out.chg HC.out (fun _ _ x => x))
        have hO0 := HO.out
        have HNd := Lib.hid (fun (i : Nat) (h : i = d ∨ i = m ∨ some i = (Value.slice AF n1 cf).ownBlock) => show base ≤ i ∧ i < w.heap.size from by
          rcases h with rfl | rfl | e
          · exact ⟨hbd.1, (Array.getElem?_eq_some_iff.1 HD.out.1).1⟩
          · exact ⟨hbd.2, (Array.getElem?_eq_some_iff.1 HD.out.2).1⟩
          · exact hO0.block i e.symm)
        have HDr := Lib.hid hDr
        clear hDr hO0
        rcases Nat.lt_or_ge sz n1 with hlt | hge
        · have q1 : (sz : Int) < (n1 : Int) := by omega
          have hth1 : th = true := by
            cases th
            · have := (HTH.out rfl).2.1; omega
            · rfl
          subst hth1
          have HDt : Hid (DiskAt wr d m nw (some (k, .slice AF n1 cf))) := HDr.out
          have HT := Lib.hid (truncate_calls wr d m nw k AF n1 cf sz file HDt.out hw HFO.out.bytes HL.out hlt (by omega) (fun b hb e => HDt.out.nd HFO.out (by decide) (by rw [hb, e])))
          go_wp2_with fail
          refine HT.out.mono ?_
          rintro e w6 ⟨rfl, v6, hD6, hO6, hC6⟩
          obtain ⟨A6, n6, c6, rfl, HL6, HO6⟩ := hO6.form
          have HD6 := Lib.hid hD6
          have HC6 := Lib.hid hC6
          clear hD6 hO6 hC6 HT
          go_wp2
          all_goals (try rw [Exit.noGoto_ret])
          go_ret2
          have hsz6 := HC6.out.size
          have hszr := HC.out.size
          have e6 : file.take sz = encF ps := by rw [← HS.out]; exact HENC.out.1
          have hnd : ∀ {e : TypeId} {size n base' : Nat} {v : Value} {xs : List Value}, e ≠ 88 → wr.ownsRow base' e size v n xs → ∀ b, v.ownBlock = some b → ¬ DM d m b := by
            rintro e size n base' v xs he ho b hb (rfl | rfl)
            · exact HDt.out.nd ho he hb.symm
            · exact HDt.out.nm ho hb.symm
          have hcw : Chg (DM d m) w w6 := (HC.out.mono (fun _ _ x => x.elim)).trans HC6.out (fun _ _ x => x)
          refine ⟨(fun h => by cases h), fun _ => ⟨j, rfl, nw + 1, by omega, (fun he => ?_), ?_, hcw, hj⟩⟩
          · exfalso
            have h1 := HS.out
            have h2 := HL.out
            rw [he] at h1
            omega
          · have hO7 := HO6.out
            rw [e6] at hO7
            refine ⟨A, n, c, AP, np, cp, A6, n6, c6, ?_, HD6.out, (HOA.out.chg HC6.out (hnd (by decide) HOA.out)).mono hbase, ownsRow_base (ownsRow_chg HOP.out HC6.out (hnd (by decide) HOP.out)) hbase, hO7.mono (by omega), HLA.out, HLP.out, ?_, (fun h => by cases h), ?_, ?_, ?_, ?_, ?_, ?_, ?_, ?_, by omega⟩
            · refine HC6.out.heap HJ.out ?_
              rintro (e | e)
              · exact (HJ.out.ned HDt.out).1 e
              · exact (HJ.out.ned HDt.out).2 e
            · rw [← e6]; exact HL6.out
            · intro b hb hx
              have h1 := (HOA.out.block b hb).2
              have h2 := (HO6.out.block b hx).1
              omega
            · exact fun b hb => .inr ⟨(HOA.out.block b hb).1, Nat.lt_of_lt_of_le (HOA.out.block b hb).2 hsz6⟩
            · exact fun b hb => .inr ⟨(World.ownsRow.lt HOP.out b hb).1, Nat.lt_of_lt_of_le (World.ownsRow.lt HOP.out b hb).2 hsz6⟩
            · exact fun b hb => .inr ⟨Nat.le_trans hszr (HO6.out.block b hb).1, (HO6.out.block b hb).2⟩
            · exact .inr ⟨hj, Nat.lt_of_lt_of_le HJ.out.lt hsz6⟩
            · exact .inl (.inl rfl)
            · exact .inl (.inr (.inl rfl))
            · rintro i (hi | hi)
              · have := HNd.out i hi; omega
              · omega
        · have q1 : ¬ (sz : Int) < (n1 : Int) := by omega
          go_wp2_with fail
          all_goals (try rw [Exit.noGoto_ret])
          go_ret2
          have hszr := HC.out.size
          have e6 : encF ps = file := by
            have h1 := HENC.out.1
            rw [List.take_of_length_le (by have := HS.out; have := HL.out; omega)] at h1
            exact h1.symm
          refine ⟨(fun h => by cases h), fun _ => ⟨j, rfl, nw, by omega, (fun _ => ⟨rfl, HC.out⟩), ?_, HC.out.mono (fun _ _ x => x.elim), hj⟩⟩
          refine ⟨A, n, c, AP, np, cp, AF, n1, cf, HJ.out, HDr.out, HOA.out.mono hbase, ownsRow_base HOP.out hbase, by rw [e6]; exact HFO.out, HLA.out, HLP.out, by rw [e6]; exact HL.out, (fun ht => ?_), ?_, ?_, ?_, ?_, ?_, ?_, ?_, ?_, by omega⟩
          · refine ⟨(HTH.out ht).1, (HTH.out ht).2.1, (HTH.out ht).2.2, ?_⟩
            have h0 := (HTH.out ht).2.1
            have h1 := encF_len ps
            have h2 := HS.out
            cases ps with
            | nil => rfl
            | cons a b => simp at h1; omega
          · intro b hb hx
            have h1 := (HOA.out.block b hb).1
            have h2 := HNd.out b (.inr (.inr hx.symm))
            omega
          · exact fun b hb => .inr (HOA.out.block b hb)
          · exact fun b hb => .inr (World.ownsRow.lt HOP.out b hb)
          · exact fun b hb => .inl (.inr (.inr hb.symm))
          · exact .inr ⟨hj, HJ.out.lt⟩
          · exact .inl (.inl rfl)
          · exact .inl (.inr (.inl rfl))
          · rintro i (hi | hi)
            · have := HNd.out i hi; omega
            · omega

      · have hgd2 := HRr.out.dlt hne
        have hgo := HRr.out.gobj
        obtain ⟨rl, hrl⟩ : ∃ rl, rest.length = rl := ⟨_, rfl⟩
        have HRL := Lib.hid hrl
        have hrl0 : 0 < rl := by rw [← hrl]; exact List.length_pos_iff.2 hne
        have hrln : rl ≤ nf := by
          have h1 := congrArg List.length HX.out
          rw [List.length_append, HL.out] at h1; omega
        have h0 : (0 : Int) < (rl : Int) := by omega
        have hstep := reader_step rest hne
        obtain ⟨t1, t2, te, hT⟩ : ∃ t1 t2 te, rText 262144 ⟨rest, 0⟩ = (t1, ⟨t2, te⟩) := ⟨_, _, _, rfl⟩
        have ht1 : t1.length ≤ rl := by have := rText_len 262144 ⟨rest, 0⟩; rw [hT, hrl] at this; exact this
        obtain ⟨s1, s2, se, hS⟩ : ∃ s1 s2 se, rWord ⟨t2, te⟩ = (s1, ⟨s2, se⟩) := ⟨_, _, _, rfl⟩
        rw [hT] at hstep
        simp only [hS] at hstep
        have HT := Lib.hid hT
        have HS2 := Lib.hid hS
        have HSTEP := Lib.hid hstep
        clear hT hS hstep hrl
        go_wp2_with fail
        refine (left_at wr g gd rl rest 0 HRr.out HRL.out).mono ?_
        rintro e w' ⟨rfl, rfl⟩
        go_wp2_with fail
        refine (left_at wr g gd rl rest 0 HRr.out HRL.out).mono ?_
        rintro e w' ⟨rfl, rfl⟩
        go_wp2_with fail
        refine (text_at wr g gd rest t1 t2 te HRr.out (by have := HRL.out; omega) HT.out).mono ?_
        rintro e w5 ⟨rfl, hr5, hc5⟩
        obtain ⟨c6, w6, hcv, hb6, hc6, hs6⟩ := conv_bytes w5 t1 (by omega)
        have HR6 := Lib.hid (hr5.no hc6)
        have HB6 := Lib.hid hb6
        have HC6 : Hid (Chg (One g) wr w6) := hc5.no hc6
        have hs56 := hc5.size
        clear hr5 hb6 hc6 hc5
        go_wp2_with fail
        clear hcv
        refine (word_at w6 g gd s1 t2 s2 te se HR6.out HS2.out).mono ?_
        rintro e w7 ⟨rfl, hr7, hc7⟩
        have HR7 := Lib.hid hr7
        have HC7 : Hid (Chg (One g) wr w7) := HC6.out.trans hc7 (fun _ _ x => x)
        have hb5 : w5.heap.size ≠ g := by have h1 := HRr.out.lt; omega
        have HB7 := Lib.hid (HB6.out.chg hc7 (fun b hb e => by cases hb; exact hb5 e))
        clear hr7 hc7
        have hlrg := HRr.out.lt
        have hC7 : Chg No w w7 := HC.out.one (g := g) HC7.out (.inl (by omega))
        have hjg : ¬ (One g) j := fun e => by have e : j = g := e; omega
        have hAg : ∀ b, (Value.slice A n c).ownBlock = some b → ¬ (One g) b := by
          rintro b hb rfl
          obtain ⟨v, e, ho⟩ := hgo
          obtain ⟨cc, fz, hcc⟩ := ownsRow_cells HOA.out _ hb
          have := ho.symm.trans hcc; cases this
        have hPg : ∀ b, (Value.slice AP np cp).ownBlock = some b → ¬ (One g) b := by
          rintro b hb rfl
          obtain ⟨v, e, ho⟩ := hgo
          obtain ⟨cc, fz, hcc⟩ := ownsRow_cells HOP.out _ hb
          have := ho.symm.trans hcc; cases this
        have HJ := Lib.hid (show JCells w7 j d k (.slice A n c) (.slice AP np cp) (encF done).length false from HC7.out.heap HJ.out hjg)
        have HOA := Lib.hid (HOA.out.chg HC7.out hAg)
        have HOP := Lib.hid (ownsRow_chg HOP.out HC7.out hPg)
        have HC := Lib.hid hC7
        have hsz7 := HC7.out.size
        clear hC7 HC6 HC7 HR6 HB6 hgo HT HS2
        clear hjg hAg hPg
        generalize hst : stepF rest = st at *
        have hstep := HSTEP.out
        clear HSTEP
        rcases st with _ | _ | p
        · have hstop : stepF rest = none := hst
          have h110 : (se == 110) = true := beq_iff_eq.2 hstep
          have h110' : se = 110 := hstep
          subst h110'
          clear hst hstep
          have hps : ps = done ∧ wrong = false := by
            have h2 := HR.out.unique (HK.out [] false (.stop hstop))
            rw [List.append_nil] at h2
            exact h2
          obtain ⟨rfl, rfl⟩ := hps
          have henc := HR.out.enc
          have HENC := Lib.hid henc
          have HLe : Hid ((encF ps).length ≤ nf) := by have := henc.2; rw [HL.out] at this; exact this
          have e4 := HJ.out.c4
          have hDr := HD.out.no HC.out
          obtain ⟨sz, hsz⟩ : ∃ sz, (encF ps).length = sz := ⟨_, rfl⟩
          rw [hsz] at e4
          have HS := Lib.hid hsz
          have hsn : sz ≤ nf := by have := HLe.out; omega
          have hnf1 : n1 = nf := by have := HL1.out; have := HL.out; omega
          subst hnf1
          clear hsz henc
          have HFO := Lib.hid (HO.out.chg HC.out (fun _ _ x => x))
          have hO0 := HO.out
          have HNd := Lib.hid (fun (i : Nat) (h : i = d ∨ i = m ∨ some i = (Value.slice AF n1 cf).ownBlock) => show base ≤ i ∧ i < w.heap.size from by
            rcases h with rfl | rfl | e
            · exact ⟨hbd.1, (Array.getElem?_eq_some_iff.1 HD.out.1).1⟩
            · exact ⟨hbd.2, (Array.getElem?_eq_some_iff.1 HD.out.2).1⟩
            · exact hO0.block i e.symm)
          have HDr := Lib.hid hDr
          clear hDr hO0
          rcases Nat.lt_or_ge sz n1 with hlt | hge
          · have q1 : (sz : Int) < (n1 : Int) := by omega
            have hth1 : th = true := by
              cases th
              · have := (HTH.out rfl).2.1; omega
              · rfl
            subst hth1
            have HDt : Hid (DiskAt w7 d m nw (some (k, .slice AF n1 cf))) := HDr.out
            have HT := Lib.hid (truncate_calls w7 d m nw k AF n1 cf sz file HDt.out hw HFO.out.bytes HL.out hlt (by omega) (fun b hb e => HDt.out.nd HFO.out (by decide) (by rw [hb, e])))
            go_wp2_with (go_at_call 53; refine (err_calls w7 g gd ⟨s2, 110⟩ HR7.out).mono ?_; rintro e w9 ⟨rfl, rfl⟩)
            refine HT.out.mono ?_
            rintro e w6 ⟨rfl, v6, hD6, hO6, hC6⟩
            obtain ⟨A6, n6, c6, rfl, HL6, HO6⟩ := hO6.form
            have HD6 := Lib.hid hD6
            have HC6 := Lib.hid hC6
            clear hD6 hO6 hC6 HT
            go_wp2
            all_goals (try rw [Exit.noGoto_ret])
            go_ret2
            have hsz6 := HC6.out.size
            have hszr := HC.out.size
            have e6 : file.take sz = encF ps := by rw [← HS.out]; exact HENC.out.1
            have hnd : ∀ {e : TypeId} {size n base' : Nat} {v : Value} {xs : List Value}, e ≠ 88 → w7.ownsRow base' e size v n xs → ∀ b, v.ownBlock = some b → ¬ DM d m b := by
              rintro e size n base' v xs he ho b hb (rfl | rfl)
              · exact HDt.out.nd ho he hb.symm
              · exact HDt.out.nm ho hb.symm
            have hcw : Chg (DM d m) w w6 := (HC.out.mono (fun _ _ x => x.elim)).trans HC6.out (fun _ _ x => x)
            refine ⟨(fun h => by cases h), fun _ => ⟨j, rfl, nw + 1, by omega, (fun he => ?_), ?_, hcw, hj⟩⟩
            · exfalso
              have h1 := HS.out
              have h2 := HL.out
              rw [he] at h1
              omega
            · have hO7 := HO6.out
              rw [e6] at hO7
              refine ⟨A, n, c, AP, np, cp, A6, n6, c6, ?_, HD6.out, (HOA.out.chg HC6.out (hnd (by decide) HOA.out)).mono hbase, ownsRow_base (ownsRow_chg HOP.out HC6.out (hnd (by decide) HOP.out)) hbase, hO7.mono (by omega), HLA.out, HLP.out, ?_, (fun h => by cases h), ?_, ?_, ?_, ?_, ?_, ?_, ?_, ?_, by omega⟩
              · refine HC6.out.heap HJ.out ?_
                rintro (e | e)
                · exact (HJ.out.ned HDt.out).1 e
                · exact (HJ.out.ned HDt.out).2 e
              · rw [← e6]; exact HL6.out
              · intro b hb hx
                have h1 := (HOA.out.block b hb).2
                have h2 := (HO6.out.block b hx).1
                omega
              · exact fun b hb => .inr ⟨(HOA.out.block b hb).1, Nat.lt_of_lt_of_le (HOA.out.block b hb).2 hsz6⟩
              · exact fun b hb => .inr ⟨(World.ownsRow.lt HOP.out b hb).1, Nat.lt_of_lt_of_le (World.ownsRow.lt HOP.out b hb).2 hsz6⟩
              · exact fun b hb => .inr ⟨Nat.le_trans hszr (HO6.out.block b hb).1, (HO6.out.block b hb).2⟩
              · exact .inr ⟨hj, Nat.lt_of_lt_of_le HJ.out.lt hsz6⟩
              · exact .inl (.inl rfl)
              · exact .inl (.inr (.inl rfl))
              · rintro i (hi | hi)
                · have := HNd.out i hi; omega
                · omega
          · have q1 : ¬ (sz : Int) < (n1 : Int) := by omega
            go_wp2_with (go_at_call 53; refine (err_calls w7 g gd ⟨s2, 110⟩ HR7.out).mono ?_; rintro e w9 ⟨rfl, rfl⟩)
            all_goals (try rw [Exit.noGoto_ret])
            go_ret2
            have hszr := HC.out.size
            have e6 : encF ps = file := by
              have h1 := HENC.out.1
              rw [List.take_of_length_le (by have := HS.out; have := HL.out; omega)] at h1
              exact h1.symm
            refine ⟨(fun h => by cases h), fun _ => ⟨j, rfl, nw, by omega, (fun _ => ⟨rfl, HC.out⟩), ?_, HC.out.mono (fun _ _ x => x.elim), hj⟩⟩
            refine ⟨A, n, c, AP, np, cp, AF, n1, cf, HJ.out, HDr.out, HOA.out.mono hbase, ownsRow_base HOP.out hbase, by rw [e6]; exact HFO.out, HLA.out, HLP.out, by rw [e6]; exact HL.out, (fun ht => ?_), ?_, ?_, ?_, ?_, ?_, ?_, ?_, ?_, by omega⟩
            · refine ⟨(HTH.out ht).1, (HTH.out ht).2.1, (HTH.out ht).2.2, ?_⟩
              have h0 := (HTH.out ht).2.1
              have h1 := encF_len ps
              have h2 := HS.out
              cases ps with
              | nil => rfl
              | cons a b => simp at h1; omega
            · intro b hb hx
              have h1 := (HOA.out.block b hb).1
              have h2 := HNd.out b (.inr (.inr hx.symm))
              omega
            · exact fun b hb => .inr (HOA.out.block b hb)
            · exact fun b hb => .inr (World.ownsRow.lt HOP.out b hb)
            · exact fun b hb => .inl (.inr (.inr hb.symm))
            · exact .inr ⟨hj, HJ.out.lt⟩
            · exact .inl (.inl rfl)
            · exact .inl (.inr (.inl rfl))
            · rintro i (hi | hi)
              · have := HNd.out i hi; omega
              · omega

        · have hps : ps = done ∧ wrong = true := by
            have h2 := HR.out.unique (HK.out [] true (.wrong hst))
            rw [List.append_nil] at h2
            exact h2
          obtain ⟨rfl, rfl⟩ := hps
          have b110 : (se == 110) = false := beq_eq_false_iff_ne.2 hstep.1
          have n110 : ¬ se = 110 := hstep.1
          by_cases hz : se = 0
          · subst hz
            have hs1 : s1 ≠ hashF t1 := by rcases hstep.2 with h | h; exact absurd rfl h; exact h
            obtain ⟨hh, hhh⟩ : ∃ hh, hashF t1 = hh := ⟨_, rfl⟩
            rw [hhh] at hs1
            have HH := Lib.hid hhh
            have b1 : ((s1 : Int) == (hh : Int)) = false := beq_eq_false_iff_ne.2 (fun h => hs1 (Int.ofNat.inj h))
            have b2 : ¬ ((s1 : Int) = (hh : Int)) := fun h => hs1 (Int.ofNat.inj h)
            have b3 : ((s1 : Int) != (hh : Int)) = true := by simp only [bne, b1]; rfl
            clear hst hstep hhh
            go_wp2_with (first | (go_at_call 53; refine (err_calls w7 g gd ⟨s2, 0⟩ HR7.out).mono ?_; rintro e w9 ⟨rfl, rfl⟩) | (go_at_call 40; refine (hash_calls w7 _ _ _ t1 HB7.out rfl (by omega)).mono ?_; rintro e w9 ⟨rfl, rfl⟩; rw [HH.out]))
            all_goals (try rw [Exit.noGoto_ret])
            go_ret2
            exact ⟨fun _ => ⟨rfl, HC.out⟩, fun h => by cases h⟩
          · have b0 : (se == 0) = false := beq_eq_false_iff_ne.2 hz
            clear hst hstep
            go_wp2_with (go_at_call 53; refine (err_calls w7 g gd ⟨s2, se⟩ HR7.out).mono ?_; rintro e w9 ⟨rfl, rfl⟩)
            all_goals (try rw [Exit.noGoto_ret])
            go_ret2
            exact ⟨fun _ => ⟨rfl, HC.out⟩, fun h => by cases h⟩
        · obtain ⟨h1, h2, h3⟩ := hstep
          simp only [Rd.mk.injEq] at h1
          obtain ⟨rfl, rfl⟩ := h1
          subst h3
          subst h2
          obtain ⟨q1, q2, q3, q4, q5, q6, q7, q8, q9⟩ := step_rec hst
          obtain ⟨q, hq⟩ : ∃ q, (recF t1).length = q := ⟨_, rfl⟩
          have hql : q ≤ rl := by rw [← hq, q9]; have := HRL.out; omega
          have hq0 : 0 < q := by have := recF_len0 t1; omega
          have hdl : (rest.drop (recF t1).length).length = rl - q := by rw [List.length_drop, HRL.out, hq]
          have HDL := Lib.hid hdl
          have HQ := Lib.hid hq
          have HST := Lib.hid hst
          have HSP := Lib.hid (step_split hst)
          have HTL : Hid (t1.length ≤ 262144) := q4
          have hb1 : ((hashF t1 : Int) == (hashF t1 : Int)) = true := beq_self_eq_true _
          have hsum : (encF done).length + q ≤ nf := by
            have h1 := congrArg List.length HX.out
            rw [List.length_append, HL.out] at h1
            have := HRL.out
            omega
          have hpl := encF_len done
          obtain ⟨tl, htl⟩ : ∃ tl, t1.length = tl := ⟨_, rfl⟩
          have HT1 := Lib.hid htl
          rw [htl] at HB7 ht1 ⊢
          clear q1 q2 q3 q4 q5 q6 q7 q8 q9 hst hq hdl
          clear htl
          obtain ⟨hh, hhh⟩ : ∃ hh, hashF t1 = hh := ⟨_, rfl⟩
          rw [hhh] at hb1 ⊢
          have HH := Lib.hid hhh
          clear hhh
          go_wp2_with (first | (go_at_call 53; refine (err_calls w7 g gd ⟨_, 0⟩ HR7.out).mono ?_; rintro e w9 ⟨rfl, rfl⟩) | (go_at_call 40; refine (hash_calls w7 _ _ _ t1 HB7.out HT1.out (by omega)).mono ?_; rintro e w9 ⟨rfl, rfl⟩; rw [HH.out]) | (go_at_call 50; refine (left_at w7 g gd (rl - q) _ 0 HR7.out HDL.out).mono ?_; rintro e w9 ⟨rfl, rfl⟩))
          have hv : (rl : Int) - ((rl - q : Nat) : Int) = (q : Int) := by omega
          rw [hv]
          have HLA2 := HLA.out
          have hnn : n ≤ nf := by omega
          have hnp : np ≤ nf := by have := HLP.out; omega
          refine (add_calls w7 w.heap.size j d k A (some ⟨w5.heap.size, 0, none⟩) AP n c tl c6 np cp (encF done).length q done t1 HJ.out HOA.out HOP.out HLA.out HB7.out HT1.out (by omega) (by omega) (by omega) HC.out.size).mono ?_
          rintro e w8 ⟨rfl, va', vp', hj8, ho8, hp8, hc8, hfa, hfp⟩
          obtain ⟨AN, nn, cn, rfl, HLN, HON⟩ := ho8.form
          obtain ⟨AQ, cq, rfl⟩ := ownsRow_form hp8
          have hge : ∀ i, JS j (.slice A n c) (.slice AP np cp) i → w.heap.size ≤ i := by
            rintro i (rfl | e | e)
            · exact hj
            · exact (HOA.out.block i e.symm).1
            · exact (World.ownsRow.lt HOP.out i e.symm).1
          have HC8 : Hid (Chg No w w8) := HC.out.trans hc8 (fun i hi hx => by have := hge i hx; omega)
          have hjs : ∀ i, (∃ v e, w7.heap[i]? = some (.cells #[.bool true, v, .int .i64 e] 141 (0, 0))) → ¬ JS j (.slice A n c) (.slice AP np cp) i := by
            rintro i ⟨v, e, ho⟩ (rfl | h | h)
            · have := ho.symm.trans (show w7.heap[i]? = _ from HJ.out); cases this
            · obtain ⟨cc, fz, hcc⟩ := ownsRow_cells HOA.out i h.symm
              have := ho.symm.trans hcc; cases this
            · obtain ⟨cc, fz, hcc⟩ := ownsRow_cells HOP.out i h.symm
              have := ho.symm.trans hcc; cases this
          have hgdn : ¬ JS j (.slice A n c) (.slice AP np cp) gd := by
            rintro (e | e | e)
            · omega
            · exact HNG.out.1 gd e.symm rfl
            · exact HNG.out.2 gd e.symm rfl
          have HR8 := Lib.hid (HR7.out.chg hc8 (hjs g HR7.out.gobj) hgdn)
          have HNG8 : Hid ((∀ b, (Value.slice AN nn cn).ownBlock = some b → b ≠ gd) ∧ (∀ b, (Value.slice AQ (np + 1) cq).ownBlock = some b → b ≠ gd)) := by
            constructor
            · intro b hb
              rcases hfa b hb with e | e
              · exact HNG.out.1 b e
              · omega
            · intro b hb
              rcases hfp b hb with e | e
              · exact HNG.out.2 b e
              · omega
          have HJ8 : Hid (JCells w8 j d k (.slice AN nn cn) (.slice AQ (np + 1) cq) (encF (done ++ [t1])).length false) := by
            have h := hj8
            rw [show (encF done).length + q = (encF (done ++ [t1])).length from by rw [encF_snoc, List.length_append, HQ.out]] at h
            exact h
          have HP8 := Lib.hid hp8
          clear hj8 ho8 hp8 hc8 hfa hfp hjs hge hgdn
          go_wp2
          go_roundg (rl - q)
          case measure => have := HRL.out; omega
          case rel =>
            refine ⟨done ++ [t1], _, AN, nn, cn, AQ, np + 1, cq, Nat.le_of_eq HDL.out, ?_, ?_, HR8.out, HJ8.out, HON.out, HP8.out, HLN.out, ?_, HC8.out, HNG8.out⟩
            · show file = _
              rw [encF_snoc, List.append_assoc, ← HSP.out]
              exact HX.out
            · intro qs v hq2
              have := HK.out (t1 :: qs) v ⟨HST.out, hq2⟩
              rw [List.append_assoc]
              exact this
            · show (done ++ [t1]).length = np + 1
              rw [List.length_append, HLP.out]; rfl)

end Go.Proofs.Ytccphnkdnifpfaa


namespace Go.Proofs.Ytccphnkdnifpfaa
set_option linter.unnecessarySimpa false
open Go.RowKit
set_option linter.unusedVariables false
set_option linter.unusedSimpArgs false

section
variable {F : Fence} {n : Nat} {P : Program} {α : Type}

/-- What an iterator promises: C says, in the world of the round, what is handed on behind those of pre. -/
def SeqC (F : Fence) (n : Nat) (P : Program) (g : Nat) (lb : Array Value) (encs : α → Array Value) (C : List α → α → World → Prop) (Kp : World → World → Prop) (S : List α → Prop) (w : World) : Prop :=
  ∀ (l : Nat) (J : List α → World → Prop) (Jx : World → Prop) (W : World), Below w.heap.size w W → AbidesFrom W.heap.size J → AbidesFrom W.heap.size (fun (_ : Unit) => Jx) →
    (∀ pre x V, J pre V → C pre x V → YieldAt F (n - 1) P l (encs x) V fun e V' => (e = .returned (.bool true) ∧ J (pre ++ [x]) V' ∧ Kp V V') ∨ (e = .returned (.bool false) ∧ Jx V')) →
    J [] W → CallsIn F n P g (#[.func (.yield l) #[] #[]] ++ lb) W fun e W' => (∃ v, e = .returned v) ∧ ((∃ xs, S xs ∧ J xs W') ∨ Jx W')

/-- How a round may end: it goes on, or returns. -/
def roundC (B : Nat) (Kp : World → World → Prop) (I : World → Prop) (Ix : World → Prop) (W : World) : Exit → Act → World → Prop
  | .normal, _, W' => KeepsFrom B W W' ∧ Kp W W' ∧ I W'
  | .ret, _, W' => KeepsFrom B W W' ∧ Ix W'
  | _, _, _ => False

theorem wpIn_rangeFunc_C {g : Operand} {ps : Array Tmp} {assign body : Code} {Q : Exit → Act → World → Prop} {a : Act} {w : World}
    (hro : F.round = none) (h1 : 1 ≤ n) {gf : Nat} {lb : Array Value} (hg : a.eval g = .func (.func gf) #[] lb) (hFg : F.fn gf) (eg : ∀ args w, (callFunc gf args).run P w = .ok (.enter gf args) w)
    {encs : α → Array Value} {C : List α → α → World → Prop} {Kp : World → World → Prop} {S : List α → Prop} (hseq : SeqC F (n - 1) P gf lb encs C Kp S w)
    (hKt : ∀ {A B C : World}, Kp A B → Kp B C → Kp A C) (hKb : ∀ (W : World) (l : Nat) (o o' : Obj), w.heap.size ≤ l → W.heap[l]? = some o → o.isCells = false → o.isWalk = false → Kp W (W.putObj l o')) (hps : ∀ x, (encs x).size = ps.size)
    (hC : ∀ pre, OwnFrom w.heap.size (C pre)) (I : List α → World → Prop) (Ix : World → Prop) (hI : OwnFrom w.heap.size I) (hIx : OwnFrom w.heap.size (fun (_ : Unit) => Ix)) (h0 : I [] w) (a₁ : α → Act)
    (hassign : ∀ (l : Nat) (x : α) (W : World) (K : Act → World → Prop), K (a₁ x) W →
      assign.wpIn (F.inRound l) (n - 1 - 1) P (Exit.then K (fun _ _ _ => False)) { tmps := (ps.zip (encs x)).foldl (fun t (p, v) => t.setIfInBounds p v) a.tmps, defers := [] } W)
    (hbody : ∀ (l : Nat) (pre : List α) (x : α) (W : World), I pre W → C pre x W → body.wpIn (F.inRound l) (n - 1 - 1) P (roundC w.heap.size Kp (I (pre ++ [x])) Ix W) (a₁ x) W)
    (hdone : ∀ (D : Nat) (xs : List α) (W : World), w.heap.size ≤ D → S xs → I xs W → W.heap[D]? = some (.deferred (some [])) → Q .normal { a with defers := { target := .collected D, args := #[] } :: a.defers } W)
    (hstop : ∀ (D : Nat) (W : World), w.heap.size ≤ D → Ix W → W.heap[D]? = some (.deferred (some [])) → Code.ret.wpIn F n P Q { a with defers := { target := .collected D, args := #[] } :: a.defers } W) :
    (Code.rangeFunc g ps assign body).wpIn F n P Q a w := by
  refine wpIn_rangeFunc fun fn hfn => ?_
  rw [hro]
  obtain ⟨B, hBd⟩ : ∃ B, w.heap.size = B := ⟨_, rfl⟩
  let rc : LoopState → Option Code → Loop := fun st pe => { state := st, pending := pe, fn, tmps := a.tmps, params := ps, assign, body, defers := w.heap.size }
  let V0 := (w.alloc (.deferred (some []))).alloc (.loop (rc .ready none))
  have kD : V0.heap[w.heap.size]? = some (.deferred (some [])) := (Below.heap_alloc _ _ _ (by simp)).trans (World.alloc_heap_new w _)
  have kL : V0.heap[w.heap.size + 1]? = some (.loop (rc .ready none)) := by
    have := World.alloc_heap_new (w.alloc (.deferred (some []))) (.loop (rc .ready none)); rwa [World.size_alloc] at this
  have kB : Below w.heap.size w V0 := ((Below.refl _ w).alloc (Nat.le_refl _) _).alloc (by simp) _
  have kS : V0.heap.size = w.heap.size + 2 := by simp only [V0, World.size_alloc]
  refine ⟨w.heap.size + 1, [{ target := .collected w.heap.size, args := #[] }], V0, { target := .fn (.func gf) lb, args := #[.func (.yield (w.heap.size + 1)) #[] #[]] }, V0, gf,
    #[.func (.yield (w.heap.size + 1)) #[] #[]] ++ lb, V0, run_enterLoop_outer _ _ _ _ _, by simp only [resolve, hg]; simp [go_sem], ?_, by simp [invoke, go_sem, eg], fun _ => h1, ?_⟩
  · intro f' hf'; simp [Target.leads] at hf'; subst hf'; exact hFg
  -- the loop's two blocks lie through whatever changes no block of theirs
  have keepW : ∀ {A A' : World} {row : Option Nat}, A.grownBy A' row → (∀ r, row = some r → V0.heap.size ≤ r ∧ ∃ o : Obj, A.heap[r]? = some o ∧ o.isWalk = true) → ∀ {k : Nat} {o : Obj}, o.isWalk = false → A.heap[k]? = some o → A'.heap[k]? = some o := by
    intro A A' row hgr hr k o ho hk
    exact (grownBy_keeps hgr (fun r e => (hr r e).2) hk ho).trans hk
  have nc : ∀ {A : World} {row : Option Nat}, (∀ r, row = some r → V0.heap.size ≤ r ∧ ∃ o : Obj, A.heap[r]? = some o ∧ o.isWalk = true) → ∀ r, row = some r → w.heap.size ≤ r ∧ ∃ o : Obj, A.heap[r]? = some o ∧ o.isCells = false := by
    intro A row hr r e
    obtain ⟨h, o, ho, hw⟩ := hr r e
    exact ⟨by omega, o, ho, Obj.not_cells_of_walk hw⟩
  refine (hseq (w.heap.size + 1) (fun pre V => I pre V ∧ V.heap[w.heap.size + 1]? = some (.loop (rc .ready none)) ∧ V.heap[w.heap.size]? = some (.deferred (some [])))
    (fun V => Ix V ∧ V.heap[w.heap.size + 1]? = some (.loop (rc .done (some .ret))) ∧ V.heap[w.heap.size]? = some (.deferred (some []))) V0 kB
    (fun s A A' row hs hgr hr => ⟨hI s A A' row hs.1 hgr (nc hr), keepW hgr hr rfl hs.2.1, keepW hgr hr rfl hs.2.2⟩)
    (fun s A A' row hs hgr hr => ⟨hIx s A A' row hs.1 hgr (nc hr), keepW hgr hr rfl hs.2.1, keepW hgr hr rfl hs.2.2⟩)
    ?round ⟨hI.alloc _ (hI.alloc _ h0), kL, kD⟩).mono ?behind
  case behind =>
    rintro e V ⟨⟨v, rfl⟩, (⟨xs, hS, hi, hl, hd⟩ | ⟨hi, hl, hd⟩)⟩
    · exact ⟨none, _, run_endLoop hl (by simp [rc]), hdone _ xs _ (Nat.le_refl _) hS (hI.putObj _ hi (by omega) hl rfl) ((World.putObj_heap_other (by omega)).trans hd)⟩
    · exact ⟨some .ret, _, run_endLoop hl (by simp [rc]), hstop _ _ (Nat.le_refl _) (hIx.putObj (s := ()) _ hi (by omega) hl rfl) ((World.putObj_heap_other (by omega)).trans hd)⟩
  rintro pre x V ⟨hi, hl, hd⟩ hc
  have hlt : w.heap.size + 1 < V.heap.size := (Array.getElem?_eq_some_iff.1 hl).1
  refine ⟨fn, _, assign, body, run_yield hl (hps x), roundIn_of_wpIn hfn (hassign _ x V _ ⟨_, run_beginRound hl rfl, ?_⟩)⟩
  let V1 := V.putObj (w.heap.size + 1) (.loop { rc .ready none with state := .busy })
  have jl : V1.heap[w.heap.size + 1]? = some (.loop { rc .ready none with state := .busy }) := World.putObj_heap_same hlt
  have jd : V1.heap[w.heap.size]? = some (.deferred (some [])) := (World.putObj_heap_other (by omega)).trans hd
  refine wpIn_mono (hbody _ pre x V1 (hI.putObj _ hi (by omega) hl rfl) ((hC pre).putObj (s := x) _ hc (by omega) hl rfl)) fun e a3 V3 hp => ?_
  have fin : ∀ jump : Option Code, KeepsFrom w.heap.size V1 V3 → (Instr.endRound (w.heap.size + 1) jump).run P V3 = .ok (.bool jump.isNone) (V3.putObj (w.heap.size + 1) (.loop (rc (if jump.isNone then .ready else .done) jump))) ∧
      V3.heap[w.heap.size + 1]? = some (.loop { rc .ready none with state := .busy }) ∧ (V3.putObj (w.heap.size + 1) (.loop (rc (if jump.isNone then .ready else .done) jump))).heap[w.heap.size + 1]? = some (.loop (rc (if jump.isNone then .ready else .done) jump)) ∧
      (V3.putObj (w.heap.size + 1) (.loop (rc (if jump.isNone then .ready else .done) jump))).heap[w.heap.size]? = some (.deferred (some [])) := fun jump hk => by
    have h3 := hk.same _ _ (by omega) jl rfl
    exact ⟨run_endRound jump h3, h3, World.putObj_heap_same (Array.getElem?_eq_some_iff.1 h3).1, (World.putObj_heap_other (by omega)).trans (hk.same _ _ (Nat.le_refl _) jd rfl)⟩
  cases e with
  | normal =>
    obtain ⟨hr, h3, h4, h5⟩ := fin none hp.1
    exact ⟨_, _, hr, .inl ⟨rfl, ⟨hI.putObj _ hp.2.2 (by omega) h3 rfl, h4, h5⟩, hKt (hKt (hKb _ _ _ _ (by omega) hl rfl rfl) hp.2.1) (hKb _ _ _ _ (by omega) h3 rfl rfl)⟩⟩
  | ret =>
    obtain ⟨hr, h3, h4, h5⟩ := fin (some .ret) hp.1
    exact ⟨_, _, hr, .inr ⟨rfl, hIx.putObj (s := ()) _ hp.2 (by omega) h3 rfl, h4, h5⟩⟩
  | exit id => exact hp.elim
  | goto t => exact hp.elim
  | panic ch => exact hp.elim
  | outgrown => exact hp.elim

/-- No operation of a region defers a call. -/
def noDefer (ops : Array Oper) : Bool := ops.all fun o => match o.op with | .defer _ => false | _ => true
theorem noDefer_at {ops : Array Oper} (h : noDefer ops = true) {i : Nat} {o : Oper} (ho : ops[i]? = some o) (c : Call) : o.op ≠ .defer c := by
  intro e
  have := (Array.all_eq_true_iff_forall_mem.1 h) o (Array.mem_of_getElem? ho)
  rw [e] at this
  cases this
theorem uponIn_inRound (l : Nat) {o : Oper} {a : Act} {K : Act → World → Prop} {Q : Exit → Act → World → Prop} : ∀ r : Result Next, o.uponIn F n P a K Q r → o.uponIn (F.inRound l) n P a K Q r
  | .ok (.value _) _, h => h
  | .ok .skip _, h => h
  | .ok (.defer _) _, h => h
  | .ok (.enter _ _) _, h => h
  | .ok (.row _ _) _, h => h
  | .ok (.round _ _ _ _ _) _, h => h
  | .halt _ _, h => h
theorem wpOpIn_inRound {ops : Array Oper} (hro : F.round = none) (hd : noDefer ops = true) (l : Nat) {i : Nat} {a : Act} {w : World} {K K' : Act → World → Prop} {Q : Exit → Act → World → Prop} (hK : ∀ a w, K a w → K' a w) (h : wpOpIn F n P ops Q i K a w) : wpOpIn (F.inRound l) n P ops Q i K' a w := by
  have h := wpOpIn_mono hK h
  unfold wpOpIn at h ⊢
  split at h
  · exact h
  · rename_i o ho
    split at h
    · rename_i hw
      rw [if_pos hw]
      refine ⟨h.1, uponIn_inRound l _ ?_⟩
      have := h.2
      rw [Oper.semAt_eq _ _ _ (noDefer_at hd ho)] at this ⊢
      exact this
    · rename_i hw
      rw [if_neg hw]
      exact h
theorem wpAnyIn_inRound {ops : Array Oper} {md : Region.Mode} (hro : F.round = none) (hd : noDefer ops = true) (l : Nat) {Q : Exit → Act → World → Prop} : ∀ (fuel : Nat) (listed : Array Bool) (a : Act) (w : World), wpAnyIn F n P md ops Q fuel listed a w → wpAnyIn (F.inRound l) n P md ops Q fuel listed a w
  | 0, _, _, _, h => h
  | fuel + 1, _, _, _, h => ⟨h.1, fun i hi => wpOpIn_inRound hro hd l (fun a' w' => wpAnyIn_inRound hro hd l fuel _ a' w') (h.2 i hi)⟩
/-- A region of a round that only reads: walked once, in the text's order. -/
theorem wpIn_region_quiet_round {id : Nat} {Q : Exit → Act → World → Prop} {a : Act} {w : World} {l : List Oper} (r : Nat) (hro : F.round = none) (hm : P.follows .mixedOrders = true) (hB : Region.lexB .any l.toArray = true) (hd : noDefer l.toArray = true)
    (h : wpQuietIn F n P l.toArray (fun w' => ∃ n, w' = w.drewN n) (fun a' => ∀ w', (∃ n, w' = w.drewN n) → Q .normal a' w') l a) : (Code.region id l.toArray true).wpIn (F.inRound r) n P Q a w := by
  simp only [Region.lexB, Bool.and_eq_true] at hB
  refine wpIn_region_any hm (wpAnyIn_inRound hro hd r _ _ _ _ (wpAnyIn_of_quiet (C := fun w' => ∃ n, w' = w.drewN n) (Q := fun a' => ∀ w', (∃ n, w' = w.drewN n) → Q .normal a' w') hro (fun _ w' hw' h => h w' hw') _ _ _ _ ⟨1, rfl⟩ ?_))
  have := wpAnyQIn_lex (F := F) (n := n) (C := fun w' => ∃ n, w' = w.drewN n) (md := .any) hB.1 l 0 (Array.replicate l.length false) a (by simp) (by simpa using hB.2) h
  simpa using this
theorem asked_wide {o : Oper} {a : Act} {C : World → Prop} : o.askedIn Fence.wide P a C := fun _ _ _ _ => trivial
end
end Go.Proofs.Ytccphnkdnifpfaa

namespace Go.Proofs.Ytccphnkdnifpfaa
set_option linter.unnecessarySimpa false
open Go.RowKit Go.Shelf
set_option linter.unusedVariables false
set_option linter.unusedSimpArgs false
set_option maxRecDepth 100000

attribute [local go_sem] Oper.semAt_some

theorem Chg.grownNone {w w' : World} (h : Chg No w w') : w.grownBy w' none := ⟨h.os, h.tape, h.output, h.size, fun k hk _ => h.block k hk (fun x => x)⟩
theorem Chg.ofBelowN {n₀ : Nat} {w w' : World} (h : Below n₀ w w') : Chg (fun i => n₀ ≤ i) w w' := ⟨h.os, h.tape, h.output, h.size, fun k hk hn => h.block k (by omega)⟩
theorem OwnB.own {β : Type} {base : Nat} {v : Value} {xs : List UInt8} : Own (fun (_ : β) W => OwnB W base v xs) := by
  intro s W W' row h hg hr
  obtain ⟨h1, h2⟩ := h
  refine ⟨h1, h2.imp id ?_⟩
  rintro ⟨g, cap, cur, rfl, hbg, hh, r⟩
  refine ⟨g, cap, cur, rfl, hbg, ?_, r⟩
  refine (hg.block g (Array.getElem?_eq_some_iff.1 hh).1 (fun e => ?_)).trans hh
  obtain ⟨o, ho, hc⟩ := hr g e.symm
  rw [hh] at ho; cases ho; cases hc

/-- What is handed on: a number, a slice, and its bytes. -/
abbrev Rc := Nat × Value × List UInt8
abbrev rcs (x : Rc) : Array Value := #[.int .i64 (x.1 : Int), x.2.1]
def RcAt (n₀ : Nat) (ps : List (List UInt8)) (pre : List Rc) (x : Rc) (W : World) : Prop :=
  x.1 = pre.length ∧ pre.map (·.2.2) = ps.take pre.length ∧ ps[pre.length]? = some x.2.2 ∧ OwnB W n₀ x.2.1 x.2.2

/-- What a round keeps: what lies below n₀, and the box that the iterator reads. -/
def KeepsEach (n₀ B : Nat) (v : Value) (W W' : World) : Prop := Below n₀ W W' ∧ (Boxed W B 80 v → Boxed W' B 80 v)
theorem keepsEach_t {n₀ B : Nat} {v : Value} {X Y Z : World} (h : KeepsEach n₀ B v X Y) (k : KeepsEach n₀ B v Y Z) : KeepsEach n₀ B v X Z := ⟨h.1.trans k.1, fun x => k.2 (h.2 x)⟩
theorem keepsEach_b {n₀ B : Nat} {v : Value} {w : World} (hn : n₀ ≤ w.heap.size) (W : World) (l : Nat) (o o' : Obj) (hl : w.heap.size ≤ l) (h : W.heap[l]? = some o) (hc : o.isCells = false) (hw : o.isWalk = false) : KeepsEach n₀ B v W (W.putObj l o') :=
  ⟨belowK_b hn W l o o' hl h hc hw, fun x => (World.putObj_heap_other (fun e => by subst e; have e := (show W.heap[_]? = _ from x).symm.trans h; cases e; cases hc)).trans x⟩

set_option maxHeartbeats 2000000 in
theorem each_seq (n : Nat) (hn : 1 ≤ n) (n₀ : Nat) (w : World) (S : Nat → Prop) (base j d m nw : Nat) (k : ByteArray) (th : Bool) (ps : List (List UInt8)) (h : JD w S base j d m nw k th ps) (he : (encF ps).length ≤ 4194304) (B : Nat) (hB : Boxed w B 80 (.pointer (some ⟨j, 0, none⟩)))
    (hn0 : n₀ ≤ w.heap.size) (hS : ∀ i, S i → i < n₀) :
    SeqC Fence.wide n Try.prog 64 #[.pointer (some ⟨B, 0, none⟩)] rcs (RcAt n₀ ps) (KeepsEach n₀ B (.pointer (some ⟨j, 0, none⟩))) (fun xs => xs.map (·.2.2) = ps) w := fun l J Jx W hW0 hJ hJx hY h0 => by
  have hBw : B < w.heap.size := (Array.getElem?_eq_some_iff.1 (show w.heap[B]? = _ from hB)).1
  have hBB : Boxed W B 80 (.pointer (some ⟨j, 0, none⟩)) := (hW0.block B hBw).trans hB
  have hW := hW0.mono hn0
  have HJD := Lib.hid (fun V hV => h.chg (Chg.ofBelowN (n₀ := n₀) (w' := V) hV) (fun i hi => by have := hS i hi; omega))
  have hpl := encF_len ps
  have hplen : ps.length ≤ 4194304 := by omega
  have HY := Lib.hid hY
  have HJ := Lib.hid hJ
  have e0 := hBB.cell
  have HBB := Lib.hid hBB
  clear hY hJ hpl hBB
  refine callsIn_of_wp Try.func64 rfl trivial ?_ rfl
  simp only [Try.ntmps64, List.size_toArray, List.length_cons, List.length_nil, Nat.reduceAdd, Nat.reduceSub, Array.replicate_succ, Array.replicate_zero, List.push_toArray, List.append_toArray, List.nil_append, List.cons_append]
  gi_wp2_with (refine ⟨trivial, ?_⟩; gi_at_call 38; refine (callsIn_wide.2 (jlen_calls _ S base j d m nw k th ps (HJD.out _ hW))).mono ?_; rintro e w' ⟨rfl, rfl⟩)
  gi_loopw [6] (fun i V => ∃ pre : List Rc, pre.length ≤ ps.length ∧ i = .int .i64 (pre.length : Int) ∧ Hid (pre.map (·.2.2) = ps.take pre.length) ∧ Hid (Boxed V B 80 (.pointer (some ⟨j, 0, none⟩))) ∧ Below n₀ w V ∧ J pre V)
    (fun i _ => ps.length - (intOf i).toNat)
  case atStart => exact ⟨[], Nat.zero_le _, rfl, rfl, HBB.out, hW, h0⟩
  case round =>
    obtain ⟨pre, hpre, rfl, HM, HBV, hV, hJV⟩ := hrel
    by_cases hlt : pre.length < ps.length
    · have i1 : (pre.length : Int) < (ps.length : Int) := by omega
      have e1 := HBV.out.cell
      have hVs := hV.size
      have hnV : n₀ ≤ wr.heap.size := Nat.le_trans hn0 hVs
      gi_wp2_with (refine ⟨trivial, ?_⟩; gi_at_call 65; refine (callsIn_wide.2 (payload_calls _ S base j d m nw k th ps pre.length hlt (HJD.out _ hV) he)).mono ?_; rintro e w1 ⟨v, rfl, ho, hc⟩)
      have hb1 : Below n₀ w w1 := hV.trans ((Chg.below hc).mono hnV)
      have HB1 := Lib.hid (hc.heap HBV.out (fun x => x))
      have hJ1 := HJ.out _ _ _ none hJV hc.grownNone (fun _ e => by cases e)
      obtain ⟨A, q, c, rfl, HL, HO⟩ := ho.form
      have hR : RcAt n₀ ps pre (pre.length, .slice A q c, ps[pre.length]) w1 := ⟨rfl, HM.out, by rw [List.getElem?_eq_getElem hlt], HO.out.mono hnV⟩
      obtain ⟨fn, tmps, assign, body, hy, hR⟩ := HY.out pre _ w1 hJ1 hR
      dsimp only [rcs] at hy
      clear hc ho
      gi_wp2
      rw [hy]
      gi_wp2
      refine hR.mono ?_
      rintro e W3 (⟨rfl, hJ3, hk3⟩ | ⟨rfl, hJx3⟩)
      · clear hy hR
        gi_wp2
        go_roundw
        case rel =>
          refine ⟨pre ++ [(pre.length, .slice A q c, ps[pre.length])], by simp; omega, by simp, ?_, hk3.2 HB1.out, hb1.trans hk3.1, hJ3⟩
          have e := HM.out
          show List.map _ _ = _
          rw [List.map_append, e, List.length_append]
          show _ = List.take (pre.length + 1) ps
          rw [List.take_succ_eq_append_getElem hlt]
          rfl
        case measure => simp only [intOf]; omega
      · clear hy hR
        gi_wp2
        refine bodyPost_ret (results_none rfl _ _ _) rfl ?_
        exact ⟨⟨_, rfl⟩, .inr hJx3⟩
    · have i1 : ¬ ((pre.length : Int) < (ps.length : Int)) := by omega
      have hpe : pre.length = ps.length := by omega
      have HX : Hid (pre.map (·.2.2) = ps) := by rw [Hid, HM.out, hpe, List.take_length]
      clear hpe
      gi_wp2
      go_end0
      exact ⟨⟨_, rfl⟩, .inl ⟨pre, HX.out, hJV⟩⟩
end Go.Proofs.Ytccphnkdnifpfaa

namespace Go.Proofs.Ytccphnkdnifpfaa
set_option linter.unnecessarySimpa false
open Go.RowKit Go.Shelf
set_option linter.unusedVariables false
set_option linter.unusedSimpArgs false
set_option maxRecDepth 100000

attribute [local go_sem] Oper.semAt_some

/-- A slice of slices of bytes. -/
def Sl2 (w : World) (v : Value) (ls : List (List UInt8)) : Prop :=
  ∃ vs : List Value, vs.length = ls.length ∧ Holds w v ls.length vs ∧ ∀ i (h : i < vs.length) (h' : i < ls.length), Bytes w vs[i] ls[i]
theorem Sl2.chg {S : Nat → Prop} {w w' : World} {v : Value} {ls : List (List UInt8)} (h : Sl2 w v ls) (hc : Chg S w w') (hs : ∀ i, i < w.heap.size → S i → False) : Sl2 w' v ls := by
  obtain ⟨vs, h1, h2, h3⟩ := h
  have hc' : Chg No w w' := hc.mono (fun i hi hx => hs i hi hx)
  exact ⟨vs, h1, h2.no hc', fun i hi hi' => (h3 i hi hi').no hc'⟩
theorem Sl2.form {w : World} {v : Value} {ls : List (List UInt8)} (h : Sl2 w v ls) : ∃ L n c, v = .slice L n c ∧ Hid (ls.length = n) ∧ Hid (Sl2 w (.slice L n c) ls) := by
  obtain ⟨vs, h1, h2, h3⟩ := h
  obtain ⟨A, c, rfl, hx⟩ := h2
  exact ⟨A, _, c, rfl, rfl, vs, h1, ⟨A, c, rfl, hx⟩, h3⟩
theorem Sl2.get {w : World} {L : Option Addr} {n c : Nat} {ls : List (List UInt8)} (h : Sl2 w (.slice L n c) ls) (hp : 0 < ls.length) :
    ∃ b o, L = some ⟨b, o, none⟩ ∧ ∀ i (hi : i < ls.length), ∃ A q cc, w.cell? ⟨b, o + i, none⟩ = some (.slice A q cc) ∧ Bytes w (.slice A q cc) ls[i] ∧ Hid (ls[i].length = q) := by
  obtain ⟨vs, h1, ⟨A', c', he, hn, hm, hx⟩, h3⟩ := h
  simp only [Value.slice.injEq] at he
  obtain ⟨rfl, rfl, rfl⟩ := he
  obtain ⟨b, o, rfl, hc⟩ := hx (by omega)
  refine ⟨b, o, rfl, fun i hi => ?_⟩
  have hb := h3 i (by omega) hi
  have hg := hc i vs[i] (List.getElem?_eq_getElem (by omega))
  obtain ⟨A, cc, he, _⟩ := hb.form
  rw [he] at hg hb
  exact ⟨A, _, cc, hg, hb, rfl⟩

theorem rcAt_own (n₀ : Nat) (ps : List (List UInt8)) (B : Nat) (pre : List Rc) : OwnFrom B (RcAt n₀ ps pre) := by
  intro x W W' row h hg hr
  exact ⟨h.1, h.2.1, h.2.2.1, OwnB.own (β := Unit) () W W' row h.2.2.2 hg (fun r e => (hr r e).2)⟩

end Go.Proofs.Ytccphnkdnifpfaa

namespace Go.Proofs.Ytccphnkdnifpfaa
set_option linter.unnecessarySimpa false
open Go.RowKit
set_option linter.unusedVariables false
set_option linter.unusedSimpArgs false

theorem scale_step (k : Nat) (hk : k < 9) : IntKind.u64.wrap (((128 ^ k : Nat) : Int) * 128) = ((128 ^ (k + 1) : Nat) : Int) := by
  have h := pow128_le (k + 1) (by omega)
  have e : (((128 ^ k : Nat) : Int) * 128) = ((128 ^ (k + 1) : Nat) : Int) := by rw [Nat.pow_succ]; simp
  rw [e, wrap_u64_nat _ (by omega)]
theorem scale_add (k y u : Nat) (hk : k ≤ 9) (hy : y < 128 ^ k) (hu : u < 256) (h9 : k = 9 → u ≤ 1) :
    IntKind.u64.wrap ((y : Int) + IntKind.u64.wrap (((u : Int) % 128) * ((128 ^ k : Nat) : Int))) = ((y + u % 128 * 128 ^ k : Nat) : Int) := by
  have e : (u : Int) % 128 = ((u % 128 : Nat) : Int) := by simp
  rw [e]
  have hb : y + u % 128 * 128 ^ k < 18446744073709551616 := by
    rcases Nat.lt_or_ge k 9 with h | h
    · have h1 := acc_lt k y u hy
      have h2 := pow128_le (k + 1) (by omega)
      omega
    · have h9' : k = 9 := by omega
      have hu1 := h9 h9'
      subst h9'
      have h3 : (128 : Nat) ^ 9 = 9223372036854775808 := by decide
      have h4 : u % 128 ≤ 1 := by omega
      have := Nat.mul_le_mul_right (128 ^ 9) h4
      omega
  have e2 : ((u % 128 : Nat) : Int) * ((128 ^ k : Nat) : Int) = ((u % 128 * 128 ^ k : Nat) : Int) := by simp
  rw [e2, wrap_u64_nat _ (by omega)]
  have e3 : (y : Int) + ((u % 128 * 128 ^ k : Nat) : Int) = ((y + u % 128 * 128 ^ k : Nat) : Int) := by simp
  rw [e3, wrap_u64_nat _ hb]

end Go.Proofs.Ytccphnkdnifpfaa

namespace Go.Proofs.Ytccphnkdnifpfaa
set_option linter.unnecessarySimpa false
open Go.RowKit Go.Shelf
set_option linter.unusedVariables false
set_option linter.unusedSimpArgs false
set_option maxRecDepth 100000

theorem step_cases (xs : List UInt8) (hne : xs ≠ []) (v k : Nat) (e : Int) (hN : numF 0 0 xs = (v, k, e)) :
    (e = 110 ∧ stepF xs = none) ∨ (e ≠ 110 ∧ (e ≠ 0 ∨ 262144 < v) ∧ stepF xs = some none) ∨ (e = 0 ∧ v ≤ 262144 ∧ xs.length - k < v + 8 ∧ stepF xs = none) ∨
    (e = 0 ∧ v ≤ 262144 ∧ v + 8 ≤ xs.length - k ∧ (recF ((xs.drop k).take v)).length = k + v + 8 ∧ recF ((xs.drop k).take v) ≠ xs.take (k + v + 8) ∧ stepF xs = some none) ∨
    (e = 0 ∧ v ≤ 262144 ∧ v + 8 ≤ xs.length - k ∧ (recF ((xs.drop k).take v)).length = k + v + 8 ∧ recF ((xs.drop k).take v) = xs.take (k + v + 8) ∧ stepF xs = some (some ((xs.drop k).take v))) := by
  have hk : k ≤ xs.length := by have := (numF_at xs).1; rw [hN] at this; exact this
  by_cases h1 : e = 110
  · left; subst h1; exact ⟨rfl, by simp [stepF, hN]⟩
  by_cases h2 : e ≠ 0 ∨ 262144 < v
  · right; left
    refine ⟨h1, h2, ?_⟩
    unfold stepF
    rw [hN, if_neg (by simp only; rintro (h | h); exact hne h; exact h1 h), if_pos h2]
  have h3 : e = 0 ∧ v ≤ 262144 := by
    simp only [not_or, Decidable.not_not, Nat.not_lt] at h2; exact h2
  obtain ⟨rfl, hv⟩ := h3
  by_cases h4 : xs.length - k < v + 8
  · right; right; left
    refine ⟨rfl, hv, h4, ?_⟩
    unfold stepF
    rw [hN, if_neg (by simp only; rintro (h | h); exact hne h; exact h1 h), if_neg h2, if_pos h4]
  · right; right; right
    have hpl : ((xs.drop k).take v).length = v := by rw [List.length_take, List.length_drop]; omega
    have hleb := numF_leb0 xs v k hN
    have hll : (leb v).length = k := by rw [hleb, List.length_take]; omega
    have hrl : (recF ((xs.drop k).take v)).length = k + v + 8 := by
      unfold recF
      rw [hpl]
      simp only [List.length_append, hll, hpl, wide_len]
    by_cases h5 : beF 0 (((xs.drop k).drop v).take 8) = hashF ((xs.drop k).take v)
    · right
      have hs : stepF xs = some (some ((xs.drop k).take v)) := by
        unfold stepF
        rw [hN, if_neg (by simp only; rintro (h | h); exact hne h; exact h1 h), if_neg h2, if_neg h4, if_pos h5]
      refine ⟨rfl, hv, by omega, hrl, ?_, hs⟩
      obtain ⟨_, _, _, _, _, _, _, h8, h9⟩ := step_rec hs
      rw [h8, hN, hpl]
    · left
      refine ⟨rfl, hv, by omega, hrl, ?_, ?_⟩
      · intro he
        apply h5
        have e1 : xs.take (k + v + 8) = xs.take k ++ (xs.drop k).take v ++ ((xs.drop k).drop v).take 8 := by
          rw [List.drop_drop, List.take_add, List.take_add]
        rw [e1] at he
        unfold recF at he
        rw [hpl, hleb] at he
        have := List.append_cancel_left he
        rw [← this]
        exact beF_wide _ (hashF_lt _)
      · unfold stepF
        rw [hN, if_neg (by simp only; rintro (h | h); exact hne h; exact h1 h), if_neg h2, if_neg h4, if_neg h5]

/-- A row of slices of bytes of the call's own; the bytes lay in world w0. -/
def Own2 (w0 : World) (base : Nat) (w : World) (v : Value) (n : Nat) (ls : List (List UInt8)) : Prop :=
  ∃ vs : List Value, ls.length = n ∧ w.ownsRow base 30 1 v n vs ∧ (∀ i (h : i < vs.length) (h' : i < ls.length), Bytes w0 vs[i] ls[i])
theorem Own2.nil (w0 : World) (base : Nat) (w : World) : Own2 w0 base w (.slice none 0 0) 0 [] := ⟨[], rfl, World.ownsRow_nil _ _ _ _, fun i h => by simp at h⟩
theorem Own2.chg {S : Nat → Prop} {w0 w w' : World} {base : Nat} {v : Value} {n : Nat} {ls : List (List UInt8)} (h : Own2 w0 base w v n ls) (hc : Chg S w w') (hs : ∀ b, v.ownBlock = some b → ¬ S b) : Own2 w0 base w' v n ls := by
  obtain ⟨vs, h1, h2, h3⟩ := h
  exact ⟨vs, h1, ownsRow_chg h2 hc hs, h3⟩
theorem Own2.block {w0 w : World} {base : Nat} {v : Value} {n : Nat} {ls : List (List UInt8)} (h : Own2 w0 base w v n ls) : ∀ b, v.ownBlock = some b → base ≤ b ∧ b < w.heap.size := by
  obtain ⟨vs, h1, h2, h3⟩ := h
  exact World.ownsRow.lt h2
theorem Own2.ne {w0 w : World} {base : Nat} {v : Value} {n g : Nat} {ls : List (List UInt8)} {cs : Array Value} {t : TypeId} {fz : Nat × Nat} (h : Own2 w0 base w v n ls) (hg : w.heap[g]? = some (.cells cs t fz)) (ht : t ≠ 30) : ∀ b, v.ownBlock = some b → b ≠ g := by
  rintro b hb rfl
  obtain ⟨vs, h1, h2, h3⟩ := h
  obtain ⟨cc, fz, hcc⟩ := ownsRow_cells h2 b hb
  have := hg.symm.trans hcc
  cases this
  exact ht rfl
theorem Own2.app {w0 w' : World} {base : Nat} {v' x : Value} {n : Nat} {ls : List (List UInt8)} {p : List UInt8} {vs : List Value} (h1 : ls.length = n) (h2 : w'.ownsRow base 30 1 v' (n + 1) (vs ++ [x])) (hl : vs.length = n) (h3 : ∀ i (h : i < vs.length) (h' : i < ls.length), Bytes w0 vs[i] ls[i]) (hx : Bytes w0 x p) : Own2 w0 base w' v' (n + 1) (ls ++ [p]) := by
  refine ⟨vs ++ [x], by rw [List.length_append, h1]; rfl, h2, fun i h h' => ?_⟩
  by_cases hi : i < n
  · rw [List.getElem_append_left (by omega), List.getElem_append_left (by omega)]
    exact h3 i (by omega) (by omega)
  · have : i = n := by simp at h; omega
    subst this
    have e1 : (vs ++ [x])[i] = x := by rw [List.getElem_append_right (by omega)]; simp [hl]
    have e2 : (ls ++ [p])[i] = p := by rw [List.getElem_append_right (by omega)]; simp [h1]
    rw [e1, e2]
    exact hx
theorem infoSl : (Try.prog.info? 30).map (fun i => (i.zero, i.size, i.bytes)) = some (some (.slice none 0 0), 1, 24) := by kernel_rfl
theorem three_cells {w : World} {g : Nat} {a b c : Value} {t : TypeId} (h : w.heap[g]? = some (.cells #[a, b, c] t (0, 0))) : w.cell? ⟨g, 0, none⟩ = some a ∧ w.cell? ⟨g, 1, none⟩ = some b ∧ w.cell? ⟨g, 2, none⟩ = some c ∧ w.frozen? ⟨g, 0, none⟩ = false ∧ w.frozen? ⟨g, 1, none⟩ = false ∧ w.frozen? ⟨g, 2, none⟩ = false := by
  simp [World.cell?, World.frozen?, h]
theorem three_set {w : World} {g : Nat} {cs : Array Value} {t : TypeId} (h : w.heap[g]? = some (.cells cs t (0, 0))) (i : Nat) (u : Value) : (w.setCell ⟨g, i, none⟩ u).heap[g]? = some (.cells (cs.setIfInBounds i u) t (0, 0)) := by
  unfold World.setCell
  simp [Array.getElem?_modify, h]
theorem Sl2.ofOwn2 {w0 w : World} {base n : Nat} {v : Value} {ls : List (List UInt8)} (h : Own2 w0 base w v n ls) (hc : Chg No w0 w) : Sl2 w v ls := by
  obtain ⟨vs, h1, h2, h3⟩ := h
  have hv : vs.length = n := by have := h2.1; simpa using this
  subst h1
  exact ⟨vs, hv, Holds.ofOwn h2, fun i hi hi' => (h3 i hi hi').no hc⟩
/-- The result's cells, stored. -/
theorem three_done {w w0 : World} {g : Nat} {a b c : Value} {cs : Array Value} {t : TypeId} (h : w.heap[g]? = some (.cells cs t (0, 0))) (hs : cs.size = 3) (hc : Chg No w0 w) (hg : w0.heap.size ≤ g) :
    (((w.setCell ⟨g, 0, none⟩ a).setCell ⟨g, 1, none⟩ b).setCell ⟨g, 2, none⟩ c).heap[g]? = some (.cells #[a, b, c] t (0, 0)) ∧ Chg (One g) w (((w.setCell ⟨g, 0, none⟩ a).setCell ⟨g, 1, none⟩ b).setCell ⟨g, 2, none⟩ c) ∧ Chg No w0 (((w.setCell ⟨g, 0, none⟩ a).setCell ⟨g, 1, none⟩ b).setCell ⟨g, 2, none⟩ c) := by
  have hh := three_set (three_set (three_set h 0 a) 1 b) 2 c
  refine ⟨?_, ((Chg.put w g 0 a).trans (Chg.put _ g 1 b) (fun _ _ x => x)).trans (Chg.put _ g 2 c) (fun _ _ x => x), ?_⟩
  · rw [hh]
    obtain ⟨l⟩ := cs
    match l, hs with
    | [x, y, z], _ => rfl
  · exact ((hc.setCell (p := ⟨g, 0, none⟩) (.inl hg) a).setCell (p := ⟨g, 1, none⟩) (.inl hg) b).setCell (p := ⟨g, 2, none⟩) (.inl hg) c

end Go.Proofs.Ytccphnkdnifpfaa


namespace Go.Proofs.Ytccphnkdnifpfaa
set_option linter.unnecessarySimpa false
open Go.RowKit Go.Shelf
set_option linter.unusedVariables false
set_option linter.unusedSimpArgs false
set_option maxRecDepth 100000

theorem Chg.newer {S : Nat → Prop} {w a b : World} (h : Chg No w a) (k : Chg S a b) (hs : ∀ i, S i → w.heap.size ≤ i) : Chg No w b := h.trans k (fun i hi hx => by have := hs i hx; omega)
/-- A journal opened on a new disk. -/
theorem fresh_open (w : World) (base d m nw : Nat) (k : ByteArray) (h : DiskAt w d m nw none) (hd : base ≤ d) (hm : base ≤ m) (hw : nw < 9223372036850000000) (hb : base ≤ w.heap.size) :
    Calls Try.prog 29 #[.pointer (some ⟨d, 0, none⟩), .string k] w fun e w' => ∃ j S, e = .returned (.tuple #[.pointer (some ⟨j, 0, none⟩), .int .i64 0]) ∧ JD w' S base j d m nw k false [] ∧ Chg (DM d m) w w' ∧ w.heap.size ≤ j := by
  refine (open_calls w base d m nw k false none 0 0 [] [] false (Rds.stop (by simp [stepF])) h (World.ownsRow_nil _ _ _ _) rfl (fun _ => ⟨rfl, rfl, rfl⟩) (by omega) hw ⟨hd, hm⟩ hb).mono ?_
  rintro e w' ⟨-, h2⟩
  obtain ⟨j, he, nw', -, hn, hJ, hc, hj⟩ := h2 rfl
  obtain rfl := (hn rfl).1
  exact ⟨j, _, he, hJ, hc, hj⟩
theorem JD.boundary {S : Nat → Prop} {w : World} {base j d m wr : Nat} {k : ByteArray} {th : Bool} {ps : List (List UInt8)} (h : JD w S base j d m wr k th ps) {b : Nat} (hb : w.heap.size ≤ b) : ¬ S b := fun hs => by have := (h.lt b hs).2; omega
theorem recF_small (p : List UInt8) (h : p.length < 128) : (recF p).length = p.length + 9 := by
  unfold recF
  rw [List.length_append, List.length_append, leb_small _ h, wide_len]
  simp; omega

end Go.Proofs.Ytccphnkdnifpfaa

namespace Go.Proofs.Ytccphnkdnifpfaa
set_option linter.unnecessarySimpa false
open Go.RowKit Go.MapKept
set_option linter.unusedVariables false
set_option linter.unusedSimpArgs false
set_option maxRecDepth 100000

set_option maxHeartbeats 1600000 in
theorem may_lower (w : World) (s : ByteArray) (h1 : 1 ≤ s.size) (h2 : s.size ≤ 32) (hall : ∀ i (h : i < s.size), 97 ≤ (s[i]'h).toNat ∧ (s[i]'h).toNat ≤ 122) : Calls Try.prog 87 #[.string s] w fun e w' => e = .returned (.bool true) ∧ Chg No w w' := by
  have b1 : ¬ (s.size : Int) < 1 := by omega
  have b2 : ¬ (32 : Int) < (s.size : Int) := by omega
  go_enter Try.func87, Try.ntmps87
  go_wp2
  go_loopw [15] (fun i wr => ∃ k : Nat, k ≤ s.size ∧ i = .int .i64 (k : Int) ∧ Hid (Chg No w wr)) (fun i _ => s.size - (intOf i).toNat)
  case atStart => exact ⟨0, by omega, rfl, Chg.refl _ _⟩
  case round =>
    obtain ⟨k, hk, rfl, HC⟩ := hrel
    by_cases hlt : k < s.size
    · have i1 : (k : Int) < (s.size : Int) := by omega
      obtain ⟨t1, t2⟩ := hall k hlt
      obtain ⟨x, hx⟩ : ∃ x, s[k] = x := ⟨_, rfl⟩
      rw [hx] at t1 t2
      have u1 : (97 : Int) ≤ (x.toNat : Int) := by omega
      have u2 : (x.toNat : Int) ≤ 122 := by omega
      go_wp2
      go_roundw
      case rel => exact ⟨k + 1, by omega, by simp, HC⟩
      case measure => simp [intOf]; omega
    · have hks : k = s.size := by omega
      subst hks
      go_wp2
      go_ret
      exact ⟨rfl, HC.out⟩
theorem may_obj (w : World) : Calls Try.prog 87 #[.string objK] w fun e w' => e = .returned (.bool true) ∧ Chg No w w' :=
  may_lower w objK (by decide) (by decide) (fun i h => by
    have h : i < 7 := h
    have : ∀ i (h : i < 7), 97 ≤ (objK[i]'h).toNat ∧ (objK[i]'h).toNat ≤ 122 := by decide
    exact this i h)
theorem SD.ids {S : Nat → Prop} {w : World} {base s mp j d m wr : Nat} {th : Bool} {ps : List (List UInt8)} (h : SD w S base s mp j d m wr th ps) : ∃ v, SC w base s mp j v (ps.map idF) := by
  obtain ⟨v, SJ, h1, -⟩ := h; exact ⟨v, h1⟩
set_option maxHeartbeats 1600000 in
theorem put_refused (w : World) (s : Nat) (v : Value) (k : Int) (hk : k ≠ 0) (b : List UInt8) (hen : Encodes w v k b) :
    Calls Try.prog 11 #[.pointer (some ⟨s, 0, none⟩), v] w fun e w' => e = .returned (.tuple #[.int .u64 0, .int .i64 k]) ∧ Chg No w w' := by
  have hb : (k != 0) = true := bne_iff_ne.2 hk
  have HE := Lib.hid (hen w (Chg.refl _ _))
  clear hk hen
  go_enter Try.func11, Try.ntmps11
  go_wp2_with fail
  refine HE.out.mono ?_
  rintro e w1 ⟨u, rfl, -, hc⟩
  go_wp2
  go_ret2
  exact ⟨rfl, hc⟩
set_option maxHeartbeats 3200000 in
theorem put_there (w : World) (S : Nat → Prop) (base s mp j d m wr : Nat) (th : Bool) (ps : List (List UInt8)) (h : SD w S base s mp j d m wr th ps) (hn : (encF ps).length ≤ 4194304) (v : Value) (b : List UInt8) (hbl : b.length ≤ 140737488355328) (hen : Encodes w v 0 b) (q : Nat) (hq : findI (idF b) (ps.map idF) = some q) :
    Calls Try.prog 11 #[.pointer (some ⟨s, 0, none⟩), v] w fun e w' => e = .returned (if ps.getD q [] = b then .tuple #[.int .u64 (idF b : Int), .int .i64 0] else .tuple #[.int .u64 0, .int .i64 7]) ∧ Chg No w w' := by
  have HE := Lib.hid (hen w (Chg.refl _ _))
  have HS := Lib.hid h
  obtain ⟨R, hR⟩ : ∃ R, R = (if ps.getD q [] = b then Value.tuple #[.int .u64 (idF b : Int), .int .i64 0] else .tuple #[.int .u64 0, .int .i64 7]) := ⟨_, rfl⟩
  rw [← hR]
  have HR := Lib.hid hR
  clear hen h hR
  go_enter Try.func11, Try.ntmps11
  go_wp2_with fail
  refine HE.out.mono ?_
  rintro e w1 ⟨u, rfl, ho, hc⟩
  obtain ⟨A1, n1, c1, rfl, HL1, HO1⟩ := ho.form
  have HC1 := Lib.hid hc
  have HI := Lib.hid (id_calls w1 A1 n1 c1 b HO1.out.bytes HL1.out (by have := HL1.out; omega))
  have HBY := Lib.hid (sbytes_calls w1 S base s mp j d m wr th ps (HS.out.no hc) hn (idF b))
  have HBR : Hid (∀ e w', BytesR w1 ps (idF b) e w' → ∃ v, e = .returned (.tuple #[v, .int .i64 0]) ∧ OwnB w' w1.heap.size v (ps.getD q [])) := fun e w' h => by rw [BytesR, hq] at h; exact h
  generalize idF b = ib at *
  clear ho hc HE hq
  go_wp2_with fail
  refine HI.out.mono ?_
  rintro e w2 ⟨rfl, hw2⟩
  subst hw2
  go_wp2_with fail
  refine HBY.out.mono ?_
  rintro e w3 ⟨hr, hc3⟩
  obtain ⟨v3, rfl, ho3⟩ := HBR.out _ _ hr
  obtain ⟨A3, n3, c3, rfl, HL3, HO3⟩ := ho3.form
  have HC3 := Lib.hid (HC1.out.no hc3)
  have HEQ := Lib.hid (equal_calls w3 A3 n3 c3 (ps.getD q []) A1 n1 c1 b HO3.out.bytes (HO1.out.bytes.no hc3))
  clear hr hc3 ho3
  by_cases he : ps.getD q [] = b
  · have HF : Hid (R = .tuple #[.int .u64 (ib : Int), .int .i64 0]) := by rw [Hid, HR.out, if_pos he]
    rw [decide_eq_true he] at HEQ
    clear he HR
    go_wp2_with fail
    refine HEQ.out.mono ?_
    rintro e w4 ⟨rfl, hw4⟩
    subst hw4
    go_wp2
    go_ret2
    exact ⟨by rw [HF.out]; try rfl, HC3.out⟩
  · have HF : Hid (R = .tuple #[.int .u64 0, .int .i64 7]) := by rw [Hid, HR.out, if_neg he]
    rw [decide_eq_false he] at HEQ
    clear he HR
    go_wp2_with fail
    refine HEQ.out.mono ?_
    rintro e w4 ⟨rfl, hw4⟩
    subst hw4
    go_wp2
    go_ret2
    exact ⟨by rw [HF.out]; try rfl, HC3.out⟩
set_option maxHeartbeats 6400000 in
theorem put_new (w : World) (S : Nat → Prop) (base s mp j d m wr : Nat) (th : Bool) (ps : List (List UInt8)) (h : SD w S base s mp j d m wr th ps) (v : Value) (b : List UInt8) (hbl : b.length ≤ 262144) (hen : Encodes w v 0 b) (hq : findI (idF b) (ps.map idF) = none)
    (hsum : (encF ps).length + (recF b).length ≤ 4194304) (hfew : ps.length < 65536) (hwr : wr < 9223372036850000000) :
    Calls Try.prog 11 #[.pointer (some ⟨s, 0, none⟩), v] w fun e w' => e = .returned (.tuple #[.int .u64 (idF b : Int), .int .i64 0]) ∧ SD w' (Grow S w w') base s mp j d m (wr + ((recF b).length + 31) / 32) true (ps ++ [b]) ∧ Chg S w w' := by
  have HE := Lib.hid (hen w (Chg.refl _ _))
  have HS := Lib.hid h
  obtain ⟨ib, hib⟩ : ∃ i, i = idF b := ⟨_, rfl⟩
  have HIB := Lib.hid hib
  rw [← hib]
  clear hen h hib
  go_enter Try.func11, Try.ntmps11
  go_wp2_with fail
  refine HE.out.mono ?_
  rintro e w1 ⟨u, rfl, ho, hc⟩
  obtain ⟨A1, n1, c1, rfl, HL1, HO1⟩ := ho.form
  have HC1 := Lib.hid hc
  have HI := Lib.hid (id_calls w1 A1 n1 c1 b HO1.out.bytes HL1.out (by have := HL1.out; omega))
  have HBY := Lib.hid (sbytes_calls w1 S base s mp j d m wr th ps (HS.out.no hc) (by omega) (idF b))
  have HBR : Hid (∀ e w', BytesR w1 ps (idF b) e w' → e = .returned (.tuple #[.slice none 0 0, .int .i64 4])) := fun e w' h => by rw [BytesR, hq] at h; exact h
  have HQ := Lib.hid hq
  rw [← HIB.out] at HI HBY HBR HQ
  clear ho hc HE hq
  go_wp2_with fail
  refine HI.out.mono ?_
  rintro e w2 ⟨rfl, hw2⟩
  subst hw2
  go_wp2_with fail
  refine HBY.out.mono ?_
  rintro e w3 ⟨hr, hc3⟩
  obtain rfl := HBR.out _ _ hr
  have HC3 := Lib.hid (HC1.out.no hc3)
  have HO3 := Lib.hid (HO1.out.bytes.no hc3)
  obtain ⟨v0, SJ, hsc, hjd, hsj, hss, hsm, hsv, hslt, hsb⟩ := (HS.out.no HC3.out)
  obtain ⟨Av, cv, hv⟩ := hsc.form
  rw [List.length_map] at hv
  subst hv
  obtain ⟨c0, c1', c2'⟩ := cells3 hsc.1
  have hfi : ¬ (65536 : Int) ≤ (ps.length : Int) := by omega
  have hsltw : ∀ i, S i → i < w.heap.size := fun i hi => (HS.out.lt i hi).2
  have HJA := Lib.hid (jappend_calls w3 SJ base j d m wr objK (fun w => may_obj w) th ps A1 n1 c1 b hjd HO3.out HL1.out (fun x hx hs => by
    have h1 := HO1.out.lt x hx
    have := hsltw x (hsj x hs).1
    omega) (by have := HL1.out; omega) hsum hwr)
  have HSC := Lib.hid hsc
  have HJD := Lib.hid hjd
  have HSJ := Lib.hid hsj
  have HSL := Lib.hid hslt
  have HSV := Lib.hid hsv
  have HSS := Lib.hid (And.intro hss (And.intro hsm hslt))
  clear hr hc3 hsc hjd hsj HBR HBY HI hss hsm hslt hsv hsltw
  go_simp
  repeat (first | go_values | go_skip | go_guarded | go_step | go_upon | go_back)
  refine HJA.out.mono ?_
  rintro e w4 ⟨rfl, hj4, hc4⟩
  have hsz4 := hc4.size
  have HSC4 := Lib.hid (HSC.out.chg hc4 (fun hx => (HSJ.out _ hx).2.1 rfl) (fun hx => (HSJ.out _ hx).2.2.1 rfl) (fun b hb hx => (HSJ.out _ hx).2.2.2 hb))
  have HJL : Hid (Calls Try.prog 38 #[.pointer (some ⟨j, 0, none⟩)] w4 fun e w' => e = .returned (.int .i64 ((ps.length : Int) + 1)) ∧ w' = w4) := by
    have := jlen_calls w4 _ base j d m _ objK true _ hj4
    rw [List.length_append, List.length_cons, List.length_nil] at this
    rw [Hid]; simpa using this
  have HNT := Lib.hid (note_calls w4 base s mp j _ (ps.map idF) ib HSC4.out HQ.out (by rw [List.length_map]; omega) (Nat.le_trans hsb hsz4))
  rw [List.length_map] at HNT
  obtain ⟨d0, d1, d2⟩ := cells3 HSC4.out.1
  have HJ4 := Lib.hid hj4
  have HC4 := Lib.hid hc4
  clear hj4 hc4 HJA HJD HSC c0 c1' c2'
  go_simp
  repeat (first | go_values | go_skip | go_guarded | go_step | go_upon | go_back)
  refine HJL.out.mono ?_
  rintro e w5 ⟨rfl, hw5⟩
  subst hw5
  go_simp
  repeat (first | go_values | go_skip | go_guarded | go_step | go_upon | go_back)
  refine HNT.out.mono ?_
  rintro e w6 ⟨rfl, v6, hsc6, hc6, hf6⟩
  have HSC6 := Lib.hid hsc6
  have HC6 := Lib.hid hc6
  have HF6 := Lib.hid hf6
  clear hsc6 hc6 hf6 HNT HJL
  go_wp2
  go_ret2
  obtain ⟨hss, hsm, hslt⟩ := HSS.out
  have hsltw : ∀ i, S i → base ≤ i ∧ i < w.heap.size := HS.out.lt
  have hz3 := HC3.out.size
  have hz4 := HC4.out.size
  have hz6 := HC6.out.size
  have hcall : Chg S w w6 := by
    refine (((HC3.out.mono (S' := S) (fun i _ x => x.elim)).trans (HC4.out.mono (S' := S) (fun i _ hx => (HSJ.out i hx).1)) (fun i _ x => x)).trans (HC6.out.mono (S' := S) (fun i _ hx => ?_)) (fun i _ x => x))
    rcases hx with rfl | rfl | hx
    · exact hss
    · exact hsm
    · exact HSV.out _ hx
  refine ⟨rfl, ⟨v6, Grow SJ w3 w5, ?_, ?_, ?_, .inl hss, .inl hsm, ?_, ?_, ?_⟩, hcall⟩
  · have := HSC6.out
    rw [List.map_append, List.map_cons, List.map_nil, ← HIB.out]; exact this
  · refine HJ4.out.chg HC6.out (fun i hi hx => ?_)
    rcases hi with hi | ⟨hi1, hi2⟩
    · obtain ⟨-, h1, h2, h3⟩ := HSJ.out i hi
      rcases hx with rfl | rfl | hx
      · exact h1 rfl
      · exact h2 rfl
      · exact h3 hx
    · have h1 := (hslt _ hss).2
      have h2 := (hslt _ hsm).2
      rcases hx with rfl | rfl | hx
      · omega
      · omega
      · have := (hslt _ (HSV.out _ hx)).2
        omega
  · intro i hi
    rcases hi with hi | ⟨hi1, hi2⟩
    · obtain ⟨h0, h1, h2, h3⟩ := HSJ.out i hi
      refine ⟨.inl h0, h1, h2, fun hx => ?_⟩
      rcases HF6.out i hx with h | h
      · exact h3 h
      · have := (hslt _ h0).2
        omega
    · have h1 := (hslt _ hss).2
      have h2 := (hslt _ hsm).2
      refine ⟨.inr ⟨by omega, by omega⟩, by omega, by omega, fun hx => ?_⟩
      rcases HF6.out i hx with h | h
      · have := (hslt _ (HSV.out _ h)).2
        omega
      · omega
  · intro b hb
    rcases HF6.out b hb with h | h
    · exact .inl (HSV.out _ h)
    · right
      have h1 := (World.ownsRow.lt HSC6.out.2.2.1 b hb).2
      exact ⟨by omega, h1⟩
  · intro i hi
    rcases hi with hi | ⟨hi1, hi2⟩
    · have := hsltw i hi
      exact ⟨this.1, by omega⟩
    · have := (hsltw _ hss).1
      have h2 := (hsltw _ hss).2
      exact ⟨by omega, hi2⟩
  · omega
end Go.Proofs.Ytccphnkdnifpfaa

