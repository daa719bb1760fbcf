/-
  The walk of ObjectOdd.
-/
import Derived.Test.YtkmnkbmmgopldaaOd
namespace Go.Proofs.Ytkmnkbmmgopldaa
open Go.RowKit
set_option linter.unusedVariables false
set_option linter.unusedSimpArgs false
set_option maxRecDepth 100000

theorem cells5b {W : World} {g : Nat} {a b c d e : Value} {t : TypeId} {fz : Nat × Nat} (h : W.heap[g]? = some (.cells #[a, b, c, d, e] t fz)) :
    W.cell? ⟨g, 0, none⟩ = some a ∧ W.cell? ⟨g, 1, none⟩ = some b ∧ W.cell? ⟨g, 2, none⟩ = some c ∧ W.cell? ⟨g, 3, none⟩ = some d ∧ W.cell? ⟨g, 4, none⟩ = some e :=
  ⟨cellAt h 0 a rfl, cellAt h 1 b rfl, cellAt h 2 c rfl, cellAt h 3 d rfl, cellAt h 4 e rfl⟩

set_option maxHeartbeats 6400000 in
theorem objectOdd_core (w : World) (Ab : Option Addr) (nb cb : Nat)
    (t : Nat) (A : Option Addr) (n c : Nat) (a : ByteArray) (d : Int) (x : ByteArray) :
    Calls Try.prog 10 #[.slice Ab nb cb, .agg #[.int .u64 (t : Int), .slice A n c, .string a, .int .i64 d, .string x]] w fun e w' => e = .returned (.bool true) ∧ Chg No w w' := by
  have HT0 : Hid (∀ W, Encodes W (treeV (.slice none 0 0)) 0 (treeB [])) := fun W => by
    have := encodes_tree W none 0 0 [] (Holds.nil W) (fun _ h => by cases h) (fun _ h => by cases h)
    rwa [show treeF [] = 0 from rfl, if_pos rfl] at this
  have HQ := Lib.hid (heap_alloc_new w (.cells #[.int .u64 (t : Int), .slice A n c, .string a, .int .i64 d, .string x] 27))
  go_enter Try.func10, Try.ntmps10
  go_wp2_with fail
  refine (wakes_calls _).mono ?_
  rintro e w1 ⟨rfl, hc1⟩
  have HP := Lib.hid (hc1.heap HQ.out (fun x => x))
  have HC1 := Lib.hid (((Chg.refl No w).alloc _).no hc1)
  clear hc1 HQ
  obtain ⟨p0, p1, p2, p3, p4⟩ := cells5b HP.out
  generalize w.heap.size = g at *
  go_wp2
  have HC2 : Hid (Chg No w ((w1.alloc (.cells #[.slice Ab nb cb] 40)).alloc (.cells #[.slice none 0 0] 33))) := (HC1.out.alloc _).alloc _
  generalize ((w1.alloc (.cells #[.slice Ab nb cb] 40)).alloc (.cells #[.slice none 0 0] 33)) = w2 at *
  generalize hgb : w1.heap.size = gb at *
  clear hgb p0 p1 p2 p3 p4
  go_loopw [28] (fun i wr => ∃ k : Nat, k ≤ 4 ∧ i = .int .i64 (k : Int) ∧ Hid (Chg No w wr)) (fun i _ => 4 - (intOf i).toNat)
  case atStart => exact ⟨0, by omega, rfl, HC2.out⟩
  case round =>
    obtain ⟨k, hk, rfl, HC⟩ := hrel
    by_cases hlt : k < 4
    · obtain ⟨o, hidx, HO, hnn⟩ : ∃ (o : Value), (∀ W, Sem.run Try.prog (Instr.index 78 (.agg #[.nilIface, .iface 75 (.pointer (some ⟨gb, 0, none⟩)), .iface 76 (.pointer (some ⟨gb + 1, 0, none⟩)), .iface 77 (.pointer (some ⟨g, 0, none⟩))]) (.int .i64 (k : Int))) W = .ok o W) ∧ Hid (Odd o) ∧ True := by
        match k, hlt with
        | 0, _ => exact ⟨_, fun W => rfl, odd_nil, trivial⟩
        | 1, _ => exact ⟨_, fun W => rfl, odd_pblob _, trivial⟩
        | 2, _ => exact ⟨_, fun W => rfl, odd_ptree _, trivial⟩
        | 3, _ => exact ⟨_, fun W => rfl, odd_pcommit _, trivial⟩
      have HEN : Hid (∀ W, Encodes W o 160 []) := fun W => encodes_odd W o HO.out
      have HS1 : Hid (∀ W, Calls Try.prog 24 #[o, o] W fun e w' => e = .returned (.bool false) ∧ Chg No W w') := fun W => by
        have := same_calls W o o 160 160 [] [] (HEN.out W) (HEN.out W)
        exact this
      have HS2 : Hid (∀ W, Calls Try.prog 24 #[o, treeV (.slice none 0 0)] W fun e w' => e = .returned (.bool false) ∧ Chg No W w') := fun W => by
        have := same_calls W o (treeV (.slice none 0 0)) 160 0 [] _ (HEN.out W) (HT0.out W)
        exact this
      have HS3 : Hid (∀ W, Calls Try.prog 24 #[treeV (.slice none 0 0), o] W fun e w' => e = .returned (.bool false) ∧ Chg No W w') := fun W => by
        have := same_calls W (treeV (.slice none 0 0)) o 0 160 _ [] (HT0.out W) (HEN.out W)
        exact this
      have HOF : Hid (∀ W, Calls Try.prog 30 #[o] W fun e w' => e = .returned (.tuple #[.int .u64 0, .int .i64 160]) ∧ Chg No W w') := fun W => by
        have := of_calls W o 160 [] (HEN.out W) (by simp)
        rwa [if_neg (by decide)] at this
      clear HT0 hnn
      go_wp2_with fail
      refine (HEN.out _ _ (Chg.refl _ _)).mono ?_
      rintro e w3 ⟨v3, rfl, ho3, hc3⟩
      obtain ⟨A3, n3, c3, rfl, HL3, HO3⟩ := ho3.form
      have hn3 : n3 = 0 := HL3.out.symm
      subst hn3
      clear ho3 HO3 HL3
      have HC3 := Lib.hid ((HC.out).no hc3)
      clear hc3 HC
      go_wp2_with fail
      refine (HOF.out _).mono ?_
      rintro e w4 ⟨rfl, hc4⟩
      have HC4 := Lib.hid ((HC3.out).no hc4)
      clear hc4 HC3
      go_wp2_with fail
      refine (asblob_odd _ o HO.out).mono ?_
      rintro e w5 ⟨rfl, hc5⟩
      have HC5 := Lib.hid ((HC4.out).no hc5)
      clear hc5 HC4
      go_wp2_with fail
      refine (astree_odd _ o HO.out).mono ?_
      rintro e w6 ⟨rfl, hc6⟩
      have HC6 := Lib.hid ((HC5.out.alloc _).no hc6)
      clear hc6 HC5
      go_wp2_with fail
      refine (ascommit_odd _ o HO.out).mono ?_
      rintro e w7 ⟨rfl, hc7⟩
      have HC7 := Lib.hid ((HC6.out.alloc _).no hc7)
      clear hc7 HC6
      go_wp2_with fail
      refine (check_odd _ o HO.out).mono ?_
      rintro e w8 ⟨rfl, hc8⟩
      have HC8 := Lib.hid ((HC7.out.alloc _).no hc8)
      clear hc8 HC7
      go_wp2_with fail
      refine (kind_odd _ o HO.out).mono ?_
      rintro e w9 ⟨rfl, hc9⟩
      have HC9 := Lib.hid ((HC8.out).no hc9)
      clear hc9 HC8
      go_wp2_with fail
      refine (links_odd _ o HO.out).mono ?_
      rintro e w10 ⟨rfl, hc10⟩
      have HC10 := Lib.hid ((HC9.out).no hc10)
      clear hc10 HC9
      go_wp2_with fail
      refine (copy_odd _ o HO.out).mono ?_
      rintro e w11 ⟨rfl, hc11⟩
      have HC11 := Lib.hid ((HC10.out).no hc11)
      clear hc11 HC10
      go_wp2_with fail
      refine (HS1.out _).mono ?_
      rintro e w12 ⟨rfl, hc12⟩
      have HC12 := Lib.hid ((HC11.out).no hc12)
      clear hc12 HC11
      go_wp2_with fail
      refine (HS2.out _).mono ?_
      rintro e w13 ⟨rfl, hc13⟩
      have HC13 := Lib.hid ((HC12.out).no hc13)
      clear hc13 HC12
      go_wp2_with fail
      refine (HS3.out _).mono ?_
      rintro e w14 ⟨rfl, hc14⟩
      have HC14 := Lib.hid ((HC13.out).no hc14)
      clear hc14 HC13
      go_wp2_with fail
      refine (falls_tree _ _ (must_tree_falls _ _ HO.out.ft)).mono ?_
      rintro e w15 ⟨rfl, hc15⟩
      have HC15 := Lib.hid ((HC14.out).no hc15)
      clear hc15 HC14
      go_wp2_with fail
      refine (falls_commit _ _ (must_commit_falls _ _ HO.out.fc)).mono ?_
      rintro e w16 ⟨rfl, hc16⟩
      have HC16 := Lib.hid ((HC15.out).no hc16)
      clear hc16 HC15
      go_wp2
      go_roundw
      case rel => exact ⟨k + 1, by omega, by simp, HC16.out⟩
      case measure => simp [intOf]; omega
    · have hk3 : ¬ (k : Int) < 4 := by omega
      go_wp2_with fail
      refine (wakes_calls _).mono ?_
      rintro e w9 ⟨rfl, hc9⟩
      go_wp2
      go_ret
      exact ⟨rfl, HC.out.no hc9⟩

theorem objectOdd_walk (w : World) (Ab : Option Addr) (nb cb : Nat) (xs : List UInt8) (hb : Bytes w (.slice Ab nb cb) xs) (hl : xs.length = nb) (hnb : nb ≤ 140737488351232)
    (t : Nat) (A : Option Addr) (n c : Nat) (ps : List Nat) (a : ByteArray) (d : Int) (x : ByteArray) (hs : Sl u64v w (.slice A n c) ps) (hp : ∀ q ∈ ps, q < 18446744073709551616) (ht : t < 18446744073709551616) (hn : n ≤ maxLen) (ha : a.size ≤ maxLen) (hx : x.size ≤ maxLen) (hd1 : -9223372036854775808 ≤ d) (hd2 : d ≤ 9223372036854775807) :
    Calls Try.prog 10 #[.slice Ab nb cb, .agg #[.int .u64 (t : Int), .slice A n c, .string a, .int .i64 d, .string x]] w fun e w' => e = .returned (.bool true) ∧ Below w.heap.size w w' :=
  (objectOdd_core w Ab nb cb t A n c a d x).mono fun _ _ h => ⟨h.1, h.2.below⟩
end Go.Proofs.Ytkmnkbmmgopldaa
