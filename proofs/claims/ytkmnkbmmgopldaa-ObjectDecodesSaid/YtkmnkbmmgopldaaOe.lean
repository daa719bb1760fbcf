/-
  Entries that came in; entries: are they the same?
-/
import Derived.Test.YtkmnkbmmgopldaaD6
import Derived.BigQuiet
import Derived.Laws.StructEq
namespace Go.Proofs.Ytkmnkbmmgopldaa
open Go.Joins Go.ChangeShapes Go.WideShapes Go.ChangeAt Go.RowKit Go.Deep
set_option linter.unusedVariables false
set_option linter.unusedSimpArgs false
set_option maxRecDepth 100000

/-- An entry by value, as three cells. -/
theorem read_ent {H : Type} {enc : TypeId × Value → H} {W : World} {fuel : Nat} {cs : List Value} {y : DataW H × List MemPlace}
    (hf : DataW.trod enc Try.prog W 0 (fun _ => true) true fuel 35 cs = some y) :
    ∃ x : Ent, cs = encE x ∧ x.1.size ≤ maxLen ∧ x.2.2 < 18446744073709551616 := by
  obtain ⟨ys, n, -, -, hlen, hyl, hfd⟩ := DataW.trod_struct Try.underlying35 hf
  have hl3 : cs.length = 3 := hlen.trans (by kernel_rfl)
  match cs, hl3 with
  | [u0, u1, u2], _ =>
    have g0 := hfd 0 _ rfl
    have g1 := hfd 1 _ rfl
    have g2 := hfd 2 _ rfl
    have y3 : ys.length = 3 := hyl
    rw [List.getElem?_eq_getElem (by omega)] at g0 g1 g2
    have g0 : DataW.trod enc Try.prog W 0 (fun _ => true) true n 9 [u0] = _ := g0
    have g1 : DataW.trod enc Try.prog W 0 (fun _ => true) true n 4 [u1] = _ := g1
    have g2 : DataW.trod enc Try.prog W 0 (fun _ => true) true n 24 [u2] = _ := g2
    obtain ⟨s, q0, -, w0⟩ := DataW.trod_string Try.underlying9 g0
    obtain ⟨f, q1, -⟩ := DataW.trod_bool Try.underlying4 g1
    obtain ⟨t, q2, -, w2⟩ := DataW.trod_int Try.underlying24 g2
    cases q0
    cases q1
    cases q2
    have hw : 0 ≤ t ∧ t ≤ 18446744073709551615 := by simpa [Lit.wf, IntKind.min, IntKind.max, IntKind.signed, IntKind.bits] using w2
    have ht : ((t.toNat : Nat) : Int) = t := by omega
    exact ⟨(s, f, t.toNat), by simp [encE, ht], w0, by show t.toNat < _; omega⟩

theorem open_ents {H : Type} {enc : TypeId × Value → H} {W : World} {v : Value} {d : DataW H} {p : List MemPlace} {r : Reach} {b0 : Nat}
    (hval : Value.okWide Try.prog W r b0 22 v) (h : DataW.Trod enc Try.prog W 0 (fun _ => true) true 22 v d p) :
    ∃ (A : Option Addr) (n c : Nat) (xs : List Ent), v = .slice A n c ∧ Es W (.slice A n c) xs ∧ (∀ x ∈ xs, x.1.size ≤ maxLen ∧ x.2.2 < 18446744073709551616) ∧ n ≤ maxLen := by
  obtain ⟨A0, n0, c0, rfl⟩ := okWide_slice Try.underlying22 hval
  obtain ⟨fuel, hf⟩ := h
  rcases DataW.trod_slice Try.underlying22 hf with ⟨hcs, _⟩ | ⟨a, len, cap, elems, rest, n, _, hcs, _, hb, hl, hm, hlen, hel, -, -⟩
  · simp [Value.cells] at hcs
    obtain ⟨rfl, rfl, rfl⟩ := hcs
    exact ⟨_, _, _, [], rfl, Holds.nil W, (fun x hx => by cases hx), by unfold maxLen; omega⟩
  · simp [Value.cells] at hcs
    obtain ⟨rfl, rfl, rfl⟩ := hcs
    have each : ∀ i, i < n0 → ∃ x : Ent, (∀ j u, (encE x)[j]? = some u → W.cell? (a.add (i * 3 + j)) = some u) ∧ x.1.size ≤ maxLen ∧ x.2.2 < 18446744073709551616 := by
      intro i hi
      have h1 := hel i hi
      rw [List.getElem?_eq_getElem (by omega), Option.bind_eq_some_iff] at h1
      obtain ⟨us, h2, h3⟩ := h1
      obtain ⟨x, rfl, x1, x2⟩ := read_ent h3
      refine ⟨x, fun j u hj => ?_, x1, x2⟩
      have h4 := (World.cells?_some h2).2.2 j (List.getElem?_eq_some_iff.1 hj).1
      rw [hj, Go.Deep.add_add] at h4
      exact h4
    obtain ⟨f, hfn⟩ := choose_lt each
    have hlen2 : ((List.range n0).map f).length = n0 := by simp
    refine ⟨_, _, _, (List.range n0).map f, rfl, ⟨some a, c0, by rw [hlen2], by rw [hlen2]; exact hl, hm, fun hp => ?_⟩, ?_, by omega⟩
    · rw [encE_len, hlen2] at hp
      obtain ⟨b, off, spot⟩ := a
      have hc0 := (hfn 0 (by omega)).1 0 _ rfl
      have hspot : spot = none := by simpa [Addr.add] using World.cell?_spot hc0
      subst hspot
      refine ⟨b, off, rfl, fun j u hj => ?_⟩
      have hjl : j < n0 * 3 := by
        have := (List.getElem?_eq_some_iff.1 hj).1
        rwa [encE_len, hlen2] at this
      have hk : j / 3 < n0 := by omega
      have hj3 : j = j / 3 * 3 + j % 3 := by omega
      have := (hfn (j / 3) hk).1 (j % 3) u (by
        rw [hj3, encE_get _ (j / 3) (j % 3) (by rw [hlen2]; exact hk) (by omega)] at hj
        simpa using hj)
      rw [← hj3, Addr.add_lit] at this
      exact this
    · intro x hx
      obtain ⟨i, hi, rfl⟩ := List.mem_map.1 hx
      exact (hfn i (List.mem_range.1 hi)).2

theorem ent_guard (w : World) (x y : Operand) (xs ys : Array Value) : (eqGuard .neq 35 x y (.agg xs) (.agg ys)).run Try.prog w = .ok () w := run_eqGuard_agg w _ _ _ _ _ _ (by kernel_rfl)
theorem ent_neq (w : World) (s s' : ByteArray) (f f' : Bool) (i i' : Nat) : (binOp .neq 35 (.agg #[.string s, .bool f, .int .u64 (i : Int)]) (.agg #[.string s', .bool f', .int .u64 (i' : Int)])).run Try.prog w = .ok (.bool (!decide (s = s' ∧ f = f' ∧ i = i'))) w := by
  have hs := beq_bytes s s'
  rw [run_neq_struct, run_equalIn_agg w _ _ _ _ Try.underlying35 (by kernel_rfl)]
  go_simp
  by_cases h1 : s = s'
  · by_cases h2 : f = f'
    · by_cases h3 : i = i'
      · simp [h1, h2, h3]
      · simp [h1, h2, h3]
        omega
    · simp [h1, h2]
  · simp [h1]
set_option maxHeartbeats 1600000 in
theorem ents_calls (w : World) (A : Option Addr) (n c : Nat) (xs : List Ent) (A' : Option Addr) (n' c' : Nat) (ys : List Ent) (h : Es w (.slice A n c) xs) (h' : Es w (.slice A' n' c') ys) (hn : n ≤ 9223372036854775807) :
    Calls Try.prog 16 #[.slice A n c, .slice A' n' c'] w fun e w' => e = .returned (.bool (decide (xs = ys))) ∧ Chg No w w' := by
  have eg := fun w x y xs ys => ent_guard w x y xs ys
  have en := fun w s s' f f' i i' => ent_neq w s s' f f' i i'
  have HL := Lib.hid h.len
  have HL' := Lib.hid h'.len
  have H := Lib.hid h
  have H' := Lib.hid h'
  clear h h'
  by_cases hnn : n = n'
  · subst hnn
    go_enter Try.func16, Try.ntmps16
    go_wp2
    go_loopw [13] (fun i wr => ∃ k : Nat, k ≤ n ∧ i = .int .i64 (k : Int) ∧ Hid (xs.take k = ys.take k) ∧ Hid (Chg No w wr)) (fun i _ => n - (intOf i).toNat)
    case atStart => exact ⟨0, Nat.zero_le _, rfl, rfl, Chg.refl _ _⟩
    case round =>
      obtain ⟨k, hk, rfl, HN, HC⟩ := hrel
      by_cases hlt : k < n
      · obtain ⟨b, o, rfl, hcell⟩ := (H.out.no HC.out).addr (by rw [HL.out]; omega)
        obtain ⟨b', o', rfl, hcell'⟩ := (H'.out.no HC.out).addr (by rw [HL'.out]; omega)
        obtain ⟨c0, c1, c2⟩ := hcell k (by rw [HL.out]; exact hlt)
        obtain ⟨d0, d1, d2⟩ := hcell' k (by rw [HL'.out]; exact hlt)
        have hT : xs.take (k + 1) = xs.take k ++ [xs[k]'(by rw [HL.out]; exact hlt)] := by rw [List.take_succ_eq_append_getElem]
        have hT' : ys.take (k + 1) = ys.take k ++ [ys[k]'(by rw [HL'.out]; exact hlt)] := by rw [List.take_succ_eq_append_getElem]
        generalize xs[k]'(by rw [HL.out]; exact hlt) = x at *
        generalize ys[k]'(by rw [HL'.out]; exact hlt) = y at *
        have HT := Lib.hid hT
        have HT' := Lib.hid hT'
        obtain ⟨s, f, id⟩ := x
        obtain ⟨s', f', id'⟩ := y
        simp only at c0 c1 c2 d0 d1 d2
        clear hcell hcell' hT hT'
        by_cases hx : s = s' ∧ f = f' ∧ id = id'
        · obtain ⟨rfl, rfl, rfl⟩ := hx
          have hb : decide (s = s ∧ f = f ∧ id = id) = true := decide_eq_true ⟨rfl, rfl, rfl⟩
          go_wp2
          go_quiet (fail)
          go_wp2
          go_roundw
          case rel => exact ⟨k + 1, by omega, by simp, by rw [Hid, HT.out, HT'.out, HN.out], by first | exact HC.out | exact HC.out.drewN _⟩
          case measure => simp [intOf]; omega
        · have hb : decide (s = s' ∧ f = f' ∧ id = id') = false := decide_eq_false hx
          have HF : Hid (decide (xs = ys) = false) := by
            rw [Hid, decide_eq_false_iff_not]
            rintro rfl
            have := HT.out.symm.trans HT'.out
            rw [List.append_cancel_left_eq, List.singleton_inj] at this
            simp only [Prod.mk.injEq] at this
            exact hx this
          clear hx
          go_wp2
          go_quiet (fail)
          go_wp2
          go_ret
          exact ⟨by rw [HF.out]; rfl, by first | exact HC.out | exact HC.out.drewN _⟩
      · have hkn : k = n := by omega
        subst hkn
        have HF : Hid (decide (xs = ys) = true) := by
          rw [Hid, decide_eq_true_iff]
          have := HN.out
          rwa [List.take_of_length_le (by rw [HL.out]; exact Nat.le_refl _), List.take_of_length_le (by rw [HL'.out]; exact Nat.le_refl _)] at this
        go_wp2
        go_ret
        exact ⟨by rw [HF.out]; rfl, HC.out⟩
  · have hb : ((n : Int) != (n' : Int)) = true := by simp; omega
    have HF : Hid (decide (xs = ys) = false) := by
      rw [Hid, decide_eq_false_iff_not]
      rintro rfl
      exact hnn (HL.out.symm.trans HL'.out)
    clear hnn
    go_enter Try.func16, Try.ntmps16
    go_wp2
    go_ret
    exact ⟨by rw [HF.out]; rfl, Chg.refl _ _⟩
end Go.Proofs.Ytkmnkbmmgopldaa
