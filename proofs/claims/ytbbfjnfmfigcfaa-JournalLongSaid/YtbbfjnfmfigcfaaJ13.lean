/-
  The reference's Read.
-/
import Derived.Test.YtbbfjnfmfigcfaaJ12
import Derived.Test.YtbbfjnfmfigcfaaJ11
import Derived.Test.YtbbfjnfmfigcfaaRd1
import Derived.Lib.Strings
namespace Go.Proofs.Ytbbfjnfmfigcfaa
open Go.RowKit Go.Shelf
set_option linter.unusedVariables false
set_option linter.unusedSimpArgs false
set_option maxRecDepth 100000

theorem step_cases (xs : List UInt8) (hne : xs ≠ []) (v k : Nat) (e : Int) (hN : numF 0 0 xs = (v, k, e)) :
    (e = 110 ∧ stepF xs = none) ∨ (e ≠ 110 ∧ (e ≠ 0 ∨ 262144 < v) ∧ stepF xs = some none) ∨ (e = 0 ∧ v ≤ 262144 ∧ xs.length - k < v + 8 ∧ stepF xs = none) ∨
    (e = 0 ∧ v ≤ 262144 ∧ v + 8 ≤ xs.length - k ∧ (recF ((xs.drop k).take v)).length = k + v + 8 ∧ recF ((xs.drop k).take v) ≠ xs.take (k + v + 8) ∧ stepF xs = some none) ∨
    (e = 0 ∧ v ≤ 262144 ∧ v + 8 ≤ xs.length - k ∧ (recF ((xs.drop k).take v)).length = k + v + 8 ∧ recF ((xs.drop k).take v) = xs.take (k + v + 8) ∧ stepF xs = some (some ((xs.drop k).take v))) := by
  have hk : k ≤ xs.length := by have := (numF_at xs).1; rw [hN] at this; exact this
  by_cases h1 : e = 110
  · left; subst h1; exact ⟨rfl, by simp [stepF, hN]⟩
  by_cases h2 : e ≠ 0 ∨ 262144 < v
  · right; left
    refine ⟨h1, h2, ?_⟩
    unfold stepF
    rw [hN, if_neg (by simp only; rintro (h | h); exact hne h; exact h1 h), if_pos h2]
  have h3 : e = 0 ∧ v ≤ 262144 := by
    simp only [not_or, Decidable.not_not, Nat.not_lt] at h2; exact h2
  obtain ⟨rfl, hv⟩ := h3
  by_cases h4 : xs.length - k < v + 8
  · right; right; left
    refine ⟨rfl, hv, h4, ?_⟩
    unfold stepF
    rw [hN, if_neg (by simp only; rintro (h | h); exact hne h; exact h1 h), if_neg h2, if_pos h4]
  · right; right; right
    have hpl : ((xs.drop k).take v).length = v := by rw [List.length_take, List.length_drop]; omega
    have hleb := numF_leb0 xs v k hN
    have hll : (leb v).length = k := by rw [hleb, List.length_take]; omega
    have hrl : (recF ((xs.drop k).take v)).length = k + v + 8 := by
      unfold recF
      rw [hpl]
      simp only [List.length_append, hll, hpl, wide_len]
    by_cases h5 : beF 0 (((xs.drop k).drop v).take 8) = hashF ((xs.drop k).take v)
    · right
      have hs : stepF xs = some (some ((xs.drop k).take v)) := by
        unfold stepF
        rw [hN, if_neg (by simp only; rintro (h | h); exact hne h; exact h1 h), if_neg h2, if_neg h4, if_pos h5]
      refine ⟨rfl, hv, by omega, hrl, ?_, hs⟩
      obtain ⟨_, _, _, _, _, _, _, h8, h9⟩ := step_rec hs
      rw [h8, hN, hpl]
    · left
      refine ⟨rfl, hv, by omega, hrl, ?_, ?_⟩
      · intro he
        apply h5
        have e1 : xs.take (k + v + 8) = xs.take k ++ (xs.drop k).take v ++ ((xs.drop k).drop v).take 8 := by
          rw [List.drop_drop, List.take_add, List.take_add]
        rw [e1] at he
        unfold recF at he
        rw [hpl, hleb] at he
        have := List.append_cancel_left he
        rw [← this]
        exact beF_wide _ (hashF_lt _)
      · unfold stepF
        rw [hN, if_neg (by simp only; rintro (h | h); exact hne h; exact h1 h), if_neg h2, if_neg h4, if_neg h5]

/-- A row of slices of bytes of the call's own; the bytes lay in world w0. -/
def Own2 (w0 : World) (base : Nat) (w : World) (v : Value) (n : Nat) (ls : List (List UInt8)) : Prop :=
  ∃ vs : List Value, ls.length = n ∧ w.ownsRow base 22 1 v n vs ∧ (∀ i (h : i < vs.length) (h' : i < ls.length), Bytes w0 vs[i] ls[i])
theorem Own2.nil (w0 : World) (base : Nat) (w : World) : Own2 w0 base w (.slice none 0 0) 0 [] := ⟨[], rfl, World.ownsRow_nil _ _ _ _, fun i h => by simp at h⟩
theorem Own2.chg {S : Nat → Prop} {w0 w w' : World} {base : Nat} {v : Value} {n : Nat} {ls : List (List UInt8)} (h : Own2 w0 base w v n ls) (hc : Chg S w w') (hs : ∀ b, v.ownBlock = some b → ¬ S b) : Own2 w0 base w' v n ls := by
  obtain ⟨vs, h1, h2, h3⟩ := h
  exact ⟨vs, h1, ownsRow_chg h2 hc hs, h3⟩
theorem Own2.block {w0 w : World} {base : Nat} {v : Value} {n : Nat} {ls : List (List UInt8)} (h : Own2 w0 base w v n ls) : ∀ b, v.ownBlock = some b → base ≤ b ∧ b < w.heap.size := by
  obtain ⟨vs, h1, h2, h3⟩ := h
  exact World.ownsRow.lt h2
theorem Own2.ne {w0 w : World} {base : Nat} {v : Value} {n g : Nat} {ls : List (List UInt8)} {cs : Array Value} {t : TypeId} {fz : Nat × Nat} (h : Own2 w0 base w v n ls) (hg : w.heap[g]? = some (.cells cs t fz)) (ht : t ≠ 22) : ∀ b, v.ownBlock = some b → b ≠ g := by
  rintro b hb rfl
  obtain ⟨vs, h1, h2, h3⟩ := h
  obtain ⟨cc, fz, hcc⟩ := ownsRow_cells h2 b hb
  have := hg.symm.trans hcc
  cases this
  exact ht rfl
theorem Own2.app {w0 w' : World} {base : Nat} {v' x : Value} {n : Nat} {ls : List (List UInt8)} {p : List UInt8} {vs : List Value} (h1 : ls.length = n) (h2 : w'.ownsRow base 22 1 v' (n + 1) (vs ++ [x])) (hl : vs.length = n) (h3 : ∀ i (h : i < vs.length) (h' : i < ls.length), Bytes w0 vs[i] ls[i]) (hx : Bytes w0 x p) : Own2 w0 base w' v' (n + 1) (ls ++ [p]) := by
  refine ⟨vs ++ [x], by rw [List.length_append, h1]; rfl, h2, fun i h h' => ?_⟩
  by_cases hi : i < n
  · rw [List.getElem_append_left (by omega), List.getElem_append_left (by omega)]
    exact h3 i (by omega) (by omega)
  · have : i = n := by simp at h; omega
    subst this
    have e1 : (vs ++ [x])[i] = x := by rw [List.getElem_append_right (by omega)]; simp [hl]
    have e2 : (ls ++ [p])[i] = p := by rw [List.getElem_append_right (by omega)]; simp [h1]
    rw [e1, e2]
    exact hx
theorem infoSl : (Try.prog.info? 22).map (fun i => (i.zero, i.size, i.bytes)) = some (some (.slice none 0 0), 1, 24) := by kernel_rfl
theorem three_cells {w : World} {g : Nat} {a b c : Value} {t : TypeId} (h : w.heap[g]? = some (.cells #[a, b, c] t (0, 0))) : w.cell? ⟨g, 0, none⟩ = some a ∧ w.cell? ⟨g, 1, none⟩ = some b ∧ w.cell? ⟨g, 2, none⟩ = some c ∧ w.frozen? ⟨g, 0, none⟩ = false ∧ w.frozen? ⟨g, 1, none⟩ = false ∧ w.frozen? ⟨g, 2, none⟩ = false := by
  simp [World.cell?, World.frozen?, h]
theorem three_set {w : World} {g : Nat} {cs : Array Value} {t : TypeId} (h : w.heap[g]? = some (.cells cs t (0, 0))) (i : Nat) (u : Value) : (w.setCell ⟨g, i, none⟩ u).heap[g]? = some (.cells (cs.setIfInBounds i u) t (0, 0)) := by
  unfold World.setCell
  simp [Array.getElem?_modify, h]
theorem Sl2.ofOwn2 {w0 w : World} {base n : Nat} {v : Value} {ls : List (List UInt8)} (h : Own2 w0 base w v n ls) (hc : Chg No w0 w) : Sl2 w v ls := by
  obtain ⟨vs, h1, h2, h3⟩ := h
  have hv : vs.length = n := by have := h2.1; simpa using this
  subst h1
  exact ⟨vs, hv, Holds.ofOwn h2, fun i hi hi' => (h3 i hi hi').no hc⟩
/-- The result's cells, stored. -/
theorem three_done {w w0 : World} {g : Nat} {a b c : Value} {cs : Array Value} {t : TypeId} (h : w.heap[g]? = some (.cells cs t (0, 0))) (hs : cs.size = 3) (hc : Chg No w0 w) (hg : w0.heap.size ≤ g) :
    (((w.setCell ⟨g, 0, none⟩ a).setCell ⟨g, 1, none⟩ b).setCell ⟨g, 2, none⟩ c).heap[g]? = some (.cells #[a, b, c] t (0, 0)) ∧ Chg (One g) w (((w.setCell ⟨g, 0, none⟩ a).setCell ⟨g, 1, none⟩ b).setCell ⟨g, 2, none⟩ c) ∧ Chg No w0 (((w.setCell ⟨g, 0, none⟩ a).setCell ⟨g, 1, none⟩ b).setCell ⟨g, 2, none⟩ c) := by
  have hh := three_set (three_set (three_set h 0 a) 1 b) 2 c
  refine ⟨?_, ((Chg.put w g 0 a).trans (Chg.put _ g 1 b) (fun _ _ x => x)).trans (Chg.put _ g 2 c) (fun _ _ x => x), ?_⟩
  · rw [hh]
    obtain ⟨l⟩ := cs
    match l, hs with
    | [x, y, z], _ => rfl
  · exact ((hc.setCell (p := ⟨g, 0, none⟩) (.inl hg) a).setCell (p := ⟨g, 1, none⟩) (.inl hg) b).setCell (p := ⟨g, 2, none⟩) (.inl hg) c

set_option maxHeartbeats 6400000 in
theorem readref_calls (w0 w : World) (hc0 : Chg No w0 w) (A : Option Addr) (n c : Nat) (file : List UInt8) (ps : List (List UInt8)) (wrong : Bool) (hR : Rds file ps wrong) (hb : Bytes w0 (.slice A n c) file) (hl : file.length = n) (hn : n ≤ 4194304) :
    Calls Try.prog 10 #[.slice A n c] w fun e w' => ∃ L cd, e = .returned (.agg #[.slice L ps.length cd, .int .i64 ((encF ps).length : Int), .bool wrong]) ∧ Own2 w0 w.heap.size w' (.slice L ps.length cd) ps.length ps ∧ Chg No w w' := by
  have hnc : n ≤ c ∧ c ≤ maxLen := by
    obtain ⟨A', c', he, h1, h2⟩ := hb.form
    simp only [Value.slice.injEq] at he
    obtain ⟨-, -, rfl⟩ := he
    omega
  obtain ⟨hnc, hcm⟩ := hnc
  unfold maxLen at hcm
  have HBW := Lib.hid hb
  have HB := Lib.hid (hb.no hc0)
  have HL := Lib.hid hl
  have HR := Lib.hid hR
  have HC0 := Lib.hid hc0
  clear hb hl hR hc0
  have e1 := heap_alloc_new (w.alloc (.cells #[.slice none 0 0, .int .i64 0, .bool false] 28)) (.cells #[.slice none 0 0, .int .i64 0, .bool false] 28)
  rw [World.size_alloc] at e1
  have e0 := ((Chg.refl No (w.alloc (.cells #[.slice none 0 0, .int .i64 0, .bool false] 28))).alloc (.cells #[.slice none 0 0, .int .i64 0, .bool false] 28)).heap (heap_alloc_new w (.cells #[.slice none 0 0, .int .i64 0, .bool false] 28)) (fun x => x)
  have E0 := Lib.hid e0
  have E1 := Lib.hid e1
  have HC2 : Hid (Chg No w ((w.alloc (.cells #[.slice none 0 0, .int .i64 0, .bool false] 28)).alloc (.cells #[.slice none 0 0, .int .i64 0, .bool false] 28))) := ((Chg.refl No w).alloc _).alloc _
  clear e0 e1
  go_enter Try.func10, Try.ntmps10
  go_wp2
  generalize (w.alloc (.cells #[.slice none 0 0, .int .i64 0, .bool false] 28)).alloc (.cells #[.slice none 0 0, .int .i64 0, .bool false] 28) = w2 at *
  go_loopg [4] n (fun gk _ wr => ∃ (done : List (List UInt8)) (rest : List UInt8) (L : Option Addr) (nd cd sz : Nat), rest.length ≤ gk ∧ Hid (file = encF done ++ rest) ∧ Hid (rest = file.drop sz) ∧ Hid ((encF done).length = sz) ∧ sz ≤ n ∧ Hid (∀ qs v, Rds rest qs v → Rds file (done ++ qs) v) ∧ Hid (done.length = nd) ∧ Hid (Own2 w0 w.heap.size wr (.slice L nd cd) nd done) ∧ Hid (wr.heap[w.heap.size]? = some (.cells #[.slice none 0 0, .int .i64 0, .bool false] 28 (0, 0))) ∧ Hid (wr.heap[w.heap.size + 1]? = some (.cells #[.slice L nd cd, .int .i64 (sz : Int), .bool false] 28 (0, 0))) ∧ Hid (Chg No w wr))
  case atStart => exact ⟨[], file, none, 0, 0, 0, by have := HL.out; omega, rfl, rfl, rfl, by omega, fun _ _ h => h, rfl, Own2.nil _ _ _, E0.out, E1.out, HC2.out⟩
  case round =>
    obtain ⟨done, rest, L, nd, cd, sz, hgk, HX, HRE, HSZ, hsn, HK, HLD, HO2, HR0, HF0, HC⟩ := hrel
    obtain ⟨r0, r1, r2, rf0, rf1, rf2⟩ := three_cells HR0.out
    obtain ⟨c0, c1, c2, cf0, cf1, cf2⟩ := three_cells HF0.out
    rcases Nat.eq_or_lt_of_le hsn with hse | hlt
    · have q1 : ¬ ((sz : Int) < (n : Int)) := by omega
      have hre : rest = [] := by rw [HRE.out]; exact List.drop_of_length_le (by have := HL.out; omega)
      have hps : ps = done ∧ wrong = false := by
        have h2 := HR.out.unique (HK.out [] false (.stop (by rw [hre]; simp [stepF])))
        rw [List.append_nil] at h2
        exact h2
      obtain ⟨rfl, rfl⟩ := hps
      clear hre
      subst hse
      go_wp2
      obtain ⟨z1, z2, z3⟩ := three_done (a := .slice L nd cd) (b := .int .i64 (sz : Int)) (c := .bool false) HR0.out rfl HC.out (Nat.le_refl _)
      obtain ⟨y0, y1, y2, -, -, -⟩ := three_cells z1
      refine bodyPost_ret (v := .agg #[.slice L nd cd, .int .i64 (sz : Int), .bool false]) (by simp [results, Try.results10, go_sem, y0, y1, y2]) rfl ?_
      refine ⟨L, cd, ?_, ?_, z3⟩
      · rw [HLD.out, HSZ.out]
      · rw [HLD.out]
        exact HO2.out.chg z2 (fun b hb => HO2.out.ne HR0.out (by decide) b hb)
    · have q1 : (sz : Int) < (n : Int) := by omega
      have hrl : rest.length = n - sz := by rw [HRE.out, List.length_drop, HL.out]
      have hne : rest ≠ [] := by intro h; rw [h] at hrl; simp at hrl; omega
      have hfl : 0 < file.length := by have := HL.out; omega
      obtain ⟨b, o, rfl, -⟩ := HB.out.addr hfl
      have hcs : c ≠ sz := by omega
      have hcs' : (c = sz) = False := eq_false hcs
      have hrb : Bytes wr (.slice (some ⟨b, o + sz, none⟩) (n - sz) (c - sz)) rest := by
        have h := Bytes.tail (HB.out.no HC.out) HL.out hsn hcs
        rw [← HRE.out] at h
        exact h
      have hrbw : Bytes w0 (.slice (some ⟨b, o + sz, none⟩) (n - sz) (c - sz)) rest := by
        have h := Bytes.tail HBW.out HL.out hsn hcs
        rw [← HRE.out] at h
        exact h
      obtain ⟨v, k, e, hN⟩ : ∃ v k e, numF 0 0 rest = (v, k, e) := ⟨_, _, _, rfl⟩
      have hkl : k ≤ n - sz := by have := (numF_at rest).1; rw [hN, hrl] at this; exact this
      have hv64 : v < 18446744073709551616 := by have := (numF_at rest).2.1; rw [hN] at this; exact this
      have hcase := step_cases rest hne v k e hN
      have hnum := rnumber_calls wr (some ⟨b, o + sz, none⟩) (n - sz) (c - sz) rest hrb hrl (by omega)
      rw [hN] at hnum
      have HNUM := Lib.hid hnum
      have HRB := Lib.hid hrb
      have HRBW := Lib.hid hrbw
      have HRL := Lib.hid hrl
      clear hN hnum hrb hrbw hrl hfl
      rw [HRL.out] at hcase
      obtain ⟨rl, hrl2⟩ : ∃ rl, n - sz = rl := ⟨_, rfl⟩
      obtain ⟨rc, hrc2⟩ : ∃ rc, c - sz = rc := ⟨_, rfl⟩
      have hrlc : rl ≤ rc := by omega
      have hrln : rl ≤ n := by omega
      have hrln2 : sz + rl = n := by omega
      have hrcc : rc ≤ c := by omega
      rw [hrl2] at HNUM HRB HRBW HRL hcase hkl
      rw [hrc2] at HNUM HRB HRBW
      go_wp2_with fail
      clear hrl2 hrc2 c0 c1 c2
      refine HNUM.out.mono ?_
      rintro e' w' ⟨rfl, rfl⟩
      obtain ⟨c0, c1, c2, -, -, -⟩ := three_cells HF0.out
      clear HNUM
      rcases hcase with ⟨rfl, hst⟩ | ⟨h110, hor, hst⟩ | ⟨rfl, hv, hsh, hst⟩ | ⟨rfl, hv, hsh, hrec, hneq, hst⟩ | ⟨rfl, hv, hsh, hrec, heq, hst⟩
      · have hps : ps = done ∧ wrong = false := by
          have h2 := HR.out.unique (HK.out [] false (.stop hst))
          rw [List.append_nil] at h2
          exact h2
        obtain ⟨rfl, rfl⟩ := hps
        clear hst
        go_wp2
        obtain ⟨z1, z2, z3⟩ := three_done (a := .slice L nd cd) (b := .int .i64 (sz : Int)) (c := .bool false) HR0.out rfl HC.out (Nat.le_refl _)
        obtain ⟨y0, y1, y2, -, -, -⟩ := three_cells z1
        refine bodyPost_ret (v := .agg #[.slice L nd cd, .int .i64 (sz : Int), .bool false]) (by simp [results, Try.results10, go_sem, y0, y1, y2]) rfl ?_
        refine ⟨L, cd, ?_, ?_, z3⟩
        · rw [HLD.out, HSZ.out]
        · rw [HLD.out]
          exact HO2.out.chg z2 (fun b hb => HO2.out.ne HR0.out (by decide) b hb)
      · have hps : ps = done ∧ wrong = true := by
          have h2 := HR.out.unique (HK.out [] true (.wrong hst))
          rw [List.append_nil] at h2
          exact h2
        obtain ⟨rfl, rfl⟩ := hps
        have b110 : (e == 110) = false := beq_eq_false_iff_ne.2 h110
        clear hst
        by_cases hz : e = 0
        · subst hz
          have hv : 262144 < v := by rcases hor with h | h; exact absurd rfl h; exact h
          have hv2 : (262144 : Int) < (v : Int) := by omega
          clear hor
          go_wp2
          have hpf := Chg.put wr (w.heap.size + 1) 2 (.bool true)
          have HR0' := Lib.hid (hpf.heap HR0.out (by show ¬ (w.heap.size = w.heap.size + 1); omega))
          have HO2' := Lib.hid (HO2.out.chg hpf (fun b hb e => HO2.out.ne HF0.out (by decide) b hb e))
          have HC' := Lib.hid (HC.out.setCell (p := ⟨w.heap.size + 1, 2, none⟩) (.inl (by show w.heap.size ≤ w.heap.size + 1; omega)) (.bool true))
          obtain ⟨z1, z2, z3⟩ := three_done (a := .slice L nd cd) (b := .int .i64 (sz : Int)) (c := .bool true) HR0'.out rfl HC'.out (Nat.le_refl _)
          obtain ⟨y0, y1, y2, -, -, -⟩ := three_cells z1
          refine bodyPost_ret (v := .agg #[.slice L nd cd, .int .i64 (sz : Int), .bool true]) (by simp [results, Try.results10, go_sem, y0, y1, y2]) rfl ?_
          refine ⟨L, cd, ?_, ?_, z3⟩
          · rw [HLD.out, HSZ.out]
          · rw [HLD.out]
            exact HO2'.out.chg z2 (fun b hb => HO2'.out.ne HR0'.out (by decide) b hb)
        · have b0 : (e == 0) = false := beq_eq_false_iff_ne.2 hz
          clear hor
          go_wp2
          have hpf := Chg.put wr (w.heap.size + 1) 2 (.bool true)
          have HR0' := Lib.hid (hpf.heap HR0.out (by show ¬ (w.heap.size = w.heap.size + 1); omega))
          have HO2' := Lib.hid (HO2.out.chg hpf (fun b hb e => HO2.out.ne HF0.out (by decide) b hb e))
          have HC' := Lib.hid (HC.out.setCell (p := ⟨w.heap.size + 1, 2, none⟩) (.inl (by show w.heap.size ≤ w.heap.size + 1; omega)) (.bool true))
          obtain ⟨z1, z2, z3⟩ := three_done (a := .slice L nd cd) (b := .int .i64 (sz : Int)) (c := .bool true) HR0'.out rfl HC'.out (Nat.le_refl _)
          obtain ⟨y0, y1, y2, -, -, -⟩ := three_cells z1
          refine bodyPost_ret (v := .agg #[.slice L nd cd, .int .i64 (sz : Int), .bool true]) (by simp [results, Try.results10, go_sem, y0, y1, y2]) rfl ?_
          refine ⟨L, cd, ?_, ?_, z3⟩
          · rw [HLD.out, HSZ.out]
          · rw [HLD.out]
            exact HO2'.out.chg z2 (fun b hb => HO2'.out.ne HR0'.out (by decide) b hb)
      · have hps : ps = done ∧ wrong = false := by
          have h2 := HR.out.unique (HK.out [] false (.stop hst))
          rw [List.append_nil] at h2
          exact h2
        obtain ⟨rfl, rfl⟩ := hps
        clear hst
        have hv2 : ¬ (262144 : Int) < (v : Int) := by omega
        have hwv : IntKind.i64.wrap (v : Int) = (v : Int) := by rw [IntKind.wrap_i64]; omega
        have hsh2 : (rl : Int) - (k : Int) < (v : Int) + 8 := by omega
        go_wp2
        obtain ⟨z1, z2, z3⟩ := three_done (a := .slice L nd cd) (b := .int .i64 (sz : Int)) (c := .bool false) HR0.out rfl HC.out (Nat.le_refl _)
        obtain ⟨y0, y1, y2, -, -, -⟩ := three_cells z1
        refine bodyPost_ret (v := .agg #[.slice L nd cd, .int .i64 (sz : Int), .bool false]) (by simp [results, Try.results10, go_sem, y0, y1, y2]) rfl ?_
        refine ⟨L, cd, ?_, ?_, z3⟩
        · rw [HLD.out, HSZ.out]
        · rw [HLD.out]
          exact HO2.out.chg z2 (fun b hb => HO2.out.ne HR0.out (by decide) b hb)
      · have hps : ps = done ∧ wrong = true := by
          have h2 := HR.out.unique (HK.out [] true (.wrong hst))
          rw [List.append_nil] at h2
          exact h2
        obtain ⟨rfl, rfl⟩ := hps
        clear hst
        have hneq2 := hneq
        have HNEQ := Lib.hid hneq
        have hv2 : ¬ (262144 : Int) < (v : Int) := by omega
        have hwv : IntKind.i64.wrap (v : Int) = (v : Int) := by rw [IntKind.wrap_i64]; omega
        have hsh2 : ¬ (rl : Int) - (k : Int) < (v : Int) + 8 := by omega
        have hrck : rc ≠ k := by omega
        have hrck' : (rc = k) = False := eq_false hrck
        have hkv : k + v ≤ rc := by omega
        obtain ⟨P, hP⟩ : ∃ P, (rest.drop k).take v = P := ⟨_, rfl⟩
        rw [hP] at hrec HNEQ
        have hPl : P.length = v := by rw [← hP, List.length_take, List.length_drop, HRL.out]; omega
        have hpw : Bytes w0 (.slice (some ⟨b, o + sz + k, none⟩) v (rc - k)) P := by
          have h := Bytes.tail HRBW.out HRL.out hkl hrck
          have h2 := Bytes.takeN (k := v) (m := rc - k) h (by rw [List.length_drop, HRL.out]) (by omega) (by omega) (Nat.le_refl _)
          rw [hP] at h2
          exact h2
        have HPW := Lib.hid hpw
        have HPL := Lib.hid hPl
        have HREC := Lib.hid hrec
        have hq8 : k + v + 8 ≤ rl := by omega
        have HHP := Lib.hid hP
        clear hneq hneq2 hP hPl hpw hrec
        go_wp2_with fail
        have hrr := refrecord_calls wr (some ⟨b, o + sz + k, none⟩) v (rc - k) P ((HPW.out.no HC0.out).no HC.out) HPL.out (by omega)
        try rw [show k + v - k = v from by omega]
        refine hrr.mono ?_
        clear hrr
        rintro e' w5 ⟨v5, rfl, ho5, hc5⟩
        obtain ⟨A5, n5, c5, rfl, HL5, HO5⟩ := ho5.form
        have hn5 : n5 = k + v + 8 := by have := HL5.out; rw [HREC.out] at this; exact this.symm
        subst hn5
        have HC5 := Lib.hid hc5
        clear ho5 hc5
        have ht1 := fun nn => (HO5.out.bytes.no ((Chg.refl No w5).drewN nn)).text (P := Try.prog) (src := 22) (dst := 9) Try.underlying22 Try.underlying5 Try.underlying9
        have ht2 := fun nn => ((Bytes.takeN (k := k + v + 8) (m := rc) (HRB.out.no (HC5.out)) HRL.out hq8 (by omega) (Nat.le_refl _)).no ((Chg.refl No w5).drewN nn)).text (P := Try.prog) (src := 22) (dst := 9) Try.underlying22 Try.underlying5 Try.underlying9
        have hq9 : k + v + 8 ≤ rc := by omega
        go_wp2
        have hbne : ((mkS (recF P)).toList == (mkS (rest.take (k + v + 8))).toList) = false := by
          rw [beq_eq_false_iff_ne, Lib.toList_data, Lib.toList_data, mkS_list, mkS_list]
          exact HNEQ.out
        go_quiet (skip)
        have hcdr : Chg No wr (w5.drewN nq) := HC5.out.drewN nq
        have HF0 := Lib.hid (hcdr.heap HF0.out (fun x => x))
        have HR0 := Lib.hid (hcdr.heap HR0.out (fun x => x))
        have HO2 := Lib.hid (HO2.out.chg hcdr (fun _ _ x => x))
        have HC := Lib.hid (HC.out.no hcdr)
        obtain ⟨c0, c1, c2, cf0, cf1, cf2⟩ := three_cells HF0.out
        obtain ⟨r0, r1, r2, rf0, rf1, rf2⟩ := three_cells HR0.out
        clear ht1 ht2
        generalize w5.drewN nq = w6 at *
        go_wp2
        have hpf := Chg.put w6 (w.heap.size + 1) 2 (.bool true)
        have HR0' := Lib.hid (hpf.heap HR0.out (by show ¬ (w.heap.size = w.heap.size + 1); omega))
        have HO2' := Lib.hid (HO2.out.chg hpf (fun b hb e => HO2.out.ne HF0.out (by decide) b hb e))
        have HC' := Lib.hid (HC.out.setCell (p := ⟨w.heap.size + 1, 2, none⟩) (.inl (by show w.heap.size ≤ w.heap.size + 1; omega)) (.bool true))
        obtain ⟨z1, z2, z3⟩ := three_done (a := .slice L nd cd) (b := .int .i64 (sz : Int)) (c := .bool true) HR0'.out rfl HC'.out (Nat.le_refl _)
        obtain ⟨y0, y1, y2, -, -, -⟩ := three_cells z1
        refine bodyPost_ret (v := .agg #[.slice L nd cd, .int .i64 (sz : Int), .bool true]) (by simp [results, Try.results10, go_sem, y0, y1, y2]) rfl ?_
        refine ⟨L, cd, ?_, ?_, z3⟩
        · rw [HLD.out, HSZ.out]
        · rw [HLD.out]
          exact HO2'.out.chg z2 (fun b hb => HO2'.out.ne HR0'.out (by decide) b hb)
      · have heq2 := heq
        have HNEQ := Lib.hid heq
        have hv2 : ¬ (262144 : Int) < (v : Int) := by omega
        have hwv : IntKind.i64.wrap (v : Int) = (v : Int) := by rw [IntKind.wrap_i64]; omega
        have hsh2 : ¬ (rl : Int) - (k : Int) < (v : Int) + 8 := by omega
        have hrck : rc ≠ k := by omega
        have hrck' : (rc = k) = False := eq_false hrck
        have hkv : k + v ≤ rc := by omega
        obtain ⟨P, hP⟩ : ∃ P, (rest.drop k).take v = P := ⟨_, rfl⟩
        rw [hP] at hrec HNEQ
        have hPl : P.length = v := by rw [← hP, List.length_take, List.length_drop, HRL.out]; omega
        have hpw : Bytes w0 (.slice (some ⟨b, o + sz + k, none⟩) v (rc - k)) P := by
          have h := Bytes.tail HRBW.out HRL.out hkl hrck
          have h2 := Bytes.takeN (k := v) (m := rc - k) h (by rw [List.length_drop, HRL.out]) (by omega) (by omega) (Nat.le_refl _)
          rw [hP] at h2
          exact h2
        have HPW := Lib.hid hpw
        have HPL := Lib.hid hPl
        have HREC := Lib.hid hrec
        have hq8 : k + v + 8 ≤ rl := by omega
        have HHP := Lib.hid hP
        clear heq heq2 hP hPl hpw hrec
        go_wp2_with fail
        have hrr := refrecord_calls wr (some ⟨b, o + sz + k, none⟩) v (rc - k) P ((HPW.out.no HC0.out).no HC.out) HPL.out (by omega)
        try rw [show k + v - k = v from by omega]
        refine hrr.mono ?_
        clear hrr
        rintro e' w5 ⟨v5, rfl, ho5, hc5⟩
        obtain ⟨A5, n5, c5, rfl, HL5, HO5⟩ := ho5.form
        have hn5 : n5 = k + v + 8 := by have := HL5.out; rw [HREC.out] at this; exact this.symm
        subst hn5
        have HC5 := Lib.hid hc5
        clear ho5 hc5
        have ht1 := fun nn => (HO5.out.bytes.no ((Chg.refl No w5).drewN nn)).text (P := Try.prog) (src := 22) (dst := 9) Try.underlying22 Try.underlying5 Try.underlying9
        have ht2 := fun nn => ((Bytes.takeN (k := k + v + 8) (m := rc) (HRB.out.no (HC5.out)) HRL.out hq8 (by omega) (Nat.le_refl _)).no ((Chg.refl No w5).drewN nn)).text (P := Try.prog) (src := 22) (dst := 9) Try.underlying22 Try.underlying5 Try.underlying9
        have hq9 : k + v + 8 ≤ rc := by omega
        go_wp2
        have hbeq : ((mkS (recF P)).toList == (mkS (rest.take (k + v + 8))).toList) = true := by
          rw [HNEQ.out]; exact beq_self_eq_true _
        go_quiet (skip)
        have hcdr : Chg No wr (w5.drewN nq) := HC5.out.drewN nq
        have HF0 := Lib.hid (hcdr.heap HF0.out (fun x => x))
        have HR0 := Lib.hid (hcdr.heap HR0.out (fun x => x))
        have HO2 := Lib.hid (HO2.out.chg hcdr (fun _ _ x => x))
        have HC := Lib.hid (HC.out.no hcdr)
        obtain ⟨c0, c1, c2, cf0, cf1, cf2⟩ := three_cells HF0.out
        clear ht1 ht2
        generalize w5.drewN nq = w6 at *
        obtain ⟨vs, g1, g2, g3⟩ := HO2.out
        have hvl : vs.length = nd := by have := g2.1; simpa using this
        have hnd : nd ≤ 4194304 := by
          have h1 := encF_len done
          have h2 := HSZ.out
          have h3 := HLD.out
          omega
        have c0a := fun o => ((Chg.refl No w6).alloc o).cell c0 (fun x => x)
        have HG1 := Lib.hid g1
        have HG2 := Lib.hid g2
        have HG3 := Lib.hid g3
        have HVL := Lib.hid hvl
        have hwsz := HC.out.size
        clear g1 g2 g3 hvl
        go_wp2_with (at_builtin; (refine wpList_app2 rfl (.tmp 66) (.tmp 68) 26 26 rfl w.heap.size 22 (.slice none 0 0) 1 24 infoSl Try.underlying26 rfl (by decide) (.slice L nd cd) (.slice (some ⟨w6.heap.size, 0, none⟩) 1 1) nd 1 vs [.slice (some ⟨b, o + sz + k, none⟩) v (rc - k)] rfl rfl ?own ?src ?b1 ?b2 ?b3 ?_; (case own => exact World.ownsRow.alloc HG2.out _); (case src => exact Src.one Try.underlying26 _ rfl); (case b1 => omega); (case b2 => unfold maxLen; omega); (case b3 => simp; omega); intro vl w7 hown hg hfrom; refine Hid.out ?_))
        refine Lib.hid ?_
        have hcg : Chg (fun i => some i = (Value.slice L nd cd).ownBlock) w6 w7 := (((Chg.refl No w6).alloc _).mono (fun _ _ x => x.elim)).grown hg (fun k hk => .inr hk.symm)
        have hneF : ¬ some (w.heap.size + 1) = (Value.slice L nd cd).ownBlock := fun e => HO2.out.ne HF0.out (by decide) _ e.symm rfl
        have hneR : ¬ some w.heap.size = (Value.slice L nd cd).ownBlock := fun e => HO2.out.ne HR0.out (by decide) _ e.symm rfl
        have HF7 := Lib.hid (hcg.heap HF0.out hneF)
        have HR7 := Lib.hid (hcg.heap HR0.out hneR)
        have HC7 : Hid (Chg No w w7) := HC.out.trans hcg (fun i hi e => by
          have := (HO2.out.block i e.symm).1
          omega)
        have hO7 : Own2 w0 w.heap.size w7 vl (nd + 1) (done ++ [P]) := Own2.app HG1.out hown HVL.out HG3.out HPW.out
        obtain ⟨LN, cn, rfl⟩ := ownsRow_form hown
        have HO7 := Lib.hid hO7
        clear hown hg hfrom hcg hneF hneR hO7 c0a c0 c1 c2 cf0 cf1 cf2 r0 r1 r2 rf0 rf1 rf2
        obtain ⟨c0, c1, c2, cf0, cf1, cf2⟩ := three_cells HF7.out
        have HS8 := Lib.hid (three_set HF7.out 0 (.slice LN (nd + 1) cn))
        have hp8 := Chg.put w7 (w.heap.size + 1) 0 (.slice LN (nd + 1) cn)
        have HO8 := Lib.hid (HO7.out.chg hp8 (fun b hb e => HO7.out.ne HF7.out (by decide) b hb e))
        have HR8 := Lib.hid (hp8.heap HR7.out (by show ¬ (w.heap.size = w.heap.size + 1); omega))
        have HC8 := Lib.hid (HC7.out.setCell (p := ⟨w.heap.size + 1, 0, none⟩) (.inl (by show w.heap.size ≤ w.heap.size + 1; omega)) (.slice LN (nd + 1) cn))
        clear hp8
        go_wp2
        have hp9 := Chg.put (w7.setCell ⟨w.heap.size + 1, 0, none⟩ (.slice LN (nd + 1) cn)) (w.heap.size + 1) 1 (.int .i64 ((sz : Int) + ((k : Int) + (v : Int) + 8)))
        have HS9 := Lib.hid (three_set HS8.out 1 (.int .i64 ((sz : Int) + ((k : Int) + (v : Int) + 8))))
        have HO9 := Lib.hid (HO8.out.chg hp9 (fun b hb e => HO8.out.ne HS8.out (by decide) b hb e))
        have HR9 := Lib.hid (hp9.heap HR8.out (by show ¬ (w.heap.size = w.heap.size + 1); omega))
        have HC9 := Lib.hid (HC8.out.setCell (p := ⟨w.heap.size + 1, 1, none⟩) (.inl (by show w.heap.size ≤ w.heap.size + 1; omega)) (.int .i64 ((sz : Int) + ((k : Int) + (v : Int) + 8))))
        have hne8 : (encF (done ++ [P])).length = sz + (k + v + 8) := by rw [encF_snoc, List.length_append, HSZ.out, HREC.out]
        have hsp := step_split hst
        rw [HHP.out] at hsp
        rw [HHP.out] at hst
        go_roundg (rl - (k + v + 8))
        case measure => have := HRL.out; omega
        case rel =>
          refine ⟨done ++ [P], rest.drop (recF P).length, LN, nd + 1, cn, sz + (k + v + 8), by rw [List.length_drop, HRL.out, HREC.out]; exact Nat.le_refl _, ?_, ?_, hne8, by omega, ?_, ?_, HO9.out, HR9.out, ?_, HC9.out⟩
          · show file = _
            rw [encF_snoc, List.append_assoc, ← hsp]
            exact HX.out
          · show _ = _
            rw [HRE.out, List.drop_drop, HREC.out]
          · intro qs v' hq2
            have := HK.out (P :: qs) v' ⟨hst, hq2⟩
            rw [List.append_assoc]
            exact this
          · show (done ++ [P]).length = nd + 1
            rw [List.length_append, HLD.out]; rfl
          · have h := HS9.out
            have e : ((sz : Int) + ((k : Int) + (v : Int) + 8)) = ((sz + (k + v + 8) : Nat) : Int) := by omega
            rw [e] at h
            rw [e]
            exact h
end Go.Proofs.Ytbbfjnfmfigcfaa

