/-
  Contract of the reference's Reader: text.
-/
import Derived.Test.YtikfplfhndhjbaaRd1
import Derived.RegionTactic
namespace Go.Proofs.Ytikfplfhndhjbaa
open Go.RowKit
set_option linter.unusedVariables false
set_option linter.unusedSimpArgs false

theorem OwnB.form {w : World} {base : Nat} {v : Value} {xs : List UInt8} (h : OwnB w base v xs) : ∃ A n c, v = .slice A n c ∧ Hid (xs.length = n) ∧ Hid (OwnB w base (.slice A n c) xs) := by
  obtain ⟨A, c, rfl, -, -⟩ := h.bytes.form
  exact ⟨A, _, c, rfl, rfl, h⟩

/-- The second slice is a part of the first, in every world. -/
def Part (A : Option Addr) (n c : Nat) (xs : List UInt8) (B : Option Addr) (m d : Nat) (ys : List UInt8) : Prop :=
  ys.length = m ∧ ∀ w, Bytes w (.slice A n c) xs → Bytes w (.slice B m d) ys
theorem Part.refl {A : Option Addr} {n c : Nat} {xs : List UInt8} (hl : xs.length = n) : Part A n c xs A n c xs := ⟨hl, fun w h => h⟩
theorem Part.trans {A : Option Addr} {n c : Nat} {xs : List UInt8} {B : Option Addr} {m d : Nat} {ys : List UInt8} {C : Option Addr} {k f : Nat} {zs : List UInt8} (h : Part A n c xs B m d ys) (g : Part B m d ys C k f zs) : Part A n c xs C k f zs :=
  ⟨g.1, fun w hw => g.2 w (h.2 w hw)⟩
theorem Part.none (A : Option Addr) (n c : Nat) (xs : List UInt8) : Part A n c xs none 0 0 [] := ⟨rfl, fun w _ => Bytes.nil w⟩

/-- What a read of the reference hands back: the next Reader, what was told; the bytes lie where they lay. -/
def Reads (A : Option Addr) (n c : Nat) (xs : List UInt8) (rest : List UInt8) (err : Int) (x : Nat) (bs : List UInt8) (e : Ending) : Prop :=
  ∃ A1 n1 c1 A2 n2 c2, e = .returned (.tuple #[.agg #[.slice A1 n1 c1, .int .i64 err], .agg #[.int .u64 (x : Int), .slice A2 n2 c2]]) ∧ Hid (Part A n c xs A1 n1 c1 rest) ∧ Hid (Part A n c xs A2 n2 c2 bs)

theorem Reads.refused {A : Option Addr} {n c : Nat} {rest : List UInt8} (hl : rest.length = n) (err : Int) :
    Reads A n c rest rest err 0 [] (.returned (.tuple #[.agg #[.slice A n c, .int .i64 err], .agg #[.int .u64 0, .slice none 0 0]])) :=
  ⟨A, n, c, none, 0, 0, rfl, Part.refl hl, Part.none _ _ _ _⟩

theorem Reads.cut {A A1 A2 : Option Addr} {n c : Nat} {xs : List UInt8} (hl : xs.length = n) (err : Int) (x k j v : Nat) (hk : k ≤ n) (hj : j ≤ n) (hv : v ≤ n - j)
    (h1 : (if c = k then A else A.map (·.add k)) = A1) (h2 : (if c = j then A else A.map (·.add j)) = A2) {rest bs : List UInt8} (hr : rest = xs.drop k) (hb : bs = (xs.drop j).take v) :
    Reads A n c xs rest err x bs (.returned (.tuple #[.agg #[.slice A1 (n - k) (c - k), .int .i64 err], .agg #[.int .u64 (x : Int), .slice A2 v (c - j)]])) := by
  subst hl hr hb h1 h2
  refine ⟨_, _, _, _, _, _, rfl, ⟨by simp, fun w h => h.drop hk⟩, ⟨by simp; omega, fun w h => ?_⟩⟩
  have hcap : xs.length ≤ c := by
    obtain ⟨_, _, he, hn, hm⟩ := h.form
    simp only [Value.slice.injEq] at he
    omega
  have d2 := h.drop (k := j) hj
  rw [← List.length_drop] at d2
  exact d2.take (k := v) (m := c - j) (by rw [List.length_drop]; omega) (by omega) (Nat.le_refl _)

/-- As cut, the told bytes from the beginning. -/
theorem Reads.cut0 {A A1 : Option Addr} {n c : Nat} {xs : List UInt8} (hl : xs.length = n) (err : Int) (x k : Nat) (hk : k ≤ n)
    (h1 : (if c = k then A else A.map (·.add k)) = A1) {rest bs : List UInt8} (hr : rest = xs.drop k) (hb : bs = xs.take k) :
    Reads A n c xs rest err x bs (.returned (.tuple #[.agg #[.slice A1 (n - k) (c - k), .int .i64 err], .agg #[.int .u64 (x : Int), .slice A k c]])) := by
  subst hl hr hb h1
  refine ⟨_, _, _, _, _, _, rfl, ⟨by simp, fun w h => h.drop hk⟩, ⟨by simp; omega, fun w h => ?_⟩⟩
  have hcap : xs.length ≤ c := by
    obtain ⟨_, _, he, hn, hm⟩ := h.form
    simp only [Value.slice.injEq] at he
    omega
  exact h.take hk (by omega) (Nat.le_refl _)

theorem Reads.numb {A A1 : Option Addr} {n c : Nat} {xs : List UInt8} (hl : xs.length = n) (err : Int) (x k : Nat) (hk : k ≤ n)
    (h1 : (if c = k then A else A.map (·.add k)) = A1) {rest : List UInt8} (hr : rest = xs.drop k) (xv : Int) (hxv : xv = (x : Int)) :
    Reads A n c xs rest err x [] (.returned (.tuple #[.agg #[.slice A1 (n - k) (c - k), .int .i64 err], .agg #[.int .u64 xv, .slice none 0 0]])) := by
  subst hl hr h1 hxv
  exact ⟨_, _, _, _, _, _, rfl, ⟨by simp, fun w h => h.drop hk⟩, Part.none _ _ _ _⟩

theorem cells2 {w : World} {g : Nat} {a b : Value} {t : TypeId} (h : w.heap[g]? = some (.cells #[a, b] t (0, 0))) :
    w.cell? ⟨g, 0, none⟩ = some a ∧ w.cell? ⟨g, 1, none⟩ = some b ∧ w.frozen? ⟨g, 0, none⟩ = false ∧ w.frozen? ⟨g, 1, none⟩ = false := by
  refine ⟨?_, ?_, ?_, ?_⟩ <;> simp [World.cell?, World.frozen?, h]

/-- The two result variables behind a call. -/
theorem res2 {w w1 : World} {o : Obj} {a b c d : Value} {t u : TypeId} (hc : Chg No (((w.alloc o).alloc (.cells #[a, b] t)).alloc (.cells #[c, d] u)) w1) :
    (w1.cell? ⟨w.heap.size + 1, 0, none⟩ = some a ∧ w1.cell? ⟨w.heap.size + 1, 1, none⟩ = some b ∧ w1.frozen? ⟨w.heap.size + 1, 0, none⟩ = false ∧ w1.frozen? ⟨w.heap.size + 1, 1, none⟩ = false) ∧
    (w1.cell? ⟨w.heap.size + 2, 0, none⟩ = some c ∧ w1.cell? ⟨w.heap.size + 2, 1, none⟩ = some d ∧ w1.frozen? ⟨w.heap.size + 2, 0, none⟩ = false ∧ w1.frozen? ⟨w.heap.size + 2, 1, none⟩ = false) := by
  have e1 := heap_alloc_new (w.alloc o) (.cells #[a, b] t)
  have e2 := heap_alloc_new ((w.alloc o).alloc (.cells #[a, b] t)) (.cells #[c, d] u)
  have n1 : (w.alloc o).heap.size = w.heap.size + 1 := by simp
  have n2 : ((w.alloc o).alloc (.cells #[a, b] t)).heap.size = w.heap.size + 2 := by simp
  rw [n1] at e1
  rw [n2] at e2
  exact ⟨cells2 (hc.heap (((Chg.refl No _).alloc _).heap e1 (fun x => x)) (fun x => x)), cells2 (hc.heap e2 (fun x => x))⟩

/-- The stores into the two result variables change nothing that was there. -/
theorem chgres {w w1 : World} {o p q : Obj} (hc : Chg No (((w.alloc o).alloc p).alloc q) w1) (u0 u1 u2 u3 : Value) :
    Chg No w ((((w1.setCell ⟨w.heap.size + 1, 0, none⟩ u0).setCell ⟨w.heap.size + 1, 1, none⟩ u1).setCell ⟨w.heap.size + 2, 0, none⟩ u2).setCell ⟨w.heap.size + 2, 1, none⟩ u3) :=
  (((((((Chg.refl No w).alloc o).alloc p).alloc q).no hc).setCell (.inl (by simp)) u0).setCell (.inl (by simp)) u1 |>.setCell (.inl (by simp)) u2).setCell (.inl (by simp)) u3

set_option maxRecDepth 100000 in
set_option maxHeartbeats 1600000 in
theorem rtext_calls (w : World) (A : Option Addr) (n c : Nat) (xs : List UInt8) (h : Bytes w (.slice A n c) xs) (hl : xs.length = n) (hx : n ≤ 140737488355328) (most : Int) (hmost : most ≤ 9223372036854775807) :
    Calls Try.prog 46 #[.agg #[.slice A n c, .int .i64 0], .int .i64 most] w fun e w' => Reads A n c xs (rText most ⟨xs, 0⟩).2.rest (rText most ⟨xs, 0⟩).2.err 0 (rText most ⟨xs, 0⟩).1 e ∧ Chg No w w' := by
  have H := Lib.hid h
  have HL := Lib.hid hl
  have hcap : n ≤ c ∧ c ≤ 9223372036854775807 := by
    obtain ⟨_, _, he, hn, hm⟩ := h.form
    simp only [Value.slice.injEq] at he
    unfold maxLen at hm
    omega
  by_cases hm0 : most < 0
  · have HU : Hid (rText most ⟨xs, 0⟩ = ([], ⟨xs, 2⟩)) := by simp [Hid, rText, hm0]
    clear h hl
    go_enter Try.func46, Try.ntmps46
    go_wp2_with fail
    refine (refused_calls _ _ _ _ _ _).mono ?_
    rintro e w1 ⟨rfl, hc1⟩
    have HC1 := Lib.hid hc1
    obtain ⟨⟨r0, r1, r2, r3⟩, r4, r5, r6, r7⟩ := res2 hc1
    clear hc1
    go_wp2
    refine bodyPost_ret (v := .tuple #[.agg #[.slice A n c, .int .i64 2], .agg #[.int .u64 0, .slice none 0 0]]) (by simp [results, Try.results46, go_sem, r0, r1, r2, r3, r4, r5, r6, r7]) rfl ?_
    rw [HU.out]
    exact ⟨Reads.refused HL.out 2, chgres HC1.out _ _ _ _⟩
  · have HU : Hid (rText most ⟨xs, 0⟩ = if (numF 0 0 xs).2.2 ≠ 0 then ([], ⟨xs, (numF 0 0 xs).2.2⟩)
        else if most < ((numF 0 0 xs).1 : Int) then ([], ⟨xs, 3⟩)
        else if xs.length - (numF 0 0 xs).2.1 < (numF 0 0 xs).1 then ([], ⟨xs, 110⟩)
        else ((xs.drop (numF 0 0 xs).2.1).take (numF 0 0 xs).1, ⟨(xs.drop (numF 0 0 xs).2.1).drop (numF 0 0 xs).1, 0⟩)) := by simp [Hid, rText, hm0]
    obtain ⟨f1, f2, f3, f4, f5⟩ := numF_at xs
    have HC : Hid (∀ w1, Chg No w w1 → Calls Try.prog 45 #[.slice A n c] w1 fun e w' => e = .returned (.tuple #[.int .u64 ((numF 0 0 xs).1 : Int), .int .i64 ((numF 0 0 xs).2.1 : Int), .int .i64 (numF 0 0 xs).2.2]) ∧ w1 = w') := fun w1 hw => rnumber_calls w1 A n c xs (H.out.no hw) HL.out hx
    have hl' : xs.length = n := hl
    rw [hl'] at f1
    rw [hl'] at HU
    generalize hN : numF 0 0 xs = N at *
    obtain ⟨v, nn, ee⟩ := N
    simp only at f1 f2 HU HC
    clear f3 f4 f5 hN h hl hl'
    by_cases hee : ee = 0
    · subst hee
      by_cases hv : most < (v : Int)
      · go_enter Try.func46, Try.ntmps46
        go_wp2_with (go_at_call 45; refine (HC.out _ ?_).mono ?_; (exact ((Chg.refl No w).alloc _ |>.alloc _ |>.alloc _)); rintro e w' ⟨rfl, rfl⟩)
        refine (refused_calls _ _ _ _ _ _).mono ?_
        rintro e w1 ⟨rfl, hc1⟩
        have HC1 := Lib.hid hc1
        obtain ⟨⟨r0, r1, r2, r3⟩, r4, r5, r6, r7⟩ := res2 hc1
        clear hc1
        go_wp2
        refine bodyPost_ret (v := .tuple #[.agg #[.slice A n c, .int .i64 3], .agg #[.int .u64 0, .slice none 0 0]]) (by simp [results, Try.results46, go_sem, r0, r1, r2, r3, r4, r5, r6, r7]) rfl ?_
        rw [HU.out, if_neg (by simp), if_pos hv]
        exact ⟨Reads.refused HL.out 3, chgres HC1.out _ _ _ _⟩
      · by_cases hs : n - nn < v
        · go_enter Try.func46, Try.ntmps46
          go_wp2_with (go_at_call 45; refine (HC.out _ ?_).mono ?_; (exact ((Chg.refl No w).alloc _ |>.alloc _ |>.alloc _)); rintro e w' ⟨rfl, rfl⟩)
          refine (refused_calls _ _ _ _ _ _).mono ?_
          rintro e w1 ⟨rfl, hc1⟩
          have HC1 := Lib.hid hc1
          obtain ⟨⟨r0, r1, r2, r3⟩, r4, r5, r6, r7⟩ := res2 hc1
          clear hc1
          go_wp2
          refine bodyPost_ret (v := .tuple #[.agg #[.slice A n c, .int .i64 110], .agg #[.int .u64 0, .slice none 0 0]]) (by simp [results, Try.results46, go_sem, r0, r1, r2, r3, r4, r5, r6, r7]) rfl ?_
          rw [HU.out, if_neg (by simp), if_neg (show ¬ most < (v : Int) by omega), if_pos hs]
          exact ⟨Reads.refused HL.out 110, chgres HC1.out _ _ _ _⟩
        · have i0 : (0 : Int) ≤ (nn : Int) := by omega
          have i1 : (nn : Int) ≤ ((nn : Int) + (v : Int)) := by omega
          have i2 : ((nn : Int) + (v : Int)) ≤ (n : Int) := by omega
          have i3 : ((nn : Int) + (v : Int)) ≤ (c : Int) := by omega
          go_enter Try.func46, Try.ntmps46
          go_wp2_with (go_at_call 45; refine (HC.out _ ?_).mono ?_; (exact ((Chg.refl No w).alloc _ |>.alloc _ |>.alloc _)); rintro e w' ⟨rfl, rfl⟩)
          go_region
          generalize hA1 : (if c = nn + v then A else Option.map (fun x => x.add (nn + v)) A) = A1
          generalize hA2 : (if c = nn then A else Option.map (fun x => x.add nn) A) = A2
          have HA1 := Lib.hid hA1
          have HA2 := Lib.hid hA2
          clear hA1 hA2
          go_wp2
          refine bodyPost_ret (v := .tuple #[.agg #[.slice A1 (n - (nn + v)) (c - (nn + v)), .int .i64 0], .agg #[.int .u64 0, .slice A2 v (c - nn)]]) (by simp [results, Try.results46, go_sem]) rfl ?_
          rw [HU.out, if_neg (by simp), if_neg (show ¬ most < (v : Int) by omega), if_neg hs]
          have hc3 := ((((Chg.refl No w).alloc (.cells #[.slice A n c, .int .i64 0] 48)).alloc (.cells #[.slice A1 (n - (nn + v)) (c - (nn + v)), .int .i64 0] 48)).alloc (.cells #[.int .u64 0, .slice A2 v (c - nn)] 52)).drew
          exact ⟨Reads.cut HL.out 0 0 (nn + v) nn v (by omega) (by omega) (by omega) HA1.out HA2.out (by rw [List.drop_drop]) rfl, hc3⟩
    · have hb : (ee == 0) = false := by simpa using hee
      have hb' : (ee != 0) = true := by simpa using hee
      have HE := Lib.hid hee
      clear hee
      go_enter Try.func46, Try.ntmps46
      go_wp2_with (go_at_call 45; refine (HC.out _ ?_).mono ?_; (exact ((Chg.refl No w).alloc _ |>.alloc _ |>.alloc _)); rintro e w' ⟨rfl, rfl⟩)
      refine (refused_calls _ _ _ _ _ _).mono ?_
      rintro e w1 ⟨rfl, hc1⟩
      have HC1 := Lib.hid hc1
      obtain ⟨⟨r0, r1, r2, r3⟩, r4, r5, r6, r7⟩ := res2 hc1
      clear hc1
      go_wp2
      refine bodyPost_ret (v := .tuple #[.agg #[.slice A n c, .int .i64 ee], .agg #[.int .u64 0, .slice none 0 0]]) (by simp [results, Try.results46, go_sem, r0, r1, r2, r3, r4, r5, r6, r7]) rfl ?_
      rw [HU.out, if_pos HE.out]
      exact ⟨Reads.refused HL.out ee, chgres HC1.out _ _ _ _⟩
end Go.Proofs.Ytikfplfhndhjbaa
