/-
  Contract of the reference's Reader: Do.
-/
import Derived.Test.YtikfplfhndhjbaaRd2
namespace Go.Proofs.Ytikfplfhndhjbaa
open Go.RowKit
set_option linter.unusedVariables false
set_option linter.unusedSimpArgs false

/-- The two result variables behind a call, two boxes before them. -/
theorem res2d {w w1 : World} {o o' : Obj} {a b c d : Value} {t u : TypeId} (hc : Chg No ((((w.alloc o).alloc o').alloc (.cells #[a, b] t)).alloc (.cells #[c, d] u)) w1) :
    (w1.cell? ⟨w.heap.size + 1 + 1, 0, none⟩ = some a ∧ w1.cell? ⟨w.heap.size + 1 + 1, 1, none⟩ = some b ∧ w1.frozen? ⟨w.heap.size + 1 + 1, 0, none⟩ = false ∧ w1.frozen? ⟨w.heap.size + 1 + 1, 1, none⟩ = false) ∧
    (w1.cell? ⟨w.heap.size + 1 + 1 + 1, 0, none⟩ = some c ∧ w1.cell? ⟨w.heap.size + 1 + 1 + 1, 1, none⟩ = some d ∧ w1.frozen? ⟨w.heap.size + 1 + 1 + 1, 0, none⟩ = false ∧ w1.frozen? ⟨w.heap.size + 1 + 1 + 1, 1, none⟩ = false) := by
  have e1 := heap_alloc_new ((w.alloc o).alloc o') (.cells #[a, b] t)
  have e2 := heap_alloc_new (((w.alloc o).alloc o').alloc (.cells #[a, b] t)) (.cells #[c, d] u)
  have n1 : ((w.alloc o).alloc o').heap.size = w.heap.size + 1 + 1 := by simp
  have n2 : (((w.alloc o).alloc o').alloc (.cells #[a, b] t)).heap.size = w.heap.size + 1 + 1 + 1 := by simp
  rw [n1] at e1
  rw [n2] at e2
  exact ⟨cells2 (hc.heap (((Chg.refl No _).alloc _).heap e1 (fun x => x)) (fun x => x)), cells2 (hc.heap e2 (fun x => x))⟩

theorem chgresd {w w1 : World} {o o' p q : Obj} (hc : Chg No ((((w.alloc o).alloc o').alloc p).alloc q) w1) (u0 u1 u2 u3 : Value) :
    Chg No w ((((w1.setCell ⟨w.heap.size + 1 + 1, 0, none⟩ u0).setCell ⟨w.heap.size + 1 + 1, 1, none⟩ u1).setCell ⟨w.heap.size + 1 + 1 + 1, 0, none⟩ u2).setCell ⟨w.heap.size + 1 + 1 + 1, 1, none⟩ u3) :=
  ((((((((Chg.refl No w).alloc o).alloc o').alloc p).alloc q).no hc).setCell (.inl (by simp; omega)) u0).setCell (.inl (by simp; omega)) u1 |>.setCell (.inl (by simp; omega)) u2).setCell (.inl (by simp; omega)) u3

theorem chg4 (w : World) (o0 o1 o2 o3 : Obj) : Chg No w ((((w.alloc o0).alloc o1).alloc o2).alloc o3) := (((Chg.refl No w).alloc o0).alloc o1).alloc o2 |>.alloc o3



set_option maxRecDepth 100000 in
set_option maxHeartbeats 1600000 in
theorem do_err (w : World) (A : Option Addr) (n c : Nat) (xs : List UInt8) (h : Bytes w (.slice A n c) xs) (hl : xs.length = n) (err : Int) (he : err ≠ 0) (kind k : Int) :
    Calls Try.prog 29 #[.agg #[.slice A n c, .int .i64 err], .agg #[.int .i64 kind, .int .i64 k]] w fun e w' => Reads A n c xs xs err 0 [] e ∧ Chg No w w' := by
  have H := Lib.hid h
  have HL := Lib.hid hl
  have hb : (err == 0) = false := by simpa using he
  have hb' : (err != 0) = true := by simpa using he
  clear h hl he
  go_enter Try.func29, Try.ntmps29
  go_wp2
  refine bodyPost_ret (v := .tuple #[.agg #[.slice A n c, .int .i64 err], .agg #[.int .u64 0, .slice none 0 0]]) (by simp [results, Try.results29, go_sem]) rfl ?_
  exact ⟨Reads.refused HL.out err, chg4 w _ _ _ _⟩

set_option maxRecDepth 100000 in
set_option maxHeartbeats 1600000 in
theorem do_byte (w : World) (A : Option Addr) (n c : Nat) (xs : List UInt8) (h : Bytes w (.slice A n c) xs) (hl : xs.length = n) (hx : n ≤ 140737488355328) (k : Int) :
    Calls Try.prog 29 #[.agg #[.slice A n c, .int .i64 0], .agg #[.int .i64 0, .int .i64 k]] w fun e w' => Reads A n c xs (rByte ⟨xs, 0⟩).2.rest (rByte ⟨xs, 0⟩).2.err (rByte ⟨xs, 0⟩).1.toNat [] e ∧ Chg No w w' := by
  have H := Lib.hid h
  have HL := Lib.hid hl
  have hcap : n ≤ c ∧ c ≤ 9223372036854775807 := by
    obtain ⟨_, _, he, hn, hm⟩ := h.form
    simp only [Value.slice.injEq] at he
    unfold maxLen at hm
    omega
  cases xs with
  | nil =>
    have hn : n = 0 := by rw [← hl]; rfl
    subst hn
    clear h hl
    go_enter Try.func29, Try.ntmps29
    go_wp2_with fail
    refine (refused_calls _ _ _ _ _ _).mono ?_
    rintro e w1 ⟨rfl, hc1⟩
    have HC1 := Lib.hid hc1
    obtain ⟨⟨r0, r1, r2, r3⟩, r4, r5, r6, r7⟩ := res2d hc1
    clear hc1
    go_wp2
    refine bodyPost_ret (v := .tuple #[.agg #[.slice A 0 c, .int .i64 110], .agg #[.int .u64 0, .slice none 0 0]]) (by simp [results, Try.results29, go_sem, r0, r1, r2, r3, r4, r5, r6, r7]) rfl ?_
    rw [show rByte ⟨[], 0⟩ = (0, ⟨[], 110⟩) from rfl]
    exact ⟨Reads.refused HL.out 110, chgresd HC1.out _ _ _ _⟩
  | cons x t =>
    have i0 : (0 : Int) < (n : Int) := by simp at hl; omega
    have hn0 : 0 < n := by omega
    obtain ⟨b, o, rfl, hcell⟩ := h.addr (by simp)
    have hc0 := hcell 0 (by simp)
    simp only [List.getElem_cons_zero, Nat.add_zero] at hc0
    have i1 : (1 : Int) ≤ (n : Int) := by omega
    have hc4 : ∀ o0 o1 o2 o3, ((((w.alloc o0).alloc o1).alloc o2).alloc o3).cell? ⟨b, o, none⟩ = some (.int .u8 (x.toNat : Int)) := fun o0 o1 o2 o3 => (chg4 w o0 o1 o2 o3).cell hc0 (fun x => x)
    clear h hl hcell hc0
    go_enter Try.func29, Try.ntmps29
    go_wp2
    go_region
    generalize hA1 : (if c = 1 then some (⟨b, o, none⟩ : Addr) else some ⟨b, o + 1, none⟩) = A1
    have HA1 := Lib.hid hA1
    clear hA1
    go_wp2
    refine bodyPost_ret (v := .tuple #[.agg #[.slice A1 (n - 1) (c - 1), .int .i64 0], .agg #[.int .u64 (IntKind.u64.wrap (x.toNat : Int)), .slice none 0 0]]) (by simp [results, Try.results29, go_sem]) rfl ?_
    have hx8 : x.toNat < 256 := x.toNat_lt
    exact ⟨Reads.numb HL.out 0 _ 1 hn0 (by rw [← HA1.out]; simp [Addr.add]) rfl _ (by exact wrap_u64_nat x.toNat (by omega)), (chg4 w _ _ _ _).drew⟩

set_option maxRecDepth 100000 in
set_option maxHeartbeats 1600000 in
theorem do_uint (w : World) (A : Option Addr) (n c : Nat) (xs : List UInt8) (h : Bytes w (.slice A n c) xs) (hl : xs.length = n) (hx : n ≤ 140737488355328) (k : Int) :
    Calls Try.prog 29 #[.agg #[.slice A n c, .int .i64 0], .agg #[.int .i64 1, .int .i64 k]] w fun e w' => Reads A n c xs (rUint ⟨xs, 0⟩).2.rest (rUint ⟨xs, 0⟩).2.err (rUint ⟨xs, 0⟩).1 [] e ∧ Chg No w w' := by
  have H := Lib.hid h
  have HL := Lib.hid hl
  have hcap : n ≤ c ∧ c ≤ 9223372036854775807 := by
    obtain ⟨_, _, he, hn, hm⟩ := h.form
    simp only [Value.slice.injEq] at he
    unfold maxLen at hm
    omega
  have HU : Hid (rUint ⟨xs, 0⟩ = if (numF 0 0 xs).2.2 ≠ 0 then (0, ⟨xs, (numF 0 0 xs).2.2⟩) else ((numF 0 0 xs).1, ⟨xs.drop (numF 0 0 xs).2.1, 0⟩)) := by simp [Hid, rUint]
  obtain ⟨f1, f2, f3, f4, f5⟩ := numF_at xs
  have HC : Hid (∀ w1, Chg No w w1 → Calls Try.prog 45 #[.slice A n c] w1 fun e w' => e = .returned (.tuple #[.int .u64 ((numF 0 0 xs).1 : Int), .int .i64 ((numF 0 0 xs).2.1 : Int), .int .i64 (numF 0 0 xs).2.2]) ∧ w1 = w') := fun w1 hw => rnumber_calls w1 A n c xs (H.out.no hw) HL.out hx
  have hl' : xs.length = n := hl
  rw [hl'] at f1
  generalize hN : numF 0 0 xs = N at *
  obtain ⟨v, nn, ee⟩ := N
  simp only at f1 f2 HU HC
  clear f3 f4 f5 hN h hl hl'
  by_cases hee : ee = 0
  · subst hee
    have i0 : (0 : Int) ≤ (nn : Int) := by omega
    have i1 : (nn : Int) ≤ (n : Int) := by omega
    go_enter Try.func29, Try.ntmps29
    go_wp2_with (go_at_call 45; refine (HC.out _ ?_).mono ?_; (exact chg4 w _ _ _ _); rintro e w' ⟨rfl, rfl⟩)
    all_goals
      refine bodyPost_ret (v := .tuple #[.agg #[.slice (if c = nn then A else A.map (·.add nn)) (n - nn) (c - nn), .int .i64 0], .agg #[.int .u64 (v : Int), .slice none 0 0]]) (by simp [results, Try.results29, go_sem, *]) rfl ?_
      rw [HU.out, if_neg (by simp)]
      try (have hcn : c = nn := by assumption
           subst hcn)
      exact ⟨Reads.numb (xs := xs) HL.out 0 _ _ f1 rfl rfl _ rfl, chg4 w _ _ _ _⟩
  · have hb : (ee == 0) = false := by simpa using hee
    have hb' : (ee != 0) = true := by simpa using hee
    have HE := Lib.hid hee
    clear hee
    go_enter Try.func29, Try.ntmps29
    go_wp2_with (go_at_call 45; refine (HC.out _ ?_).mono ?_; (exact chg4 w _ _ _ _); rintro e w' ⟨rfl, rfl⟩)
    refine (refused_calls _ _ _ _ _ _).mono ?_
    rintro e w1 ⟨rfl, hc1⟩
    have HC1 := Lib.hid hc1
    obtain ⟨⟨r0, r1, r2, r3⟩, r4, r5, r6, r7⟩ := res2d hc1
    clear hc1
    go_wp2
    refine bodyPost_ret (v := .tuple #[.agg #[.slice A n c, .int .i64 ee], .agg #[.int .u64 0, .slice none 0 0]]) (by simp [results, Try.results29, go_sem, r0, r1, r2, r3, r4, r5, r6, r7]) rfl ?_
    rw [HU.out, if_pos HE.out]
    exact ⟨Reads.refused HL.out ee, chgresd HC1.out _ _ _ _⟩


set_option maxRecDepth 100000 in
set_option maxHeartbeats 1600000 in
theorem do_word (w : World) (A : Option Addr) (n c : Nat) (xs : List UInt8) (h : Bytes w (.slice A n c) xs) (hl : xs.length = n) (hx : n ≤ 140737488355328) (k : Int) :
    Calls Try.prog 29 #[.agg #[.slice A n c, .int .i64 0], .agg #[.int .i64 2, .int .i64 k]] w fun e w' => Reads A n c xs (rWord ⟨xs, 0⟩).2.rest (rWord ⟨xs, 0⟩).2.err (rWord ⟨xs, 0⟩).1 [] e ∧ Chg No w w' := by
  have H := Lib.hid h
  have HL := Lib.hid hl
  have hcap : n ≤ c ∧ c ≤ 9223372036854775807 := by
    obtain ⟨_, _, he, hn, hm⟩ := h.form
    simp only [Value.slice.injEq] at he
    unfold maxLen at hm
    omega
  by_cases h8 : n < 8
  · have HU : Hid (rWord ⟨xs, 0⟩ = (0, ⟨xs, 110⟩)) := by simp [Hid, rWord, hl, h8]
    clear h hl
    go_enter Try.func29, Try.ntmps29
    go_wp2_with fail
    refine (refused_calls _ _ _ _ _ _).mono ?_
    rintro e w1 ⟨rfl, hc1⟩
    have HC1 := Lib.hid hc1
    obtain ⟨⟨r0, r1, r2, r3⟩, r4, r5, r6, r7⟩ := res2d hc1
    clear hc1
    go_wp2
    refine bodyPost_ret (v := .tuple #[.agg #[.slice A n c, .int .i64 110], .agg #[.int .u64 0, .slice none 0 0]]) (by simp [results, Try.results29, go_sem, r0, r1, r2, r3, r4, r5, r6, r7]) rfl ?_
    rw [HU.out]
    exact ⟨Reads.refused HL.out 110, chgresd HC1.out _ _ _ _⟩
  · have HU : Hid (rWord ⟨xs, 0⟩ = (beF 0 (xs.take 8), ⟨xs.drop 8, 0⟩)) := by simp [Hid, rWord, hl, h8]
    have hl8 : (xs.take 8).length = 8 := by rw [List.length_take]; omega
    have i0 : (8 : Int) ≤ (n : Int) := by omega
    obtain ⟨b, o, rfl, hcell⟩ := h.addr (by omega)
    have HG : Hid (∀ (k : Nat) (hk : k < (xs.take 8).length) (o0 o1 o2 o3 : Obj), ((((w.alloc o0).alloc o1).alloc o2).alloc o3).cell? ⟨b, o + k, none⟩ = some (.int .u8 (((xs.take 8)[k]).toNat : Int))) := by
      intro k hk o0 o1 o2 o3
      rw [List.getElem_take]
      exact (chg4 w o0 o1 o2 o3).cell (hcell k (by omega)) (fun x => x)
    generalize xs.take 8 = ys at *
    have HL8 := Lib.hid hl8
    clear h hl hcell hl8
    go_enter Try.func29, Try.ntmps29
    go_wp2
    go_loop [10, 11] (fun x i => ∃ k : Nat, k ≤ 8 ∧ i = .int .i64 (k : Int) ∧ x = .int .u64 ((beF 0 (ys.take k) : Nat) : Int)) (fun _ i => 8 - (intOf i).toNat)
    case atStart => exact ⟨0, by omega, rfl, rfl⟩
    case round =>
      obtain ⟨k, hk, rfl, rfl⟩ := hrel
      by_cases hlt : k < 8
      · have hkn : k < n := by omega
        have hc := HG.out k (by rw [HL8.out]; exact hlt)
        have HT := Lib.hid (beF_take ys 0 k (by rw [HL8.out]; exact hlt))
        generalize ys[k]'(by rw [HL8.out]; exact hlt) = u at hc HT
        have hu : u.toNat < 256 := u.toNat_lt
        have hbl : beF 0 (ys.take k) < 72057594037927936 := by
          have h1 := beF_lt (ys.take k) 0
          have h2 : (ys.take k).length ≤ 7 := by rw [List.length_take]; omega
          have h3 := Nat.pow_le_pow_right (n := 256) (by decide) h2
          have h4 : (256 : Nat) ^ 7 = 72057594037927936 := by decide
          omega
        generalize hy : beF 0 (ys.take k) = y at *
        have HY := Lib.hid hy
        clear hy
        go_wp2
        go_round
        case rel => exact ⟨k + 1, by omega, by go_num, by rw [HT.out]; refine congrArg (Value.int .u64) ?_; simp⟩
        case measure => simp [intOf]; omega
      · have hk8 : k = 8 := by omega
        subst hk8
        have HTK : Hid (ys.take 8 = ys) := by rw [Hid]; exact List.take_of_length_le (by rw [HL8.out]; omega)
        have hn8 : 8 ≤ n := by omega
        go_wp2
        all_goals
          refine bodyPost_ret (v := .tuple #[.agg #[.slice (if c = 8 then some (⟨b, o, none⟩ : Addr) else some ⟨b, o + 8, none⟩) (n - 8) (c - 8), .int .i64 0], .agg #[.int .u64 ((beF 0 (ys.take 8) : Nat) : Int), .slice none 0 0]]) (by simp [results, Try.results29, go_sem, *]) rfl ?_
          rw [HU.out]
          try (have hcn : c = 8 := by assumption
               subst hcn)
          exact ⟨Reads.numb (A := some ⟨b, o, none⟩) (xs := xs) HL.out 0 (beF 0 ys) 8 hn8 (by simp [Addr.add]) rfl _ (by rw [HTK.out]), chg4 w _ _ _ _⟩

set_option maxRecDepth 100000 in
set_option maxHeartbeats 1600000 in
theorem do_text (w : World) (A : Option Addr) (n c : Nat) (xs : List UInt8) (h : Bytes w (.slice A n c) xs) (hl : xs.length = n) (hx : n ≤ 140737488355328) (k : Int) (hk : k ≤ 9223372036854775807) :
    Calls Try.prog 29 #[.agg #[.slice A n c, .int .i64 0], .agg #[.int .i64 3, .int .i64 k]] w fun e w' => Reads A n c xs (rText k ⟨xs, 0⟩).2.rest (rText k ⟨xs, 0⟩).2.err 0 (rText k ⟨xs, 0⟩).1 e ∧ Chg No w w' := by
  have H := Lib.hid h
  have HL := Lib.hid hl
  have hcap : n ≤ c ∧ c ≤ 9223372036854775807 := by
    obtain ⟨_, _, he, hn, hm⟩ := h.form
    simp only [Value.slice.injEq] at he
    unfold maxLen at hm
    omega
  have HC : Hid (∀ w1, Chg No w w1 → Calls Try.prog 46 #[.agg #[.slice A n c, .int .i64 0], .int .i64 k] w1 fun e w' => Reads A n c xs (rText k ⟨xs, 0⟩).2.rest (rText k ⟨xs, 0⟩).2.err 0 (rText k ⟨xs, 0⟩).1 e ∧ Chg No w1 w') := fun w1 h1 => rtext_calls w1 A n c xs (H.out.no h1) HL.out hx k hk
  clear h hl
  generalize rText k ⟨xs, 0⟩ = R at *
  obtain ⟨bs, rest, err⟩ := R
  simp only at HC ⊢
  go_enter Try.func29, Try.ntmps29
  go_wp2_with fail
  refine (HC.out _ (chg4 w _ _ _ _)).mono ?_
  rintro e w1 ⟨⟨A1, n1, c1, A2, n2, c2, rfl, hp1, hp2⟩, hc1⟩
  have HC1 := Lib.hid hc1
  obtain ⟨⟨r0, r1, r2, r3⟩, r4, r5, r6, r7⟩ := res2d hc1
  clear hc1
  go_wp2
  refine bodyPost_ret (v := .tuple #[.agg #[.slice A1 n1 c1, .int .i64 err], .agg #[.int .u64 0, .slice A2 n2 c2]]) (by simp [results, Try.results29, go_sem, r0, r1, r2, r3, r4, r5, r6, r7]) rfl ?_
  exact ⟨⟨A1, n1, c1, A2, n2, c2, rfl, hp1, hp2⟩, chgresd HC1.out _ _ _ _⟩

set_option maxRecDepth 100000 in
set_option maxHeartbeats 1600000 in
theorem do_raw (w : World) (A : Option Addr) (n c : Nat) (xs : List UInt8) (h : Bytes w (.slice A n c) xs) (hl : xs.length = n) (hx : n ≤ 140737488355328) (k : Int) :
    Calls Try.prog 29 #[.agg #[.slice A n c, .int .i64 0], .agg #[.int .i64 4, .int .i64 k]] w fun e w' => Reads A n c xs (rRaw k ⟨xs, 0⟩).2.rest (rRaw k ⟨xs, 0⟩).2.err 0 (rRaw k ⟨xs, 0⟩).1 e ∧ Chg No w w' := by
  have H := Lib.hid h
  have HL := Lib.hid hl
  have hcap : n ≤ c ∧ c ≤ 9223372036854775807 := by
    obtain ⟨_, _, he, hn, hm⟩ := h.form
    simp only [Value.slice.injEq] at he
    unfold maxLen at hm
    omega
  by_cases hk0 : k < 0
  · have HU : Hid (rRaw k ⟨xs, 0⟩ = ([], ⟨xs, 2⟩)) := by simp [Hid, rRaw, hk0]
    clear h hl
    go_enter Try.func29, Try.ntmps29
    go_wp2_with fail
    refine (refused_calls _ _ _ _ _ _).mono ?_
    rintro e w1 ⟨rfl, hc1⟩
    have HC1 := Lib.hid hc1
    obtain ⟨⟨r0, r1, r2, r3⟩, r4, r5, r6, r7⟩ := res2d hc1
    clear hc1
    go_wp2
    refine bodyPost_ret (v := .tuple #[.agg #[.slice A n c, .int .i64 2], .agg #[.int .u64 0, .slice none 0 0]]) (by simp [results, Try.results29, go_sem, r0, r1, r2, r3, r4, r5, r6, r7]) rfl ?_
    rw [HU.out]
    exact ⟨Reads.refused HL.out 2, chgresd HC1.out _ _ _ _⟩
  · by_cases hkn : (n : Int) < k
    · have HU : Hid (rRaw k ⟨xs, 0⟩ = ([], ⟨xs, 110⟩)) := by simp [Hid, rRaw, hk0, hl, hkn]
      clear h hl
      go_enter Try.func29, Try.ntmps29
      go_wp2_with fail
      refine (refused_calls _ _ _ _ _ _).mono ?_
      rintro e w1 ⟨rfl, hc1⟩
      have HC1 := Lib.hid hc1
      obtain ⟨⟨r0, r1, r2, r3⟩, r4, r5, r6, r7⟩ := res2d hc1
      clear hc1
      go_wp2
      refine bodyPost_ret (v := .tuple #[.agg #[.slice A n c, .int .i64 110], .agg #[.int .u64 0, .slice none 0 0]]) (by simp [results, Try.results29, go_sem, r0, r1, r2, r3, r4, r5, r6, r7]) rfl ?_
      rw [HU.out]
      exact ⟨Reads.refused HL.out 110, chgresd HC1.out _ _ _ _⟩
    · obtain ⟨m, rfl⟩ := Int.eq_ofNat_of_zero_le (show 0 ≤ k by omega)
      have hmn : m ≤ n := by omega
      have HU : Hid (rRaw (m : Int) ⟨xs, 0⟩ = (xs.take m, ⟨xs.drop m, 0⟩)) := by simp [Hid, rRaw, hl, show ¬ (n : Int) < (m : Int) by omega, hmn]
      have i0 : (0 : Int) ≤ (m : Int) := by omega
      have i1 : (m : Int) ≤ (n : Int) := by omega
      have i2 : (m : Int) ≤ (c : Int) := by omega
      clear h hl
      go_enter Try.func29, Try.ntmps29
      go_wp2
      go_region
      generalize hA1 : (if c = m then A else Option.map (fun x => x.add m) A) = A1
      have HA1 := Lib.hid hA1
      clear hA1
      go_wp2
      refine bodyPost_ret (v := .tuple #[.agg #[.slice A1 (n - m) (c - m), .int .i64 0], .agg #[.int .u64 0, .slice A m c]]) (by simp [results, Try.results29, go_sem]) rfl ?_
      rw [HU.out]
      exact ⟨Reads.cut0 HL.out 0 0 m hmn HA1.out rfl rfl, (chg4 w _ _ _ _).drew⟩
end Go.Proofs.Ytikfplfhndhjbaa
