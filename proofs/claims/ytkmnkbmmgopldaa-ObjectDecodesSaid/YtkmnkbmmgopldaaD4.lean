/-
  Decode: what is read is what was written: plain; the contract of Decode.
-/
import Derived.Test.YtkmnkbmmgopldaaD3
namespace Go.Proofs.Ytkmnkbmmgopldaa
set_option linter.unusedVariables false
set_option linter.unusedSimpArgs false

theorem toNat_ofNat_lt (n : Nat) (h : n < 256) : (UInt8.ofNat n).toNat = n := by rw [UInt8.toNat_ofNat']; omega

/-- A whole short form is read. -/
theorem numF_whole (t : List UInt8) : ∀ (y i x : Nat), i ≤ 9 → y < 128 ^ (9 - i) * 2 → (0 < i → 0 < y) → numF i x (leb y ++ t) = (x + y * 128 ^ i, i + (leb y).length, 0) := by
  intro y
  induction y using Nat.strongRecOn with
  | _ y ih =>
    intro i x hi hy h0
    by_cases hs : y < 128
    · rw [leb_small y hs]
      have hc := toNat_ofNat_lt y (by omega)
      have hb : ¬ (i = 9 ∧ 1 < (UInt8.ofNat y).toNat ∨ 0 < i ∧ (UInt8.ofNat y).toNat = 0) := by
        rw [hc]
        rintro (⟨rfl, h⟩ | ⟨h, h'⟩)
        · simp at hy; omega
        · have := h0 h; omega
      rw [List.singleton_append, numF_last i x _ t hb (by rw [hc]; exact hs), hc, Nat.mod_eq_of_lt hs]
      rfl
    · rw [leb_big y hs]
      have hc := toNat_ofNat_lt (y % 128 + 128) (by omega)
      have hi9 : i ≠ 9 := by rintro rfl; simp at hy; omega
      have hb : ¬ (i = 9 ∧ 1 < (UInt8.ofNat (y % 128 + 128)).toNat ∨ 0 < i ∧ (UInt8.ofNat (y % 128 + 128)).toNat = 0) := by
        rw [hc]; omega
      rw [List.cons_append, numF_more i x _ _ hb (by rw [hc]; omega), hc]
      have hp : 128 ^ (9 - i) * 2 = 128 * (128 ^ (9 - (i + 1)) * 2) := by
        rw [show 9 - i = (9 - (i + 1)) + 1 by omega, Nat.pow_succ]; omega
      rw [ih (y / 128) (by omega) (i + 1) _ (by omega) (by rw [hp] at hy; exact Nat.div_lt_of_lt_mul hy) (by omega)]
      have e1 : (y % 128 + 128) % 128 = y % 128 := by omega
      have e2 : y = y % 128 + y / 128 * 128 := by omega
      rw [e1, Nat.pow_succ, List.length_cons]
      refine Prod.ext ?_ (Prod.ext ?_ rfl)
      · show x + y % 128 * 128 ^ i + y / 128 * (128 ^ i * 128) = x + y * 128 ^ i
        conv => rhs; rw [e2]
        rw [Nat.add_mul, Nat.mul_assoc, Nat.mul_comm 128 (128 ^ i)]
        omega
      · show i + 1 + (leb (y / 128)).length = i + ((leb (y / 128)).length + 1)
        omega
theorem numF_leb_whole (y : Nat) (h : y < 18446744073709551616) (t : List UInt8) : numF 0 0 (leb y ++ t) = (y, (leb y).length, 0) := by
  have := numF_whole t y 0 0 (by omega) (by simpa using h) (by omega)
  simpa using this
theorem rUint_whole (y : Nat) (h : y < 18446744073709551616) (t : List UInt8) : rUint ⟨leb y ++ t, 0⟩ = (y, ⟨t, 0⟩) := by
  simp only [rUint, numF_leb_whole y h t]
  simp
theorem rWord_whole (y : Nat) (h : y < 18446744073709551616) (t : List UInt8) : rWord ⟨wide y ++ t, 0⟩ = (y, ⟨t, 0⟩) := by
  have hl := wide_len y
  simp only [rWord]
  rw [if_neg (by simp), if_neg (by simp [hl])]
  rw [List.take_append_of_le_length (by omega), List.take_of_length_le (by omega), beF_wide y h]
  simp [hl]

theorem rText_at (most : Int) (s t : List UInt8) (h : (s.length : Int) ≤ most) (h2 : s.length < 18446744073709551616) : rText most ⟨leb s.length ++ (s ++ t), 0⟩ = (s, ⟨t, 0⟩) := by
  simp only [rText, numF_leb_whole s.length h2 (s ++ t)]
  rw [if_neg (by simp), if_neg (by omega), if_neg (by simp), if_neg (by omega), if_neg (by simp)]
  simp
theorem mkS_list' (s : ByteArray) : mkS s.data.toList = s := mkS_self s
theorem readE_whole : ∀ (es : List Ent) (r : List UInt8) (acc : List Ent), (∀ x ∈ es, x.1.size ≤ 32 ∧ x.2.2 < 18446744073709551616) → readE es.length ⟨es.flatMap entB ++ r, 0⟩ acc = (some (acc ++ es), ⟨r, 0⟩)
  | [], r, acc, _ => by simp [readE]
  | x :: es, r, acc, h => by
    obtain ⟨s, f, id⟩ := x
    have h1 := h (s, f, id) (by simp)
    simp only at h1
    have e : (List.flatMap entB ((s, f, id) :: es)) ++ r = leb s.data.toList.length ++ (s.data.toList ++ ((if f = true then 1 else 0) :: (wide id ++ (es.flatMap entB ++ r)))) := by
      rw [List.flatMap_cons, entB, size_list]
      simp
    have ht := rText_at 32 s.data.toList ((if f = true then 1 else 0) :: (wide id ++ (es.flatMap entB ++ r))) (by rw [size_list]; omega) (by rw [size_list]; omega)
    rw [List.length_cons, e, readE, if_neg (by simp), ht]
    have hb : rByte ⟨(if f = true then (1 : UInt8) else 0) :: (wide id ++ (es.flatMap entB ++ r)), 0⟩ = (if f = true then 1 else 0, ⟨wide id ++ (es.flatMap entB ++ r), 0⟩) := rfl
    rw [hb, rWord_whole id h1.2, if_neg (by cases f <;> simp), readE_whole es r _ (fun y hy => h y (by simp [hy]))]
    cases f <;> simp [mkS_self]
theorem readP_whole : ∀ (ps : List Nat) (r : List UInt8) (acc : List Nat), (∀ x ∈ ps, x < 18446744073709551616) → readP ps.length ⟨ps.flatMap wide ++ r, 0⟩ acc = (acc ++ ps, ⟨r, 0⟩)
  | [], r, acc, _ => by simp [readP]
  | x :: ps, r, acc, h => by
    rw [List.length_cons, List.flatMap_cons, List.append_assoc, readP, if_neg (by simp), rWord_whole x (h x (by simp)), readP_whole ps r _ (fun y hy => h y (by simp [hy]))]
    simp
/-- An object that may be told in bytes. -/
def Wf : Ob → Prop
  | .blob _ => True
  | .tree l => ∀ x ∈ l, x.2.2 < 18446744073709551616
  | .commit t ps _ d _ => t < 18446744073709551616 ∧ (∀ p ∈ ps, p < 18446744073709551616) ∧ -9223372036854775808 ≤ d ∧ d ≤ 9223372036854775807
def obB : Ob → List UInt8
  | .blob l => 98 :: l
  | .tree l => treeB l
  | .commit t ps a d x => commitB t ps a d x
theorem pre_blob (l : List UInt8) : preF (98 :: l) = some (.blob l, ⟨[], 0⟩) := by
  have : rByte ⟨98 :: l, 0⟩ = (98, ⟨l, 0⟩) := rfl
  have h2 : rRaw (l.length : Int) ⟨l, 0⟩ = (l, ⟨[], 0⟩) := by
    simp only [rRaw]
    rw [if_neg (by simp), if_neg (by omega), if_neg (by omega)]
    simp
  rw [preF, this, if_pos rfl]
  simp only
  rw [h2]
theorem pre_tree (l : List Ent) (r : List UInt8) (h : ∀ x ∈ l, x.1.size ≤ 32 ∧ x.2.2 < 18446744073709551616) (hl : l.length < 18446744073709551616) : preF (treeB l ++ r) = some (.tree l, ⟨r, 0⟩) := by
  have e : treeB l ++ r = 116 :: (leb l.length ++ (l.flatMap entB ++ r)) := by simp [treeB]
  have hb : rByte ⟨116 :: (leb l.length ++ (l.flatMap entB ++ r)), 0⟩ = (116, ⟨leb l.length ++ (l.flatMap entB ++ r), 0⟩) := rfl
  rw [e, preF, hb, if_neg (show ¬ (116 : UInt8) = 98 by decide), if_pos rfl, rUint_whole l.length hl]
  simp only
  rw [readE_whole l r [] h]
  rfl
theorem sd_du (d : Int) (h : -9223372036854775808 ≤ d ∧ d ≤ 9223372036854775807) : sd (du d) = d := by
  unfold sd du; split <;> omega
theorem pre_commit (t : Nat) (ps : List Nat) (a : List UInt8) (d : Int) (x r : List UInt8) (h : Wf (.commit t ps a d x)) (hp : ps.length ≤ 8) (ha : a.length ≤ 64) (hx : x.length ≤ 1024) : preF (commitB t ps a d x ++ r) = some (.commit t ps a d x, ⟨r, 0⟩) := by
  obtain ⟨h1, h2, h3, h4⟩ := h
  have e : commitB t ps a d x ++ r = 99 :: (wide t ++ (leb ps.length ++ (ps.flatMap wide ++ (leb a.length ++ (a ++ (wide (du d) ++ (leb x.length ++ (x ++ r)))))))) := by simp [commitB]
  have hb : ∀ l, rByte ⟨99 :: l, 0⟩ = (99, ⟨l, 0⟩) := fun l => rfl
  rw [e, preF, hb, if_neg (show ¬ (99 : UInt8) = 98 by decide), if_neg (show ¬ (99 : UInt8) = 116 by decide), if_pos rfl, rWord_whole t h1]
  simp only
  rw [rUint_whole ps.length (by omega)]
  simp only
  rw [readP_whole ps _ [] h2, afterC]
  simp only
  rw [rText_at 64 a _ (by omega) (by omega)]
  simp only
  rw [rWord_whole (du d) (du_lt d)]
  simp only
  rw [rText_at 1024 x r (by omega) (by omega), sd_du d ⟨h3, h4⟩]
  rfl
/-- What was written is read, whatever follows (but for a blob). -/
theorem pre_whole (o : Ob) (h : Wf o) (hc : obCheck o = 0) (r : List UInt8) (hr : r = [] ∨ ∀ l, o ≠ .blob l) : preF (obB o ++ r) = some (o, ⟨r, 0⟩) := by
  cases o with
  | blob l =>
    rcases hr with rfl | hr
    · rw [List.append_nil]; exact pre_blob l
    · exact absurd rfl (hr l)
  | tree l =>
    obtain ⟨q1, q2⟩ := treeF_zero hc
    exact pre_tree l r (fun x hx => ⟨(q2 x hx).1, h x hx⟩) (by omega)
  | commit t ps a d x =>
    have hc : ((commitF t ps a x : Nat) : Int) = 0 := hc
    obtain ⟨-, q2, -, q4, -, q6, -⟩ := commitF_zero (show commitF t ps a x = 0 by omega)
    exact pre_commit t ps a d x r h q2 q4 q6
theorem dec_whole (o : Ob) (h : Wf o) (hc : obCheck o = 0) : decF (obB o) = some o := by
  have := pre_whole o h hc [] (.inl rfl)
  rw [List.append_nil] at this
  rw [decF, this]
  exact if_pos ⟨rfl, hc⟩

set_option maxRecDepth 100000 in
theorem decode_calls (w : World) (A : Option Addr) (n c : Nat) (xs : List UInt8) (hb : Bytes w (.slice A n c) xs) (hl : xs.length = n) (hn : n ≤ 1000000) :
    Calls Try.prog 20 #[.slice A n c] w fun e w' => DecR w.heap.size w' e (decF xs) ∧ Chg No w w' := by
  by_cases h1 : (rByte ⟨xs, 0⟩).1 = 98
  · exact decode_blob w A n c xs hb hl hn h1
  by_cases h2 : (rByte ⟨xs, 0⟩).1 = 116
  · exact decode_tree w A n c xs hb hl hn h2
  by_cases h3 : (rByte ⟨xs, 0⟩).1 = 99
  · exact decode_commit w A n c xs hb hl hn h3
  · exact decode_none w A n c xs hb hl hn h1 h2 h3
end Go.Proofs.Ytkmnkbmmgopldaa
