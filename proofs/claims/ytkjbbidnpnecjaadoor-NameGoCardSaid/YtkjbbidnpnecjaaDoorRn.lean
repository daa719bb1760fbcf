/-
  []rune(s) and back, plain; the order of texts.
-/
import Derived.Test.YtkjbbidnpnecjaaDoorN1
import Derived.Laws.Cover4
import Derived.Laws.IdiomStrings
namespace Go.Proofs.YtkjbbidnpnecjaaDoor
open Go.RowKit
set_option linter.unusedVariables false
set_option linter.unusedSimpArgs false

/-- The runes of a text. -/
def runesL (l : List UInt8) : List Int := (pcs l).map fun p => (p.1 : Int)
theorem runesFrom_drop (s : ByteArray) : ∀ (b i : Nat) (acc : Array Value), s.size ≤ i + b → Conv.runesFrom s b i acc = acc ++ ((runesL (s.data.toList.drop i)).map (Value.int .i32)).toArray := by
  intro b
  induction b with
  | zero =>
    intro i acc h
    have : s.data.toList.drop i = [] := List.drop_of_length_le (by rw [size_list]; omega)
    rw [this]
    simp [Conv.runesFrom, runesL, pcs_nil]
  | succ b ih =>
    intro i acc h
    unfold Conv.runesFrom
    by_cases hi : i < s.size
    · rw [if_pos hi]
      have hl := drop_ne hi
      obtain ⟨f1, f2, f3⟩ := decL_facts _ hl
      rw [decode_drop]
      simp only
      rw [ih _ _ (by omega)]
      have e : runesL (s.data.toList.drop i) = ((decL (s.data.toList.drop i)).1 : Int) :: runesL (s.data.toList.drop (i + (decL (s.data.toList.drop i)).2)) := by
        rw [runesL, pcs_cons _ hl, List.map_cons, List.drop_drop]
        rfl
      rw [e]
      simp
    · rw [if_neg hi]
      have : s.data.toList.drop i = [] := List.drop_of_length_le (by rw [size_list]; omega)
      rw [this]
      simp [runesL, pcs_nil]
theorem runesFrom_list (s : ByteArray) : Conv.runesFrom s s.size 0 #[] = ((runesL s.data.toList).map (Value.int .i32)).toArray := by
  rw [runesFrom_drop s s.size 0 #[] (by omega), List.drop_zero]
  simp
theorem runes_len (s : ByteArray) : (runesL s.data.toList).length ≤ s.size := by
  have := size_runesFrom s s.size 0 #[]
  rw [runesFrom_list] at this
  simpa using this
theorem foldl_encode (ns : List Int) : ∀ s : ByteArray, ns.foldl (fun r n => r ++ Utf8.encode n) s = s ++ ns.foldl (fun r n => r ++ Utf8.encode n) ByteArray.empty := by
  induction ns with
  | nil => intro s; simp
  | cons n ns ih =>
    intro s
    rw [List.foldl_cons, List.foldl_cons, ih (s ++ Utf8.encode n), ih (ByteArray.empty ++ Utf8.encode n), ByteArray.append_assoc]
    simp
theorem mkS_append (a b : List UInt8) : mkS (a ++ b) = mkS a ++ mkS b := by
  apply ByteArray.ext
  simp [mkS]
/-- The runes of a text with no broken piece, written again. -/
theorem runes_back : ∀ (n : Nat) (l : List UInt8), l.length ≤ n → ((pcs l).all fun p => !p.2.1) = true → runesBytes (runesL l) = mkS l := by
  intro n
  induction n with
  | zero =>
    intro l hl _
    have : l = [] := List.eq_nil_of_length_eq_zero (by omega)
    subst this
    rfl
  | succ n ih =>
    intro l hl ha
    by_cases h : l = []
    · subst h; rfl
    · obtain ⟨f1, f2, f3⟩ := decL_facts l h
      rw [pcs_cons l h, List.all_cons, Bool.and_eq_true_iff] at ha
      have hb : brk l = false := by simpa using ha.1
      have e : runesL l = ((decL l).1 : Int) :: runesL (l.drop (decL l).2) := by rw [runesL, pcs_cons l h, List.map_cons]; rfl
      rw [e, runesBytes, List.foldl_cons, foldl_encode, enc_piece l h hb]
      have := ih (l.drop (decL l).2) (by rw [List.length_drop]; omega) ha.2
      rw [runesBytes] at this
      rw [this]
      have e2 : ByteArray.empty ++ mkS (l.take (decL l).2) = mkS (l.take (decL l).2) := by simp
      rw [e2, ← mkS_append, List.take_append_drop]
theorem less_total : ∀ a b : List UInt8, Op.bytesLess a b = false → a ≠ b → Op.bytesLess b a = true := by
  intro a
  induction a with
  | nil => intro b h hn; cases b with | nil => exact absurd rfl hn | cons => simp [Op.bytesLess] at h
  | cons x a ih =>
    intro b h hn
    cases b with
    | nil => rfl
    | cons y b =>
      simp only [Op.bytesLess, Bool.or_eq_false_iff, Bool.or_eq_true, Bool.and_eq_true_iff, decide_eq_true_eq, decide_eq_false_iff_not, beq_iff_eq] at h ⊢
      rcases Nat.lt_trichotomy x.toNat y.toNat with h1 | h1 | h1
      · exact absurd (UInt8.lt_iff_toNat_lt.2 h1) h.1
      · have e : x = y := UInt8.toNat_inj.1 h1
        subst e
        right
        refine ⟨rfl, ih b ?_ (fun e => hn (by rw [e]))⟩
        simpa using h.2
      · exact .inl (UInt8.lt_iff_toNat_lt.2 h1)
end Go.Proofs.YtkjbbidnpnecjaaDoor
