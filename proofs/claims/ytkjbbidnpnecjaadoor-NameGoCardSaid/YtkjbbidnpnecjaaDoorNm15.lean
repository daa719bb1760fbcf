/-
  Names: pieces of a path: plain; []rune(s) and back; what NameGo asks.
-/
import Derived.Test.YtkjbbidnpnecjaaDoorNm11
import Derived.Test.YtkjbbidnpnecjaaDoorRn
namespace Go.Proofs.YtkjbbidnpnecjaaDoor
open Go.RowKit
set_option linter.unusedVariables false
set_option linter.unusedSimpArgs false
set_option maxRecDepth 100000

theorem getD_app (l m : List UInt8) (k : Nat) (h : k < l.length) : (l ++ m).getD k 0 = l.getD k 0 := by
  simp [List.getD, List.getElem?_append_left h]
theorem goOn_app (l m : List UInt8) (k : Nat) (h : k < l.length) : goOn (l ++ m) k = goOn l k := by
  rw [goOn, goOn, getD_app l m k h, List.length_append]
  have h1 : k < l.length + m.length := by omega
  simp [h, h1]
/-- An unbroken first piece is the same whatever follows. -/
theorem decL_app (l m : List UInt8) (h : l ≠ []) (hb : brk l = false) : decL (l ++ m) = decL l := by
  have hl : 0 < l.length := List.length_pos_iff.2 h
  have e0 := getD_app l m 0 hl
  have hb0 : (l.getD 0 0).toNat < 256 := (l.getD 0 0).toNat_lt
  rcases decL_ways l with ⟨h1, e⟩ | ⟨h1, h2, h3, h4, e⟩ | ⟨h1, h2, h3, h4, h5, h6, e⟩ | ⟨h1, h2, h3, h4, h5, h6, h7, e⟩ | ⟨h1, e⟩
  · rw [e, decL, e0, if_pos h1]
  · have e1 := getD_app l m 1 h2
    have g1 := goOn_app l m 1 h2
    have g1' := goOn_of l 1 h2 h3
    rw [e, decL, e0, e1, g1, g1', if_neg (by omega), if_pos (by simp only [Bool.and_true, beq_iff_eq]; exact h1), if_pos h4]
  · have e1 := getD_app l m 1 (by omega)
    have e2 := getD_app l m 2 (by omega)
    have g1 := goOn_app l m 1 (by omega)
    have g2 := goOn_app l m 2 (by omega)
    have g1' := goOn_of l 1 (by omega) h3
    have g2' := goOn_of l 2 (by omega) h4
    rw [e, decL, e0, e1, e2, g1, g2, g1', g2', if_neg (by omega), if_neg (by simp only [Bool.and_true, beq_iff_eq]; omega), if_pos (by simp only [Bool.and_true, beq_iff_eq]; exact h1), if_pos (by rw [Bool.and_eq_true_iff]; exact ⟨decide_eq_true h5, h6⟩)]
  · have e1 := getD_app l m 1 (by omega)
    have e2 := getD_app l m 2 (by omega)
    have e3 := getD_app l m 3 (by omega)
    have g1 := goOn_app l m 1 (by omega)
    have g2 := goOn_app l m 2 (by omega)
    have g3 := goOn_app l m 3 (by omega)
    have g1' := goOn_of l 1 (by omega) h3
    have g2' := goOn_of l 2 (by omega) h4
    have g3' := goOn_of l 3 (by omega) h5
    rw [e, decL, e0, e1, e2, e3, g1, g2, g3, g1', g2', g3', if_neg (by omega), if_neg (by simp only [Bool.and_true, beq_iff_eq]; omega), if_neg (by simp only [Bool.and_true, beq_iff_eq]; omega), if_pos (by simp only [Bool.and_true, beq_iff_eq]; exact h1), if_pos (by rw [Bool.and_eq_true_iff]; exact ⟨decide_eq_true h6, h7⟩)]
  · exfalso
    have hp : ([239, 191, 189] : List UInt8).isPrefixOf l = true := by
      unfold brk at hb
      rw [e] at hb
      simpa using hb
    rw [pre_fffd hp] at e
    cases e
theorem brk_app (l m : List UInt8) (h : l ≠ []) (hb : brk l = false) : brk (l ++ m) = false := by
  rw [brk_short _ (by simp [h]), decL_app l m h hb, ← brk_short l h, hb]
/-- Pieces that are none broken go ahead of what follows. -/
theorem pcs_app : ∀ (n : Nat) (l m : List UInt8), l.length ≤ n → ((pcs l).all fun p => !p.2.1) = true → pcs (l ++ m) = pcs l ++ pcs m := by
  intro n
  induction n with
  | zero =>
    intro l m hl _
    have : l = [] := List.eq_nil_of_length_eq_zero (by omega)
    subst this
    rfl
  | succ n ih =>
    intro l m hl ha
    by_cases h : l = []
    · subst h; rfl
    · obtain ⟨f1, f2, f3⟩ := decL_facts l h
      rw [pcs_cons l h, List.all_cons, Bool.and_eq_true_iff] at ha
      have hb : brk l = false := by simpa using ha.1
      rw [pcs_cons (l ++ m) (by simp [h]), pcs_cons l h, decL_app l m h hb, brk_app l m h hb, hb, List.cons_append, List.take_append_of_le_length f2, List.drop_append_of_le_length f2, ih (l.drop (decL l).2) m (by rw [List.length_drop]; omega) ha.2]
theorem none_ok : ∀ (ps : List (Nat × Bool × List UInt8)) (k : Nat), wrongAt k ps = none ↔ (ps.all fun p => !badN p) = true := by
  intro ps
  induction ps with
  | nil => intro k; simp [wrongAt]
  | cons p r ih =>
    intro k
    rw [wrongAt, List.all_cons]
    cases h : badN p with
    | true => simp
    | false => simp [ih]
/-- What NameGo asks of a text before it looks at its runes. -/
def may0 (p : List UInt8) : Bool := decide (p ≠ [] ∧ p.length ≤ 32 ∧ p ≠ [46] ∧ p ≠ [46, 46])
theorem spot_may (p : List UInt8) : ((spotF p).1 == 0) = (may0 p && (pcs p).all fun p => !badN p) := by
  unfold spotF may0
  by_cases h1 : p = [] ∨ p = [46] ∨ p = [46, 46]
  · rw [if_pos h1]
    rcases h1 with rfl | rfl | rfl <;> rfl
  · rw [if_neg h1]
    by_cases h2 : 32 < p.length
    · rw [if_pos h2]
      have : decide (p ≠ [] ∧ p.length ≤ 32 ∧ p ≠ [46] ∧ p ≠ [46, 46]) = false := decide_eq_false (fun h => by omega)
      rw [this]; rfl
    · rw [if_neg h2]
      have : decide (p ≠ [] ∧ p.length ≤ 32 ∧ p ≠ [46] ∧ p ≠ [46, 46]) = true := decide_eq_true ⟨fun h => h1 (.inl h), by omega, fun h => h1 (.inr (.inl h)), fun h => h1 (.inr (.inr h))⟩
      rw [this, Bool.true_and]
      have hn := none_ok (pcs p) 0
      cases hw : wrongAt 0 (pcs p) with
      | none => rw [hn.1 hw]; rfl
      | some k =>
        have : ((pcs p).all fun p => !badN p) = false := by
          cases h : (pcs p).all fun p => !badN p with
          | false => rfl
          | true => rw [hn.2 h] at hw; cases hw
        rw [this]; rfl
theorem spot_whole {x : List UInt8} (h : (spotF x).1 = 0) : ((pcs x).all fun p => !p.2.1) = true := by
  have h1 := spot_may x
  have h2 : ((spotF x).1 == 0) = true := by rw [h]; rfl
  rw [h2] at h1
  have h3 := (Bool.and_eq_true_iff.1 h1.symm).2
  rw [List.all_eq_true] at h3 ⊢
  intro p hp
  have := h3 p hp
  rw [badN] at this
  simp at this
  simp [this.2]
theorem pcs_stroke (m : List UInt8) : pcs (47 :: m) = (47, false, [47]) :: pcs m := by
  have h : decL (47 :: m) = (47, 1) := by rw [decL]; rfl
  have hb : brk (47 :: m) = false := by unfold brk; rw [h]; rfl
  rw [pcs_cons _ (by simp), h, hb]
  rfl
theorem join_whole : ∀ (l : List (List UInt8)), Good l → ((pcs (joinL l)).all fun p => !p.2.1) = true := by
  intro l
  induction l with
  | nil => intro _; rfl
  | cons x r ih =>
    intro h
    have hx := spot_whole (h x (by simp))
    have hr := ih fun y hy => h y (by simp [hy])
    cases r with
    | nil => rw [show joinL [x] = x from Lib.join_one x [47]]; exact hx
    | cons y r =>
      rw [show joinL (x :: y :: r) = x ++ 47 :: joinL (y :: r) by rw [join_cons2, joinTail_cons, ← join_cons2], pcs_app x.length x _ (Nat.le_refl _) hx, pcs_stroke, List.all_append, hx, List.all_cons, hr]
      rfl
theorem path_whole {p : List UInt8} (h : (pathF p).1 = 0) : runesBytes (runesL p) = mkS p := by
  have h1 := (fit_parts h).1
  have h2 := join_whole _ h1
  rw [join_parts] at h2
  exact runes_back p.length p (Nat.le_refl _) h2
theorem conv_any (s : ByteArray) (hs : s.size ≤ 4096) : ∃ (M : Nat) (CP : World → Nat) (RW : World → World), (∀ W, (convert 9 28 (.string s)).run Tryd.prog W = .ok (.slice (some ⟨W.heap.size, 0, none⟩) M (CP W)) (RW W)) ∧
    (∀ W, (convert 28 9 (.slice (some ⟨W.heap.size, 0, none⟩) M (CP W))).run Tryd.prog (RW W) = .ok (.string (runesBytes (runesL s.data.toList))) (RW W)) ∧ ∀ W, Chg No W (RW W) := by
  have hr := runesFrom_list s
  have hml := runes_len s
  have key : ∀ (W' : World) (ad : Addr) (cap : Nat), (∀ j, j < (runesL s.data.toList).length → W'.cell? (ad.add j) = some (.int .i32 ((runesL s.data.toList).getD j 0))) → (convert 28 9 (.slice (some ad) (runesL s.data.toList).length cap)).run Tryd.prog W' = .ok (.string (runesBytes (runesL s.data.toList))) W' := by
    intro W' ad cap h
    have := run_convert_runes (P := Tryd.prog) W' 28 9 21 ad (runesL s.data.toList).length cap (runesL s.data.toList) (Nat.le_refl _) Tryd.underlying28 Tryd.underlying21 Tryd.underlying9 h
    rw [List.take_of_length_le (Nat.le_refl _)] at this
    exact this
  refine ⟨(runesL s.data.toList).length, fun W => grownCap W (runesL s.data.toList).length 0 21, fun W => W.drew.alloc (.cells (((runesL s.data.toList).map (Value.int .i32)).toArray ++ Array.replicate (grownCap W (runesL s.data.toList).length 0 21 - (runesL s.data.toList).length) (.int .i32 0)) 21), fun W => ?_, fun W => ?_, fun W => ((Chg.refl No W).drew).alloc _⟩
  · have := run_runes_of_string (P := Tryd.prog) W 9 28 21 s Tryd.underlying9 Tryd.underlying28 Tryd.underlying21 (by rw [hr, List.size_toArray, List.length_map]; omega)
    rw [hr] at this
    simp only [List.size_toArray, List.length_map] at this
    exact this
  · have hcells : ∀ j, j < (runesL s.data.toList).length → (W.drew.alloc (.cells (((runesL s.data.toList).map (Value.int .i32)).toArray ++ Array.replicate (grownCap W (runesL s.data.toList).length 0 21 - (runesL s.data.toList).length) (.int .i32 0)) 21)).cell? ((⟨W.heap.size, 0, none⟩ : Addr).add j) = some (.int .i32 ((runesL s.data.toList).getD j 0)) := by
      intro j hj
      rw [Addr.add_lit, Nat.zero_add]
      refine cellAt (heap_alloc_new W.drew _) j _ ?_
      rw [Array.getElem?_append_left (by simpa using hj)]
      simp [hj, List.getD]
    exact key _ _ _ hcells
end Go.Proofs.YtkjbbidnpnecjaaDoor
