/-
  Names: the pieces of a path; strings.Split at a stroke; parts.
-/
import Derived.Test.YtcomcoolmabmgaaDoorSh
import Derived.Test.YtcomcoolmabmgaaDoorRep2
import Derived.Test.YtcomcoolmabmgaaDoorN3
import Derived.Test.YtcomcoolmabmgaaDoorRep5
import Derived.Lib.Join
import Derived.Lib.SplitLaws
import Derived.Lib.IndexBytes
namespace Go.Proofs.YtcomcoolmabmgaaDoor
open Go.RowKit
set_option linter.unusedVariables false
set_option linter.unusedSimpArgs false
set_option maxRecDepth 100000

/-- A text cut at each stroke. -/
def spl : List UInt8 → List UInt8 → List (List UInt8)
  | acc, [] => [acc]
  | acc, b :: r => if b = 47 then acc :: spl [] r else spl (acc ++ [b]) r
def partsL (p : List UInt8) : List (List UInt8) := if p = [] then [] else spl [] p
def joinL (l : List (List UInt8)) : List UInt8 := Lib.join l [47]
/-- x ahead of the first piece. -/
def ahead (x : List UInt8) : List (List UInt8) → List (List UInt8)
  | [] => []
  | h :: t => (x ++ h) :: t
theorem spl_ahead : ∀ (r acc : List UInt8), spl acc r = ahead acc (spl [] r) := by
  intro r
  induction r with
  | nil => intro acc; simp [spl, ahead]
  | cons b r ih =>
    intro acc
    by_cases h : b = 47
    · simp [spl, h, ahead]
    · simp only [spl, if_neg h, List.nil_append]
      rw [ih (acc ++ [b]), ih [b]]
      cases spl [] r <;> simp [ahead]
theorem spl_ne (acc r : List UInt8) : spl acc r ≠ [] := by
  induction r generalizing acc with
  | nil => simp [spl]
  | cons b r ih =>
    rw [spl]
    split
    · simp
    · exact ih _
theorem splitK_spl (s : List UInt8) : Lib.splitK [47] 0 (Lib.count s [47]) s = spl [] s := by
  have hstep : ∀ (b : UInt8) (l : List UInt8) (k : Nat), b ≠ 47 → Lib.splitK [47] 0 k (b :: l) = ahead [b] (Lib.splitK [47] 0 k l) := by
    intro b l k hb
    cases k with
    | zero => rfl
    | succ k =>
      have hi : Lib.index (b :: l) [47] = if Lib.index l [47] == -1 then -1 else Lib.index l [47] + 1 := by
        have hp : ([47] : List UInt8).isPrefixOf (b :: l) = false := by simp [List.isPrefixOf, Ne.symm hb]
        rw [Lib.index, hp]; simp
      have hge := Lib.index_ge l [47]
      rw [Lib.splitK, Lib.splitK, hi]
      by_cases hm : Lib.index l [47] = -1
      · rw [hm]; rfl
      · obtain ⟨i, hi2⟩ : ∃ i : Nat, Lib.index l [47] = i := ⟨(Lib.index l [47]).toNat, by omega⟩
        have h1 : ((Lib.index l [47]) == -1) = false := beq_eq_false_iff_ne.2 hm
        have h2 : ((Lib.index l [47] + 1) == -1) = false := beq_eq_false_iff_ne.2 (by omega)
        simp only [h1, Bool.false_eq_true, if_false, h2]
        rw [hi2]
        have e1 : ((i : Int) + 1).toNat = i + 1 := by omega
        have e2 : ((i : Int)).toNat = i := by omega
        rw [e1, e2]
        simp [ahead]
  induction s with
  | nil => rfl
  | cons b l ih =>
    by_cases h : b = 47
    · subst h
      have hi : Lib.index (47 :: l) [47] = 0 := by rw [Lib.index]; simp [List.isPrefixOf]
      rw [Lib.count_cons_eq, Nat.add_comm, Lib.splitK, hi]
      simp [spl]
      exact ih
    · rw [Lib.count_cons_ne b 47 l h, hstep b l _ h, ih]
      simp only [spl, if_neg h, List.nil_append]
      rw [spl_ahead l [b]]
theorem join_cons2 (x : List UInt8) (r : List (List UInt8)) : joinL (x :: r) = x ++ Lib.joinTail [47] r := Lib.join_cons x r [47]
theorem joinTail_cons (y : List UInt8) (r : List (List UInt8)) : Lib.joinTail [47] (y :: r) = 47 :: (y ++ Lib.joinTail [47] r) := by simp [Lib.joinTail]
theorem join_ahead (x : List UInt8) (l : List (List UInt8)) (h : l ≠ []) : joinL (ahead x l) = x ++ joinL l := by
  cases l with
  | nil => exact absurd rfl h
  | cons y r => rw [ahead, join_cons2, join_cons2, List.append_assoc]
theorem join_spl (s : List UInt8) : joinL (spl [] s) = s := by
  induction s with
  | nil => rfl
  | cons b l ih =>
    by_cases h : b = 47
    · subst h
      simp only [spl, if_true]
      rw [join_cons2]
      have hne := spl_ne [] l
      generalize spl [] l = m at *
      cases m with
      | nil => exact absurd rfl hne
      | cons y r => rw [joinTail_cons, ← join_cons2, ih]; rfl
    · simp only [spl, if_neg h, List.nil_append]
      rw [spl_ahead, join_ahead _ _ (spl_ne _ _), ih]; rfl
theorem join_parts (p : List UInt8) : joinL (partsL p) = p := by
  unfold partsL
  split
  · rename_i h; subst h; rfl
  · exact join_spl p
/-- Pieces without a stroke come back. -/
theorem spl_flat (x : List UInt8) (hx : (47 : UInt8) ∉ x) : ∀ acc, spl acc x = [acc ++ x] := by
  induction x with
  | nil => intro acc; simp [spl]
  | cons b r ih =>
    intro acc
    have hb : b ≠ 47 := by rintro rfl; exact hx (by simp)
    rw [spl, if_neg hb, ih (fun h => hx (by simp [h]))]
    simp
theorem spl_app (x : List UInt8) (hx : (47 : UInt8) ∉ x) (r : List UInt8) : ∀ acc, spl acc (x ++ 47 :: r) = (acc ++ x) :: spl [] r := by
  induction x with
  | nil => intro acc; simp [spl]
  | cons b y ih =>
    intro acc
    have hb : b ≠ 47 := by rintro rfl; exact hx (by simp)
    rw [List.cons_append, spl, if_neg hb, ih (fun h => hx (by simp [h]))]
    simp
theorem spl_join : ∀ (l : List (List UInt8)), l ≠ [] → (∀ x ∈ l, (47 : UInt8) ∉ x) → spl [] (joinL l) = l := by
  intro l
  induction l with
  | nil => intro h; exact absurd rfl h
  | cons x r ih =>
    intro _ hx
    cases r with
    | nil => rw [show joinL [x] = x from Lib.join_one x [47], spl_flat x (hx x (by simp))]; simp
    | cons y r =>
      rw [join_cons2, joinTail_cons, ← join_cons2, spl_app x (hx x (by simp)), ih (by simp) (fun z hz => hx z (by simp [hz]))]
      simp
theorem spl_pieces : ∀ (s acc : List UInt8), (47 : UInt8) ∉ acc → ∀ x ∈ spl acc s, (47 : UInt8) ∉ x := by
  intro s
  induction s with
  | nil => intro acc h x hx; simp [spl] at hx; subst hx; exact h
  | cons b r ih =>
    intro acc h x hx
    rw [spl] at hx
    split at hx
    · rcases List.mem_cons.1 hx with rfl | hx
      · exact h
      · exact ih [] (by simp) x hx
    · rename_i hb
      exact ih (acc ++ [b]) (by simp [h]; exact fun e => hb e.symm) x hx
theorem spl_len : ∀ (s acc : List UInt8), (spl acc s).length ≤ s.length + 1 := by
  intro s
  induction s with
  | nil => intro acc; simp [spl]
  | cons b r ih =>
    intro acc
    rw [spl]
    split
    · simp only [List.length_cons]; have := ih []; omega
    · simp only [List.length_cons]; have := ih (acc ++ [b]); omega
theorem parts_len (p : List UInt8) : (partsL p).length ≤ p.length + 1 := by
  unfold partsL
  split
  · simp
  · exact spl_len p []

/-- Rows of texts of the call's own. -/
def OwnS (w : World) (base : Nat) (v : Value) (n : Nat) (l : List (List UInt8)) : Prop := w.ownsRow base 9 1 v n (l.map strv)
theorem OwnS.sl {w : World} {base : Nat} {A : Option Addr} {n c : Nat} {l : List (List UInt8)} (h : OwnS w base (.slice A n c) n l) (hl : l.length = n) : Sl strv w (.slice A n c) l := by
  subst hl; exact Holds.ofOwn h
theorem OwnS.lit (w : World) (l : List (List UInt8)) (hb : l.length ≤ maxLen) : OwnS (w.alloc (.cells (l.map strv).toArray 9)) w.heap.size (.slice (some ⟨w.heap.size, 0, none⟩) l.length l.length) l.length l :=
  ⟨by simp, .inr ⟨w.heap.size, l.length, (l.map strv).toArray, rfl, Nat.le_refl _, heap_alloc_new w _, Nat.le_refl _, hb, by simp, by simp; exact List.take_of_length_le (by simp)⟩⟩
theorem split_calls (w : World) (s : ByteArray) (hs : s.size < 4294967281) :
    Calls Tryd.prog 83 #[.string s, .string ⟨#[47]⟩] w fun e w' => e = .returned (.slice (some ⟨w.heap.size, 0, none⟩) (spl [] s.data.toList).length (spl [] s.data.toList).length) ∧ w' = w.alloc (.cells ((spl [] s.data.toList).map strv).toArray 9) := by
  have h1 : 1 ≤ (⟨#[47]⟩ : ByteArray).size := by decide
  have hle := Lib.countB_le ⟨#[47]⟩ h1 s.size s (Nat.le_refl _)
  have hlen := Lib.splitB_all ⟨#[47]⟩ h1 0 _ s rfl
  have hI : ∀ (x : ByteArray) (c : Array Value), x.size ≤ s.size → Calls Tryd.prog 106 #[.string x, .string ⟨#[47]⟩] (w.alloc (.cells c 9)) fun e w' => e = .returned (.int .i64 (Lib.indexB x ⟨#[47]⟩)) ∧ w' = w.alloc (.cells c 9) := by
    intro x c _
    have := Tryd.strings_Index_one x 47 (w.alloc (.cells c 9))
    rw [← Lib.index_one] at this
    exact this
  have hC : Calls Tryd.prog 105 #[.string s, .string ⟨#[47]⟩] w fun e w' => e = .returned (.int .i64 (Lib.countB s ⟨#[47]⟩)) ∧ w' = w := by
    have := Tryd.strings_Count_one s 47 w
    rw [Lib.countByte, ← Lib.count_one] at this
    exact this
  have c := Any.strings_genSplit_core Tryd.lays221 (by kernel_rfl) s ⟨#[47]⟩ 0 (-1) (Lib.countB s ⟨#[47]⟩ + 1) w hs h1 (Nat.zero_le _) hI hC (by decide) (by decide) (by rw [if_pos (by decide)]; omega)
  rw [Nat.add_sub_cancel, hlen] at c
  have e2 : Lib.cellsOf (Lib.splitB ⟨#[47]⟩ 0 (Lib.countB s ⟨#[47]⟩) s) (Lib.countB s ⟨#[47]⟩ + 1) = ((Lib.splitB ⟨#[47]⟩ 0 (Lib.countB s ⟨#[47]⟩) s).map Value.string).toArray := by rw [← hlen]; exact Lib.cellsOf_full _
  have e3 : (Lib.splitB ⟨#[47]⟩ 0 (Lib.countB s ⟨#[47]⟩) s).map Value.string = (spl [] s.data.toList).map strv := by
    rw [← splitK_spl]
    have := Lib.splitB_data ⟨#[47]⟩ 0 (Lib.countB s ⟨#[47]⟩) s
    have h4 : (Lib.splitK [47] 0 (Lib.count s.data.toList [47]) s.data.toList) = (Lib.splitB ⟨#[47]⟩ 0 (Lib.countB s ⟨#[47]⟩) s).map (·.data.toList) := this.symm
    rw [h4, List.map_map]
    refine List.map_congr_left fun x _ => ?_
    show Value.string x = strv x.data.toList
    rw [strv, mkS_self]
  have e4 : (spl [] s.data.toList).length = Lib.countB s ⟨#[47]⟩ + 1 := by
    have := congrArg List.length e3
    rw [List.length_map, List.length_map, hlen] at this
    exact this.symm
  rw [e2, e3] at c
  have hc : Calls Tryd.prog 95 #[.string s, .string ⟨#[47]⟩, .int .i64 0, .int .i64 (-1)] w fun e w' => e = .returned (.slice (some ⟨w.heap.size, 0, none⟩) (Lib.countB s ⟨#[47]⟩ + 1) (Lib.countB s ⟨#[47]⟩ + 1)) ∧ w' = w.alloc (.cells ((spl [] s.data.toList).map strv).toArray 9) := c
  rw [e4]
  have HC := Lib.hid hc
  clear c hc e2 e3 e4 hlen hle hI hC h1
  generalize Lib.countB s ⟨#[47]⟩ + 1 = n at *
  generalize ((spl [] s.data.toList).map strv).toArray = arr at *
  go_enter Tryd.func83, Tryd.ntmps83
  go_wp2_with (go_at_call 95; refine HC.out.mono ?_; rintro e w' ⟨rfl, hw⟩; rw [hw])
  go_ret
  exact ⟨rfl, rfl⟩
/-- What parts answers: the pieces, in memory of their own. -/
def PartsR (w w' : World) (e : Ending) (l : List (List UInt8)) : Prop := ∃ A n c, e = .returned (.slice A n c) ∧ l.length = n ∧ OwnS w' w.heap.size (.slice A n c) n l ∧ Chg No w w'
theorem parts_calls (w : World) (s : ByteArray) (hs : s.size < 4294967281) : Calls Tryd.prog 67 #[.string s] w fun e w' => PartsR w w' e (partsL s.data.toList) := by
  by_cases h0 : s.data.toList = []
  · have hs0 : s = ⟨#[]⟩ := by rw [← mkS_self s, h0]; rfl
    subst hs0
    go_enter Tryd.func67, Tryd.ntmps67
    go_wp2
    go_ret
    exact ⟨none, 0, 0, rfl, rfl, World.ownsRow_nil _ _ _ _, Chg.refl _ _⟩
  · have hsb : (s.toList == []) = false := bytes_ne h0
    have hse : s.toList.isEmpty = false := by rw [Lib.toList_data]; cases h : s.data.toList with | nil => exact absurd h h0 | cons => rfl
    have hP : partsL s.data.toList = spl [] s.data.toList := if_neg h0
    have hlen : (spl [] s.data.toList).length ≤ maxLen := by have := spl_len s.data.toList []; have := size_list s; unfold maxLen; omega
    have HC := Lib.hid (split_calls w s hs)
    have HP := Lib.hid hP
    have HO := Lib.hid (OwnS.lit w (spl [] s.data.toList) hlen)
    clear hP h0 hlen
    rw [HP.out]
    generalize spl [] s.data.toList = l at *
    generalize hll : l.length = n at *
    have HL := Lib.hid hll
    clear hll
    have HCH : Hid (Chg No w (w.alloc (.cells (l.map strv).toArray 9))) := (Chg.refl No w).alloc _
    generalize w.alloc (.cells (l.map strv).toArray 9) = w1 at *
    go_enter Tryd.func67, Tryd.ntmps67
    go_wp2_with fail
    refine HC.out.mono ?_
    rintro e w' ⟨rfl, hw⟩
    obtain rfl := hw
    go_wp2
    go_ret
    exact ⟨_, _, _, rfl, HL.out, HO.out, HCH.out⟩
theorem refparts_calls (w : World) (s : ByteArray) (hs : s.size < 4294967281) : Calls Tryd.prog 81 #[.string s] w fun e w' => PartsR w w' e (partsL s.data.toList) := by
  by_cases h0 : s.data.toList = []
  · have hs0 : s = ⟨#[]⟩ := by rw [← mkS_self s, h0]; rfl
    subst hs0
    go_enter Tryd.func81, Tryd.ntmps81
    go_wp2
    go_ret
    exact ⟨none, 0, 0, rfl, rfl, World.ownsRow_nil _ _ _ _, Chg.refl _ _⟩
  · have hsb : (s.toList == []) = false := bytes_ne h0
    have hse : s.toList.isEmpty = false := by rw [Lib.toList_data]; cases h : s.data.toList with | nil => exact absurd h h0 | cons => rfl
    have hP : partsL s.data.toList = spl [] s.data.toList := if_neg h0
    have hlen : (spl [] s.data.toList).length ≤ maxLen := by have := spl_len s.data.toList []; have := size_list s; unfold maxLen; omega
    have HC := Lib.hid (split_calls w s hs)
    have HP := Lib.hid hP
    have HO := Lib.hid (OwnS.lit w (spl [] s.data.toList) hlen)
    clear hP h0 hlen
    rw [HP.out]
    generalize spl [] s.data.toList = l at *
    generalize hll : l.length = n at *
    have HL := Lib.hid hll
    clear hll
    have HCH : Hid (Chg No w (w.alloc (.cells (l.map strv).toArray 9))) := (Chg.refl No w).alloc _
    generalize w.alloc (.cells (l.map strv).toArray 9) = w1 at *
    go_enter Tryd.func81, Tryd.ntmps81
    go_wp2_with fail
    refine HC.out.mono ?_
    rintro e w' ⟨rfl, hw⟩
    obtain rfl := hw
    go_wp2
    go_ret
    exact ⟨_, _, _, rfl, HL.out, HO.out, HCH.out⟩
end Go.Proofs.YtcomcoolmabmgaaDoor
