/-
  Entries; tree; Check of a tree.
-/
import Derived.Test.YtkmnkbmmgopldaaB5
import Derived.Test.YtkmnkbmmgopldaaN3
namespace Go.Proofs.Ytkmnkbmmgopldaa
open Go.RowKit
set_option linter.unusedVariables false
set_option linter.unusedSimpArgs false
set_option maxRecDepth 100000

/-- An entry: name, folder, id. -/
abbrev Ent := ByteArray × Bool × Nat
def encE (x : Ent) : List Value := [.string x.1, .bool x.2.1, .int .u64 (x.2.2 : Int)]
/-- A slice of entries. -/
def Es (w : World) (v : Value) (xs : List Ent) : Prop := Holds w v xs.length (xs.flatMap encE)
theorem encE_len (xs : List Ent) : (xs.flatMap encE).length = xs.length * 3 := by
  induction xs with
  | nil => rfl
  | cons a t ih => rw [List.flatMap_cons, List.length_append, ih, List.length_cons]; simp [encE]; omega
theorem encE_get (xs : List Ent) (k j : Nat) (hk : k < xs.length) (hj : j < 3) : (xs.flatMap encE)[k * 3 + j]? = (encE xs[k])[j]? := by
  induction xs generalizing k with
  | nil => simp at hk
  | cons a t ih =>
    rw [List.flatMap_cons]
    cases k with
    | zero =>
      rw [List.getElem?_append_left (by simp [encE]; omega)]
      simp
    | succ k =>
      rw [List.getElem?_append_right (by simp [encE]; omega)]
      have : (k + 1) * 3 + j - (encE a).length = k * 3 + j := by simp [encE]; omega
      rw [this, ih k (by simpa using hk)]
      rfl
theorem Es.no {w w' : World} {v : Value} {xs : List Ent} (h : Es w v xs) (hc : Chg No w w') : Es w' v xs := Holds.no h hc
theorem Es.chg {S : Nat → Prop} {w w' : World} {v : Value} {xs : List Ent} (h : Es w v xs) (hc : Chg S w w') (hs : ∀ b, v.ownBlock = some b → ¬ S b) : Es w' v xs := Holds.chg h hc hs
theorem Es.len {w : World} {A : Option Addr} {n c : Nat} {xs : List Ent} (h : Es w (.slice A n c) xs) : xs.length = n := by
  obtain ⟨A', c', he, hn, hm, hx⟩ := h
  simp only [Value.slice.injEq] at he
  exact he.2.1.symm
theorem Es.addr {w : World} {A : Option Addr} {n c : Nat} {xs : List Ent} (h : Es w (.slice A n c) xs) (hp : 0 < xs.length) :
    ∃ b o, A = some ⟨b, o, none⟩ ∧ ∀ k (hk : k < xs.length), w.cell? ⟨b, o + k * 3, none⟩ = some (.string xs[k].1) ∧ w.cell? ⟨b, o + k * 3 + 1, none⟩ = some (.bool xs[k].2.1) ∧ w.cell? ⟨b, o + k * 3 + 2, none⟩ = some (.int .u64 (xs[k].2.2 : Int)) := by
  obtain ⟨A', c', he, hn, hm, hx⟩ := h
  simp only [Value.slice.injEq] at he
  obtain ⟨rfl, rfl, rfl⟩ := he
  obtain ⟨b, o, rfl, hc⟩ := hx (by rw [encE_len]; omega)
  refine ⟨b, o, rfl, fun k hk => ⟨?_, ?_, ?_⟩⟩
  · have := hc (k * 3) (.string xs[k].1) (by have := encE_get xs k 0 hk (by omega); rw [Nat.add_zero] at this; rw [this]; rfl)
    exact this
  · have := hc (k * 3 + 1) (.bool xs[k].2.1) (by rw [encE_get xs k 1 hk (by omega)]; rfl)
    rw [← Nat.add_assoc] at this
    exact this
  · have := hc (k * 3 + 2) (.int .u64 (xs[k].2.2 : Int)) (by rw [encE_get xs k 2 hk (by omega)]; rfl)
    rw [← Nat.add_assoc] at this
    exact this

def leS (a b : ByteArray) : Bool := Op.bytesLess a.toList b.toList || a.toList == b.toList
def treeG : ByteArray → List Ent → Int
  | _, [] => 0
  | a, x :: r => if (spotF x.1.data.toList).1 ≠ 0 then (spotF x.1.data.toList).1 else if leS x.1 a = true then 161 else if x.2.2 = 0 then 2 else treeG x.1 r
def treeF (l : List Ent) : Int := if 256 < l.length then 3 else treeG ⟨#[]⟩ l

set_option maxHeartbeats 3200000 in
theorem tree_calls (w : World) (A : Option Addr) (n c : Nat) (xs : List Ent) (h : Es w (.slice A n c) xs) (hx : ∀ x ∈ xs, x.1.size ≤ 9223372036854775807) :
    Calls Try.prog 40 #[.slice A n c] w fun e w' => e = .returned (.int .i64 (treeF xs)) ∧ Chg No w w' := by
  have HL := Lib.hid h.len
  have H := Lib.hid h
  have HX := Lib.hid hx
  clear h hx
  by_cases h256 : 256 < n
  · have HF : Hid (treeF xs = 3) := by rw [Hid, treeF, if_pos (by rw [HL.out]; exact h256)]
    have b0 : (256 : Int) < (n : Int) := by omega
    go_enter Try.func40, Try.ntmps40
    go_wp2
    go_ret
    exact ⟨by rw [HF.out]; rfl, Chg.refl _ _⟩
  · have HF : Hid (treeF xs = treeG ⟨#[]⟩ xs) := by rw [Hid, treeF, if_neg (by rw [HL.out]; exact h256)]
    have b0 : ¬ (256 : Int) < (n : Int) := by omega
    go_enter Try.func40, Try.ntmps40
    go_wp2
    go_loopw [3, 12] (fun a i wr => ∃ (k : Nat) (y : ByteArray), k ≤ n ∧ i = .int .i64 (k : Int) ∧ a = .string y ∧ Hid (treeF xs = treeG y (xs.drop k)) ∧ Hid (Chg No w wr)) (fun _ i _ => n - (intOf i).toNat)
    case atStart => exact ⟨0, _, Nat.zero_le _, rfl, rfl, HF.out, Chg.refl _ _⟩
    case round =>
      obtain ⟨k, y, hk, rfl, rfl, HU, HC⟩ := hrel
      by_cases hlt : k < n
      · have hkl : k < xs.length := by rw [HL.out]; exact hlt
        obtain ⟨b, o, rfl, hcell⟩ := (H.out.no HC.out).addr (by rw [HL.out]; omega)
        obtain ⟨c0, c1, c2⟩ := hcell k hkl
        have HD : Hid (xs.drop k = xs[k] :: xs.drop (k + 1)) := by rw [Hid]; exact List.drop_eq_getElem_cons hkl
        have hsz := HX.out _ (List.getElem_mem hkl)
        generalize xs[k] = x at *
        obtain ⟨s, f, id⟩ := x
        simp only at c0 c1 c2 hsz
        have HU2 : Hid (treeF xs = if (spotF s.data.toList).1 ≠ 0 then (spotF s.data.toList).1 else if leS s y = true then 161 else if id = 0 then 2 else treeG s (xs.drop (k + 1))) := by rw [Hid, HU.out, HD.out]; rfl
        have hcc := fun w1 => check_calls w1 s hsz
        have HLE : Hid (leS s y = (Op.bytesLess s.toList y.toList || s.toList == y.toList)) := rfl
        generalize spotF s.data.toList = sp at *
        obtain ⟨e0, at0⟩ := sp
        simp only [spotV] at hcc HU2
        have HCC := Lib.hid hcc
        clear hcc hcell HU HD hkl
        go_wp2_with fail
        refine (HCC.out _).mono ?_
        rintro e w1 ⟨rfl, hc1⟩
        have hd := hc1.heap (heap_alloc_new wr (.cells #[.string s, .bool f, .int .u64 (id : Int)] 35)) (fun x => x)
        have hd1 := ((Chg.refl No w1).alloc (.cells #[.int .i64 e0, .int .i64 at0] 111)).heap hd (fun x => x)
        have d0 := cellAt hd1 0 (.string s) rfl
        have d2 := cellAt hd1 2 (.int .u64 (id : Int)) rfl
        clear hd hd1
        have HC1 : Hid (Chg No w w1) := (HC.out.alloc _).no hc1
        clear hc1
        by_cases he : e0 = 0
        · subst he
          generalize hle : (Op.bytesLess s.toList y.toList || s.toList == y.toList) = le at *
          cases le with
          | true =>
            have HV : Hid (treeF xs = 161) := by rw [Hid, HU2.out, if_neg (by simp), if_pos HLE.out]
            go_wp2
            go_ret
            exact ⟨by rw [HV.out]; rfl, HC1.out.alloc _⟩
          | false =>
            have HV := Lib.hid (show treeF xs = _ by rw [HU2.out, if_neg (by simp), if_neg (by rw [HLE.out]; simp)])
            by_cases hid0 : id = 0
            · subst hid0
              go_wp2
              go_ret
              exact ⟨by rw [HV.out]; rfl, HC1.out.alloc _⟩
            · have b1 : ((id : Int) == 0) = false := by simp; omega
              have HV2 := Lib.hid (show treeF xs = _ by rw [HV.out, if_neg hid0])
              clear hid0
              go_wp2
              go_roundw
              case rel => exact ⟨k + 1, s, by omega, by simp, rfl, HV2.out, HC1.out.alloc _⟩
              case measure => simp [intOf]; omega
        · have b1 : (e0 != 0) = true := by simpa using he
          have HV : Hid (treeF xs = e0) := by rw [Hid, HU2.out, if_pos he]
          clear he
          go_wp2
          go_ret
          exact ⟨by rw [HV.out]; rfl, HC1.out.alloc _⟩
      · have hkn : k = n := by omega
        subst hkn
        have HV : Hid (treeF xs = 0) := by rw [Hid, HU.out, List.drop_of_length_le (by rw [HL.out]; exact Nat.le_refl _)]; rfl
        go_wp2
        go_ret
        exact ⟨by rw [HV.out]; rfl, HC.out⟩
set_option maxHeartbeats 800000 in
theorem check_tree (w : World) (A : Option Addr) (n c : Nat) (xs : List Ent) (h : Es w (.slice A n c) xs) (hx : ∀ x ∈ xs, x.1.size ≤ 9223372036854775807) :
    Calls Try.prog 14 #[treeV (.slice A n c)] w fun e w' => e = .returned (.int .i64 (treeF xs)) ∧ Chg No w w' := by
  have fb := fun w => ta_tree_blob w
  have ft := fun w => ta_tree_tree w
  have fc := fun w => ta_tree_commit w
  have HC : Hid (∀ w1, Chg No w w1 → Calls Try.prog 40 #[.slice A n c] w1 fun e w' => e = .returned (.int .i64 (treeF xs)) ∧ Chg No w1 w') := fun w1 hc => tree_calls w1 A n c xs (h.no hc) hx
  clear h
  go_enter Try.func14, Try.ntmps14
  go_wp2_with fail
  refine (HC.out _ ((Chg.refl No w).alloc _)).mono ?_
  rintro e w1 ⟨rfl, hc⟩
  go_wp2
  go_ret
  exact ⟨rfl, ((Chg.refl No w).alloc _).no hc⟩
end Go.Proofs.Ytkmnkbmmgopldaa
