/-
  Equal, Same, Id, Of.
-/
import Derived.Test.YtkmnkbmmgopldaaB7
import Derived.Test.YtkmnkbmmgopldaaOct7
namespace Go.Proofs.Ytkmnkbmmgopldaa
open Go.RowKit
set_option linter.unusedVariables false
set_option linter.unusedSimpArgs false
set_option maxRecDepth 100000

theorem equal_calls (w : World) (A : Option Addr) (n c : Nat) (xs : List UInt8) (A' : Option Addr) (n' c' : Nat) (ys : List UInt8) (h : Bytes w (.slice A n c) xs) (h' : Bytes w (.slice A' n' c') ys) :
    Calls Try.prog 22 #[.slice A n c, .slice A' n' c'] w fun e w' => e = .returned (.bool (decide (xs = ys))) ∧ w' = w := by
  have t1 := h.text (P := Try.prog) (src := 38) (dst := 9) Try.underlying38 Try.underlying5 Try.underlying9
  have t2 := h'.text (P := Try.prog) (src := 38) (dst := 9) Try.underlying38 Try.underlying5 Try.underlying9
  have hb : ((mkS xs).toList == (mkS ys).toList) = decide (xs = ys) := by
    rw [Lib.toList_data, Lib.toList_data, mkS_list, mkS_list]
    by_cases hx : xs = ys
    · simp [hx]
    · simp [hx]
  generalize decide (xs = ys) = z at *
  clear h h'
  go_enter Try.func22, Try.ntmps22
  go_wp2
  go_ret
  exact ⟨by first | rfl | simp [hb], rfl⟩

/-- What Encode answers. -/
def Encodes (w : World) (o : Value) (k : Int) (bs : List UInt8) : Prop :=
  ∀ W, Chg No w W → Calls Try.prog 21 #[o] W fun e w' => ∃ v, e = .returned (.tuple #[v, .int .i64 k]) ∧ OwnB w' W.heap.size v bs ∧ Chg No W w'
theorem Encodes.no {w w' : World} {o : Value} {k : Int} {bs : List UInt8} (h : Encodes w o k bs) (hc : Chg No w w') : Encodes w' o k bs := fun W hW => h W (hc.no hW)
theorem Encodes.ofRefused {w : World} {o : Value} {k : Nat} (hk : k ≠ 0) (h : ∀ W, Chg No w W → Calls Try.prog 14 #[o] W fun e w' => e = .returned (.int .i64 (k : Int)) ∧ Chg No W w') : Encodes w o k [] := by
  intro W hW
  refine (encode_refused W o k hk (h W hW)).mono ?_
  rintro e w' ⟨rfl, hc⟩
  exact ⟨_, rfl, World.ownsRow_nil _ _ _ _, hc⟩
theorem encodes_commit (w : World) (t : Nat) (A : Option Addr) (n c : Nat) (ps : List Nat) (a : ByteArray) (d : Int) (x : ByteArray) (h : Sl u64v w (.slice A n c) ps) (hn : n ≤ 9223372036854775807) (ha : a.size ≤ 9223372036854775807) (hx : x.size ≤ 9223372036854775807)
    (ht : t < 18446744073709551616) (hps : ∀ p ∈ ps, p < 18446744073709551616) :
    Encodes w (commitV (t : Int) (.slice A n c) a d x) (commitF t ps a.data.toList x.data.toList : Nat) (if commitF t ps a.data.toList x.data.toList = 0 then commitB t ps a.data.toList d x.data.toList else []) := by
  by_cases hF : commitF t ps a.data.toList x.data.toList = 0
  · rw [if_pos hF]
    intro W hW
    rw [show ((commitF t ps a.data.toList x.data.toList : Nat) : Int) = 0 by rw [hF]; rfl]
    exact encode_commit W t A n c ps a d x (h.no hW) hF ht hps
  · rw [if_neg hF]
    exact Encodes.ofRefused hF (fun W hW => check_commit W t A n c ps a d x (h.no hW) hn ha hx)
theorem treeF_nat (xs : List Ent) : ∃ k : Nat, treeF xs = (k : Int) := by
  unfold treeF
  split
  · exact ⟨3, rfl⟩
  · have : ∀ (l : List Ent) (a : ByteArray), ∃ k : Nat, treeG a l = (k : Int) := by
      intro l
      induction l with
      | nil => exact fun a => ⟨0, rfl⟩
      | cons y r ih =>
        intro a
        unfold treeG
        split
        · unfold spotF
          split
          · exact ⟨140, rfl⟩
          · split
            · exact ⟨3, rfl⟩
            · split
              · exact ⟨0, rfl⟩
              · exact ⟨140, rfl⟩
        · split
          · exact ⟨161, rfl⟩
          · split
            · exact ⟨2, rfl⟩
            · exact ih y.1
    exact this xs _
theorem encodes_tree (w : World) (A : Option Addr) (n c : Nat) (xs : List Ent) (h : Es w (.slice A n c) xs) (hx : ∀ x ∈ xs, x.1.size ≤ 9223372036854775807) (hid : ∀ x ∈ xs, x.2.2 < 18446744073709551616) :
    Encodes w (treeV (.slice A n c)) (treeF xs) (if treeF xs = 0 then treeB xs else []) := by
  by_cases hF : treeF xs = 0
  · rw [if_pos hF]
    intro W hW
    rw [hF]
    exact encode_tree W A n c xs (h.no hW) hF hid
  · rw [if_neg hF]
    obtain ⟨k, hk⟩ := treeF_nat xs
    rw [hk] at hF ⊢
    refine Encodes.ofRefused (by intro h0; exact hF (by rw [h0]; rfl)) (fun W hW => ?_)
    have := check_tree W A n c xs (h.no hW) hx
    rw [hk] at this
    exact this
theorem encodes_blob (w : World) (A : Option Addr) (n c : Nat) (xs : List UInt8) (hb : Bytes w (.slice A n c) xs) (hl : xs.length = n) :
    Encodes w (blobV (.slice A n c)) (if 4096 < n then 3 else 0) (if 4096 < n then [] else 98 :: xs) := by
  by_cases h : 4096 < n
  · rw [if_pos h, if_pos h]
    refine Encodes.ofRefused (k := 3) (by decide) (fun W hW => ?_)
    have := check_blob W A n c
    rw [if_pos h] at this
    exact this
  · rw [if_neg h, if_neg h]
    exact fun W hW => encode_blob W A n c xs (hb.no hW) hl (by omega)

set_option maxHeartbeats 1600000 in
theorem same_calls (w : World) (a b : Value) (ka kb : Int) (xa xb : List UInt8) (ha : Encodes w a ka xa) (hb : Encodes w b kb xb) :
    Calls Try.prog 24 #[a, b] w fun e w' => e = .returned (.bool (ka == 0 && kb == 0 && decide (xa = xb))) ∧ Chg No w w' := by
  go_enter Try.func24, Try.ntmps24
  go_wp2_with fail
  refine (ha w (Chg.refl _ _)).mono ?_
  rintro e w1 ⟨v1, rfl, ho1, hc1⟩
  obtain ⟨A1, n1, c1, rfl, HL1, HO1⟩ := ho1.form
  have HC1 := Lib.hid hc1
  clear ho1 hc1
  go_wp2_with fail
  refine (hb w1 HC1.out).mono ?_
  rintro e w2 ⟨v2, rfl, ho2, hc2⟩
  obtain ⟨A2, n2, c2, rfl, HL2, HO2⟩ := ho2.form
  have HC2 := Lib.hid (HC1.out.no hc2)
  have HE : Hid (Calls Try.prog 22 #[.slice A1 n1 c1, .slice A2 n2 c2] w2 fun e w' => e = .returned (.bool (decide (xa = xb))) ∧ w' = w2) := equal_calls w2 A1 n1 c1 xa A2 n2 c2 xb (HO1.out.bytes.no hc2) HO2.out.bytes
  clear ho2 hc2
  generalize hz : decide (xa = xb) = z at *
  have HZ := Lib.hid hz
  clear hz
  by_cases h1 : ka = 0
  · by_cases h2 : kb = 0
    · subst h1
      subst h2
      go_wp2_with (go_at_call 22; refine HE.out.mono ?_; rintro e w' ⟨rfl, rfl⟩)
      go_ret
      exact ⟨by first | rfl | simp [HZ.out], HC2.out⟩
    · have b2 : (kb == 0) = false := by simpa using h2
      subst h1
      go_wp2
      go_ret
      exact ⟨by first | rfl | simp [b2], HC2.out⟩
  · have b1 : (ka == 0) = false := by simpa using h1
    go_wp2
    go_ret
    exact ⟨by first | rfl | simp [b1], HC2.out⟩

def idF (xs : List UInt8) : Nat := max (hashF xs) 1
theorem id_calls (w : World) (A : Option Addr) (n c : Nat) (xs : List UInt8) (h : Bytes w (.slice A n c) xs) (hl : xs.length = n) (hx : n ≤ 140737488355328) :
    Calls Try.prog 25 #[.slice A n c] w fun e w' => e = .returned (.int .u64 (idF xs : Int)) ∧ w' = w := by
  have HF : Hid (idF xs = if (hashF xs : Int) < 1 then 1 else hashF xs) := by
    rw [Hid, idF]
    split <;> omega
  go_enter Try.func25, Try.ntmps25
  go_wp2_with fail
  refine (hash_calls w A n c xs h hl hx).mono ?_
  rintro e w1 ⟨rfl, rfl⟩
  clear h hl
  by_cases h1 : (hashF xs : Int) < 1
  · go_wp2
    go_ret
    refine ⟨?_, rfl⟩
    rw [HF.out, if_pos h1]
    first | rfl | (simp; omega)
  · go_wp2
    go_ret
    refine ⟨?_, rfl⟩
    rw [HF.out, if_neg (by omega)]
    first | rfl | (simp; omega)
theorem of_calls (w : World) (a : Value) (k : Int) (xa : List UInt8) (ha : Encodes w a k xa) (hl : xa.length ≤ 140737488355328) :
    Calls Try.prog 30 #[a] w fun e w' => e = .returned (.tuple #[.int .u64 ((if k = 0 then idF xa else 0 : Nat) : Int), .int .i64 k]) ∧ Chg No w w' := by
  generalize hq : (if k = 0 then idF xa else 0) = q at *
  have HQ := Lib.hid hq
  clear hq
  go_enter Try.func30, Try.ntmps30
  go_wp2_with fail
  refine (ha w (Chg.refl _ _)).mono ?_
  rintro e w1 ⟨v1, rfl, ho1, hc1⟩
  obtain ⟨A1, n1, c1, rfl, HL1, HO1⟩ := ho1.form
  by_cases h1 : k = 0
  · subst h1
    clear ho1
    go_wp2_with fail
    refine (id_calls w1 A1 n1 c1 xa HO1.out.bytes HL1.out (by have := HL1.out; omega)).mono ?_
    rintro e w2 ⟨rfl, rfl⟩
    go_wp2
    go_ret2
    exact ⟨by have := HQ.out; first | (rw [if_pos trivial] at this; rw [← this]; rfl) | (simp at this; rw [← this]; rfl), hc1⟩
  · have b1 : (k != 0) = true := by simpa using h1
    have HK : Hid (q = 0) := by rw [Hid, ← HQ.out, if_neg h1]
    clear ho1 h1
    go_wp2
    go_ret2
    exact ⟨by rw [HK.out]; rfl, hc1⟩
end Go.Proofs.Ytkmnkbmmgopldaa
