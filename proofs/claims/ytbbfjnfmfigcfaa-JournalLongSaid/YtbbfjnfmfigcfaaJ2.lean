/-
  A disk that is not cut, of one file or of none: New, raw, may.
-/
import Derived.Test.YtbbfjnfmfigcfaaJ1
import Derived.Test.YtbbfjnfmfigcfaaOct2
import Derived.Test.YtbbfjnfmfigcfaaOwn
import Derived.RangeFuncFrom
namespace Go.Proofs.Ytbbfjnfmfigcfaa
open Go.RowKit
set_option linter.unusedVariables false
set_option linter.unusedSimpArgs false
set_option maxRecDepth 100000

/-- A disk that is not cut. -/
def DiskAt (w : World) (d m : Nat) (writes : Nat) (f : Option (ByteArray × Value)) : Prop :=
  w.heap[d]? = some (.cells #[.map (some m), .int .i64 (writes : Int), .int .i64 0, .bool false] 67 (0, 0)) ∧ w.heap[m]? = some (mapObj f)
theorem DiskAt.chg {S : Nat → Prop} {w w' : World} {d m writes : Nat} {f : Option (ByteArray × Value)} (h : DiskAt w d m writes f) (hc : Chg S w w') (h1 : ¬ S d) (h2 : ¬ S m) : DiskAt w' d m writes f :=
  ⟨hc.heap h.1 h1, hc.heap h.2 h2⟩
theorem DiskAt.cells {w : World} {d m writes : Nat} {f : Option (ByteArray × Value)} (h : DiskAt w d m writes f) :
    w.cell? ⟨d, 0, none⟩ = some (.map (some m)) ∧ w.cell? ⟨d, 1, none⟩ = some (.int .i64 (writes : Int)) ∧ w.cell? ⟨d, 2, none⟩ = some (.int .i64 0) ∧ w.cell? ⟨d, 3, none⟩ = some (.bool false) ∧ w.frozen? ⟨d, 1, none⟩ = false := by
  simp [World.cell?, World.frozen?, h.1]

set_option maxHeartbeats 800000 in
theorem new_calls (w : World) : Calls Try.prog 15 #[] w fun e w' => e = .returned (.pointer (some ⟨w.heap.size + 1, 0, none⟩)) ∧ DiskAt w' (w.heap.size + 1) w.heap.size 0 none ∧ Chg No w w' := by
  have hmm := @run_makeMap Try.prog
  go_enter Try.func15, Try.ntmps15
  go_wp2
  go_ret
  refine ⟨rfl, ⟨?_, ?_⟩, ((Chg.refl No w).alloc _).alloc _⟩
  · have h := heap_alloc_new (w.alloc (.map #[] 0)) (.cells #[.map (some w.heap.size), .int .i64 0, .int .i64 0, .bool false] 67)
    rw [World.size_alloc] at h
    exact h
  · exact ((Chg.refl No _).alloc _).heap (heap_alloc_new w (.map #[] 0)) (fun x => x)

set_option maxHeartbeats 800000 in
theorem dread_none (w : World) (d m wr : Nat) (k : ByteArray) (h : DiskAt w d m wr none) :
    Calls Try.prog 12 #[.pointer (some ⟨d, 0, none⟩), .string k] w fun e w' => e = .returned (.tuple #[.slice none 0 0, .int .i64 4]) ∧ Chg No w w' := by
  obtain ⟨c0, c1, c2, c3, c4⟩ := h.cells
  have hl := look_none w m k h.2
  go_enter Try.func12, Try.ntmps12
  go_wp2
  go_ret2
  exact ⟨rfl, Chg.refl _ _⟩
theorem dread_nil (w : World) (k : ByteArray) :
    Calls Try.prog 12 #[.pointer none, .string k] w fun e w' => e = .returned (.tuple #[.slice none 0 0, .int .i64 1]) ∧ Chg No w w' := by
  go_enter Try.func12, Try.ntmps12
  go_wp2
  go_ret2
  exact ⟨rfl, Chg.refl _ _⟩
set_option maxHeartbeats 800000 in
theorem may_one (w : World) (c : UInt8) (hc : 97 ≤ c.toNat ∧ c.toNat ≤ 122) : Calls Try.prog 40 #[.string ⟨#[c]⟩] w fun e w' => e = .returned (.bool true) ∧ Chg No w w' := by
  have hs : (⟨#[c]⟩ : ByteArray).size = 1 := rfl
  go_enter Try.func40, Try.ntmps40
  go_wp2
  go_loopw [15] (fun i wr => ∃ k : Nat, k ≤ 1 ∧ i = .int .i64 (k : Int) ∧ Hid (Chg No w wr)) (fun i _ => 1 - (intOf i).toNat)
  case atStart => exact ⟨0, by omega, rfl, Chg.refl _ _⟩
  case round =>
    obtain ⟨k, hk, rfl, HC⟩ := hrel
    by_cases h0 : k = 0
    · subst h0
      have hx : (⟨#[c]⟩ : ByteArray)[0]'(by show 0 < 1; omega) = c := rfl
      have t1 : (97 : Int) ≤ (c.toNat : Int) := by omega
      have t2 : (c.toNat : Int) ≤ 122 := by omega
      go_wp2
      go_roundw
      case rel => exact ⟨1, by omega, rfl, HC.out⟩
      case measure => simp only [intOf]; omega
    · have h1 : k = 1 := by omega
      subst h1
      go_wp2
      go_ret
      exact ⟨rfl, HC.out⟩
set_option maxHeartbeats 800000 in
theorem dread_some (w : World) (d m wr : Nat) (k : ByteArray) (A : Option Addr) (n c : Nat) (xs : List UInt8) (h : DiskAt w d m wr (some (k, .slice A n c))) (hb : Bytes w (.slice A n c) xs) (hx : n ≤ 140737488355328) :
    Calls Try.prog 12 #[.pointer (some ⟨d, 0, none⟩), .string k] w fun e w' => ∃ v, e = .returned (.tuple #[v, .int .i64 0]) ∧ OwnB w' w.heap.size v xs ∧ Chg No w w' := by
  obtain ⟨c0, c1, c2, c3, c4⟩ := h.cells
  have hl := look_same w m k _ h.2
  have HB := Lib.hid hb
  clear hb
  go_enter Try.func12, Try.ntmps12
  go_wp2_with fail
  refine (clone_any w A n c xs HB.out hx).mono ?_
  rintro e w1 ⟨v, rfl, ho, hc⟩
  obtain ⟨A', n', c', rfl, HL', HO'⟩ := ho.form
  have HC := Lib.hid hc
  clear ho hc
  go_wp2
  go_ret2
  exact ⟨_, rfl, HO'.out, HC.out⟩

/-- A raw write of a disk that is not cut. -/
theorem raw_calls (w : World) (d m wr : Nat) (f : Option (ByteArray × Value)) (h : DiskAt w d m wr f) (hw : wr < 9223372036854775807) (g : Nat) (caps : Array Value) (R : World → Prop) (hen : ∀ args w, (callFunc g args).run Try.prog w = .ok (.enter g args) w)
    (hF : Calls Try.prog g caps (w.setCell ⟨d, 1, none⟩ (.int .i64 ((wr : Int) + 1))) fun e w' => e = .returned (.tuple #[]) ∧ R w') :
    Calls Try.prog 41 #[.pointer (some ⟨d, 0, none⟩), .func (.func g) #[] caps] w fun e w' => e = .returned (.int .i64 0) ∧ R w' := by
  obtain ⟨c0, c1, c2, c3, c4⟩ := h.cells
  have HF := Lib.hid hF
  clear hF
  go_enter Try.func41, Try.ntmps41
  go_wp2_with fail
  refine HF.out.mono ?_
  rintro e w2 ⟨rfl, hr⟩
  go_wp2
  go_ret
  exact ⟨rfl, hr⟩
end Go.Proofs.Ytbbfjnfmfigcfaa
