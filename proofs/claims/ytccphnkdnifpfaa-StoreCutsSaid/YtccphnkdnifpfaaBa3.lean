/-
  Ref1a, Ref1b, Ref1c, J8, J9, Qd, Pcs, N1, Rep5, Oct3, Oct4, Oct5: in one text.
-/
import Derived.Test.YtccphnkdnifpfaaBa2
import Derived.Deep.RegionHeld3
import Derived.Test.YtccphnkdnifpfaaBa1
import Derived.Laws.Runes
import Derived.Lib.OthersKept
import Derived.Lib.Strings
import Derived.Lib.Slices
import Derived.Lib.Walk
import Derived.Lib.Bytealg
import Derived.Laws.RangeAny
namespace Go.Proofs.Ytccphnkdnifpfaa
set_option linter.unnecessarySimpa false
open Go.RowKit
set_option linter.unusedVariables false
set_option linter.unusedSimpArgs false

set_option maxHeartbeats 800000 in
theorem refhash_calls (w : World) (A : Option Addr) (n c : Nat) (xs : List UInt8) (h : Bytes w (.slice A n c) xs) (hl : xs.length = n) (hx : n ≤ 140737488355328) :
    Calls Try.prog 59 #[.slice A n c] w fun e w' => e = .returned (.int .u64 (hashF xs : Int)) ∧ w = w' := by
  have H := Lib.hid h
  have HL := Lib.hid hl
  clear h hl
  go_enter Try.func59, Try.ntmps59
  go_wp2
  go_loop [3, 4] (fun x i => ∃ k : Nat, k ≤ n ∧ i = .int .i64 (k : Int) ∧ x = .int .u64 (((xs.take k).foldl hstep 14695981039346656037 : Nat) : Int)) (fun _ i => n - (intOf i).toNat)
  case atStart => exact ⟨0, by omega, rfl, rfl⟩
  case round =>
    obtain ⟨k, hk, rfl, rfl⟩ := hrel
    by_cases hlt : k < n
    · obtain ⟨b, o, rfl, hcell⟩ := H.out.addr (by rw [HL.out]; omega)
      have hc := hcell k (by rw [HL.out]; exact hlt)
      have HT := Lib.hid (foldl_take hstep 14695981039346656037 xs k (by rw [HL.out]; exact hlt))
      have HB := Lib.hid (hash_foldl_lt (xs.take k) 14695981039346656037 (by decide))
      generalize xs[k]'(by rw [HL.out]; exact hlt) = u at hc HT
      have hu : u.toNat < 256 := u.toNat_lt
      clear hcell
      generalize hy : (xs.take k).foldl hstep 14695981039346656037 = y at *
      have HY := Lib.hid hy
      clear hy
      go_wp2
      go_round
      case rel => exact ⟨k + 1, hlt, by go_num, by rw [HT.out]; exact congrArg (Value.int .u64) (hstep_wrap y u HB.out)⟩
      case measure => simp [intOf]; omega
    · have : k = n := by omega
      subst this
      have HF : Hid ((xs.take k).foldl hstep 14695981039346656037 = hashF xs) := by rw [List.take_of_length_le (by rw [HL.out]; exact Nat.le_refl _)]; rfl
      go_wp2
      go_ret
      exact ⟨by rw [← HF.out]; rfl, rfl⟩

theorem retu {a b : Int} (h : a = b) : Ending.returned (.int .u64 a) = .returned (.int .u64 b) := by rw [h]
def unhexB (xs : List UInt8) : Ending := match unhexF xs with
  | none => .returned (.tuple #[.int .u64 0, .bool false])
  | some x => .returned (.tuple #[.int .u64 (x : Int), .bool true])
theorem unhexB_none {xs : List UInt8} (h : unhexF xs = none) : unhexB xs = .returned (.tuple #[.int .u64 0, .bool false]) := by simp [unhexB, h]
theorem unhexB_some {xs : List UInt8} {x : Nat} (h : unhexF xs = some x) : unhexB xs = .returned (.tuple #[.int .u64 (x : Int), .bool true]) := by simp [unhexB, h]

end Go.Proofs.Ytccphnkdnifpfaa

namespace Go.Proofs.Ytccphnkdnifpfaa
set_option linter.unnecessarySimpa false
open Go.RowKit
set_option linter.unusedVariables false
set_option linter.unusedSimpArgs false

theorem hexd_small (q : Nat) (h : q < 10) : 48 + (q : Int) = ((hexd q).toNat : Int) := by
  unfold hexd; rw [if_pos h, UInt8.toNat_ofNat']; omega
theorem hexd_big (q : Nat) (h : ¬ q < 10) (h2 : q < 16) : 97 + (q : Int) - 10 = ((hexd q).toNat : Int) := by
  unfold hexd; rw [if_neg h, UInt8.toNat_ofNat']; omega

set_option maxRecDepth 100000 in
set_option maxHeartbeats 800000 in
theorem refword_calls (w : World) (x : Nat) (xv : Int) (hxv : xv = (x : Int)) (hx64 : x < 18446744073709551616) :
    Calls Try.prog 58 #[.int .u64 xv] w fun e w' => ∃ v, e = .returned v ∧ OwnB w' w.heap.size v (wide x) ∧ Chg No w w' := by
  subst hxv
  have hmk : ∀ w, (Instr.makeSlice 30 (.int .i64 8) (.int .i64 8)).run Try.prog w = .ok (.slice (some ⟨w.heap.size, 0, none⟩) 8 8) (w.alloc (.cells #[.int .u8 0, .int .u8 0, .int .u8 0, .int .u8 0, .int .u8 0, .int .u8 0, .int .u8 0, .int .u8 0] 5)) := fun _ => by kernel_rfl
  go_enter Try.func58, Try.ntmps58
  go_wp2
  go_loopw [0, 4] (fun xs s wr => ∃ k : Nat, k ≤ 8 ∧ s = .int .i64 (7 - (k : Int)) ∧ xs = .int .u64 ((x / 256 ^ k : Nat) : Int) ∧ Hid (FillArr 5 wr w.heap.size 8 (fun j => UInt8.ofNat (x / 256 ^ (7 - j))) k) ∧ Hid (Chg No w wr)) (fun _ s _ => (intOf s + 1).toNat)
  case atStart => exact ⟨0, by omega, by simp, by simp, FillArr.start _ rfl, (Chg.refl _ _).alloc _⟩
  case round =>
    obtain ⟨k, hk, rfl, rfl, HX, HC⟩ := hrel
    by_cases hb : k < 8
    · obtain ⟨u, hu⟩ := HX.out.cell (7 - k) (by omega)
      have hf := HX.out.frozen (7 - k)
      have hs0 : 0 ≤ 7 - (k : Int) := by omega
      generalize hy : x / 256 ^ k = y at *
      have hy64 : y < 18446744073709551616 := by rw [← hy]; exact Nat.lt_of_le_of_lt (Nat.div_le_self _ _) hx64
      have HY := Lib.hid hy
      clear hy
      go_wp2
      go_roundw
      case rel =>
        refine ⟨k + 1, hb, by go_num, ?_, HX.out.store hb (7 - k) (by omega) _ ?_, HC.out.setCell (.inl (Nat.le_refl _)) _⟩
        · rw [Nat.pow_succ, ← Nat.div_div_eq_div_mul, HY.out]; go_num
        · simp only [show 7 - (7 - k) = k by omega]; rw [HY.out, UInt8.toNat_ofNat']; omega
      case measure => simp [intOf]; omega
    · have : k = 8 := by omega
      subst this
      go_wp2
      go_ret
      exact ⟨_, rfl, HX.out.own (by unfold maxLen; omega) (Nat.le_refl _), HC.out⟩

set_option maxRecDepth 100000 in
set_option maxHeartbeats 800000 in
theorem refuint_calls (w : World) (x : Nat) (xv : Int) (hxv : xv = (x : Int)) (hx64 : x < 18446744073709551616) :
    Calls Try.prog 78 #[.int .u64 xv] w fun e w' => ∃ v, e = .returned v ∧ OwnB w' w.heap.size v (leb x) ∧ Chg No w w' := by
  subst hxv
  go_enter Try.func78, Try.ntmps78
  go_wp2
  go_loopw [0, 3] (fun xv v wr => ∃ (y : Nat) (acc : List UInt8), y ≤ x ∧ xv = .int .u64 (y : Int) ∧ Hid (OwnB wr w.heap.size v acc) ∧ Hid (acc ++ leb y = leb x) ∧ Hid (Chg No w wr)) (fun xv _ _ => (intOf xv).toNat)
  case atStart => exact ⟨x, [], Nat.le_refl _, rfl, World.ownsRow_nil _ _ _ _, by simp [Hid], Chg.refl _ _⟩
  case round =>
    obtain ⟨y, acc, hy, rfl, HO, HA, HC⟩ := hrel
    have hlen : acc.length ≤ 10 := by
      have h1 := congrArg List.length HA.out
      have h2 := leb_len10 x hx64
      simp only [List.length_append] at h1
      omega
    have HLen := Lib.hid hlen
    clear hlen
    have hsz : w.heap.size ≤ wr.heap.size := HC.out.size
    by_cases hb : y < 128
    · have HE := Lib.hid (leb_small y hb)
      have HV : Hid (((UInt8.ofNat y).toNat : Int) = (y : Int)) := by simp only [Hid, UInt8.toNat_ofNat']; omega
      go_wp2_with (at_builtin; (refine wpList_app _ rfl (.tmp 15) (.tmp 18) 30 30 rfl w.heap.size 5 (.int .u8 0) 1 1 infoU8 Try.underlying30 rfl (by decide) u3 (.slice (some ⟨wr.heap.size, 0, none⟩) 1 1) acc.length 1 (u8s acc) [.int .u8 (y : Int)] rfl rfl ?own ?src ?b1 ?b2 ?b3 ?_; (case own => exact HO.out.alloc _); (case src => exact Src.one Try.underlying30 _ rfl); (case b1 => have := HLen.out; omega); (case b2 => unfold maxLen; have := HLen.out; omega); (case b3 => simp; omega); intro v' w' hown hg))
      go_ret
      refine ⟨_, rfl, .of hown ?_, (HC.out.alloc _).grown hg ?_⟩
      · rw [← HA.out, HE.out]; exact u8s_snoc _ _ _ HV.out
      · intro k hk
        exact .inl (HO.out.block k hk).1
    · have HE := Lib.hid (leb_big y hb)
      have HV : Hid (((UInt8.ofNat (y % 128 + 128)).toNat : Int) = (y : Int) % 128 + 128) := by simp only [Hid, UInt8.toNat_ofNat']; omega
      go_wp2_with (at_builtin; (refine wpList_app _ rfl (.tmp 6) (.tmp 11) 30 30 rfl w.heap.size 5 (.int .u8 0) 1 1 infoU8 Try.underlying30 rfl (by decide) u3 (.slice (some ⟨wr.heap.size, 0, none⟩) 1 1) acc.length 1 (u8s acc) [.int .u8 ((y : Int) % 128 + 128)] rfl rfl ?own ?src ?b1 ?b2 ?b3 ?_; (case own => exact HO.out.alloc _); (case src => exact Src.one Try.underlying30 _ rfl); (case b1 => have := HLen.out; omega); (case b2 => unfold maxLen; have := HLen.out; omega); (case b3 => simp; omega); intro v' w' hown hg))
      go_roundw
      case rel =>
        refine ⟨y / 128, acc ++ [UInt8.ofNat (y % 128 + 128)], by omega, by go_num, ?_, ?_, ?_⟩
        · refine OwnB.of hown ?_
          exact u8s_snoc _ _ _ HV.out
        · rw [Hid, ← HA.out, HE.out]; simp
        · exact (HC.out.alloc _).grown hg (fun k hk => .inl (HO.out.block k hk).1)
      case measure => simp [intOf]; omega

set_option maxRecDepth 100000 in
set_option maxHeartbeats 800000 in
theorem reftext_calls (w : World) (s : ByteArray) (hs : s.size ≤ 140737488355318) :
    Calls Try.prog 57 #[.string s] w fun e w' => ∃ v, e = .returned v ∧ OwnB w' w.heap.size v (leb s.size ++ s.data.toList) ∧ Chg No w w' := by
  have HS := Lib.hid (size_list s)
  have HLen := Lib.hid (leb_len10 s.size (by omega))
  go_enter Try.func57, Try.ntmps57
  go_wp2_with fail
  refine (refuint_calls _ s.size _ rfl (by omega)).mono ?_
  rintro e w1 ⟨v1, rfl, hown1, hc1⟩
  have HO1 := Lib.hid hown1
  have HC1 := Lib.hid hc1
  clear hown1 hc1
  go_wp2
  go_loopw [3, 4] (fun v i wr => ∃ k : Nat, k ≤ s.size ∧ i = .int .i64 (k : Int) ∧ Hid (OwnB wr w.heap.size v (leb s.size ++ s.data.toList.take k)) ∧ Hid (Chg No w wr)) (fun _ i _ => s.size - (intOf i).toNat)
  case atStart => exact ⟨0, by omega, rfl, by simpa [Hid] using HO1.out, HC1.out⟩
  case round =>
    obtain ⟨k, hk, rfl, HO, HC⟩ := hrel
    have hsz : w.heap.size ≤ wr.heap.size := HC.out.size
    by_cases hlt : k < s.size
    · have HT : Hid (s.data.toList.take (k + 1) = s.data.toList.take k ++ [s[k]'(by omega)]) := List.take_succ_eq_append_getElem (by rw [HS.out]; omega)
      go_wp2_with (at_builtin; (refine wpList_app _ rfl (.tmp 15) (.tmp 19) 30 30 rfl w.heap.size 5 (.int .u8 0) 1 1 infoU8 Try.underlying30 rfl (by decide) u3 (.slice (some ⟨wr.heap.size, 0, none⟩) 1 1) (leb s.size ++ s.data.toList.take k).length 1 (u8s (leb s.size ++ s.data.toList.take k)) [.int .u8 ((s[k]'(by omega)).toNat : Int)] rfl rfl ?own ?src ?b1 ?b2 ?b3 ?_; (case own => exact HO.out.alloc _); (case src => exact Src.one Try.underlying30 _ rfl); (case b1 => simp only [List.length_append, List.length_take]; have := HLen.out; have := HS.out; omega); (case b2 => unfold maxLen; simp only [List.length_append, List.length_take]; have := HLen.out; have := HS.out; omega); (case b3 => simp; omega); intro v' w' hown hg))
      go_roundw
      case rel =>
        refine ⟨k + 1, hlt, by go_num, ?_, (HC.out.alloc _).grown hg (fun k hk => .inl (HO.out.block k hk).1)⟩
        refine OwnB.of hown ?_
        rw [HT.out, ← List.append_assoc]; exact u8s_snoc _ _ _ rfl
      case measure => simp [intOf]; omega
    · have hkk : k = s.size := by omega
      subst hkk
      go_wp2
      go_ret
      have := HO.out
      rw [List.take_of_length_le (by rw [HS.out]; omega)] at this
      exact ⟨_, rfl, this, HC.out⟩
end Go.Proofs.Ytccphnkdnifpfaa

namespace Go.Proofs.Ytccphnkdnifpfaa
set_option linter.unnecessarySimpa false
open Go.RowKit
set_option linter.unusedVariables false
set_option linter.unusedSimpArgs false

theorem mkS_toList (l : List UInt8) : (mkS l).toList = l := by first | (rw [ByteArray.toList_eq]; exact mkS_list l) | (simp [ByteArray.toList, mkS])
set_option maxRecDepth 100000 in
set_option maxHeartbeats 1600000 in
theorem both_calls (w : World) (A : Option Addr) (n c : Nat) (us : List UInt8) (B : Option Addr) (m d : Nat) (vs : List UInt8) (ha : Bytes w (.slice A n c) us) (hla : us.length = n) (hb : Bytes w (.slice B m d) vs) (hlb : vs.length = m) (hs : n + m ≤ 140737488355328) :
    Calls Try.prog 56 #[.slice A n c, .slice B m d] w fun e w' => ∃ v, e = .returned v ∧ OwnB w' w.heap.size v (us ++ vs) ∧ Chg No w w' := by
  have HA := Lib.hid ha
  have HB := Lib.hid hb
  have HLa := Lib.hid hla
  have HLb := Lib.hid hlb
  have HS := Lib.hid hs
  obtain ⟨i0, hi, hz0, hz1, hz2⟩ := info_parts infoU8
  clear ha hb hla hlb
  go_enter Try.func56, Try.ntmps56
  go_wp2_with (at_make; refine wpList_make_own _ rfl _ _ 30 rfl w.heap.size 5 i0 (.int .u8 0) 1 Try.underlying30 hi hz0 hz1 .i64 .i64 _ (n + m) rfl rfl (by simp) (by rw [hz2]; omega) (by unfold maxLen; omega) (Nat.le_refl _) ?_; intro w1 hown1 hg1)
  have HO1 : Hid (OwnB w1 w.heap.size (.slice (some ⟨w.heap.size, 0, none⟩) 0 (n + m)) []) := hown1
  have HC1 : Hid (Chg No w w1) := Chg.ofGrown hg1 (fun k hk => by cases hk)
  clear hown1 hg1 hi hz0 hz1 hz2
  go_loopw [5, 6] (fun v i wr => ∃ k : Nat, k ≤ n ∧ i = .int .i64 (k : Int) ∧ Hid (OwnB wr w.heap.size v (us.take k)) ∧ Hid (Chg No w wr)) (fun _ i _ => n - (intOf i).toNat)
  case atStart => exact ⟨0, by omega, rfl, HO1.out, HC1.out⟩
  case round =>
    obtain ⟨k, hk, rfl, HO, HC⟩ := hrel
    have hsz : w.heap.size ≤ wr.heap.size := HC.out.size
    by_cases hlt : k < n
    · obtain ⟨b, o, rfl, hcell⟩ := (HA.out.no HC.out).addr (by rw [HLa.out]; omega)
      have hc := hcell k (by rw [HLa.out]; exact hlt)
      have HT : Hid (us.take (k + 1) = us.take k ++ [us[k]'(by rw [HLa.out]; exact hlt)]) := List.take_succ_eq_append_getElem (by rw [HLa.out]; exact hlt)
      generalize us[k]'(by rw [HLa.out]; exact hlt) = u at hc HT
      clear hcell
      go_wp2_with (at_builtin; (refine wpList_app _ rfl (.tmp 20) (.tmp 25) 30 30 rfl w.heap.size 5 (.int .u8 0) 1 1 infoU8 Try.underlying30 rfl (by decide) u5 (.slice (some ⟨wr.heap.size, 0, none⟩) 1 1) (us.take k).length 1 (u8s (us.take k)) [.int .u8 (u.toNat : Int)] rfl rfl ?own ?src ?b1 ?b2 ?b3 ?_; (case own => exact HO.out.alloc _); (case src => exact Src.one Try.underlying30 _ rfl); (case b1 => simp only [List.length_take]; have := HS.out; have := HLa.out; omega); (case b2 => unfold maxLen; simp only [List.length_take]; have := HS.out; have := HLa.out; omega); (case b3 => simp; omega); intro v' w' hown hg))
      go_roundw
      case rel =>
        refine ⟨k + 1, hlt, by go_num, ?_, (HC.out.alloc _).grown hg (fun k hk => .inl (HO.out.block k hk).1)⟩
        refine OwnB.of hown ?_
        rw [HT.out]; exact u8s_snoc _ _ _ rfl
      case measure => simp [intOf]; omega
    · have hkn : k = n := by omega
      subst hkn
      have HO' : Hid (OwnB wr w.heap.size u5 us) := by have := HO.out; rwa [List.take_of_length_le (by rw [HLa.out]; exact Nat.le_refl _)] at this
      obtain ⟨wo, hwo⟩ : ∃ wo : World, wo = wr := ⟨_, rfl⟩
      clear HO
      subst hwo
      go_wp2
      go_loopw [5, 7] (fun v i wr => ∃ k : Nat, k ≤ m ∧ i = .int .i64 (k : Int) ∧ Hid (OwnB wr w.heap.size v (us ++ vs.take k)) ∧ Hid (Chg No w wr)) (fun _ i _ => m - (intOf i).toNat)
      case atStart => exact ⟨0, by omega, rfl, by simpa [Hid] using HO'.out, HC.out⟩
      case round =>
        clear HC HO'
        obtain ⟨k, hk, rfl, HO, HC⟩ := hrel
        have hsz : w.heap.size ≤ wr.heap.size := HC.out.size
        by_cases hlt : k < m
        · obtain ⟨b, o, rfl, hcell⟩ := (HB.out.no HC.out).addr (by rw [HLb.out]; omega)
          have hc := hcell k (by rw [HLb.out]; exact hlt)
          have HT : Hid (vs.take (k + 1) = vs.take k ++ [vs[k]'(by rw [HLb.out]; exact hlt)]) := List.take_succ_eq_append_getElem (by rw [HLb.out]; exact hlt)
          generalize vs[k]'(by rw [HLb.out]; exact hlt) = u at hc HT
          clear hcell
          go_wp2_with (at_builtin; (refine wpList_app _ rfl (.tmp 33) (.tmp 38) 30 30 rfl w.heap.size 5 (.int .u8 0) 1 1 infoU8 Try.underlying30 rfl (by decide) u5 (.slice (some ⟨wr.heap.size, 0, none⟩) 1 1) (us ++ vs.take k).length 1 (u8s (us ++ vs.take k)) [.int .u8 (u.toNat : Int)] rfl rfl ?own ?src ?b1 ?b2 ?b3 ?_; (case own => exact HO.out.alloc _); (case src => exact Src.one Try.underlying30 _ rfl); (case b1 => simp only [List.length_append, List.length_take]; have := HS.out; have := HLa.out; have := HLb.out; omega); (case b2 => unfold maxLen; simp only [List.length_append, List.length_take]; have := HS.out; have := HLa.out; have := HLb.out; omega); (case b3 => simp; omega); intro v' w' hown hg))
          go_roundw
          case rel =>
            refine ⟨k + 1, hlt, by go_num, ?_, (HC.out.alloc _).grown hg (fun k hk => .inl (HO.out.block k hk).1)⟩
            refine OwnB.of hown ?_
            rw [HT.out, ← List.append_assoc]; exact u8s_snoc _ _ _ rfl
          case measure => simp [intOf]; omega
        · go_wp2
          go_ret
          have := HO.out
          rw [List.take_of_length_le (by rw [HLb.out]; omega)] at this
          exact ⟨_, rfl, this, HC.out⟩
end Go.Proofs.Ytccphnkdnifpfaa

namespace Go.Proofs.Ytccphnkdnifpfaa
set_option linter.unnecessarySimpa false
open Go.RowKit Go.Shelf
set_option linter.unusedVariables false
set_option linter.unusedSimpArgs false
set_option maxRecDepth 100000

/-- A record's bytes. -/
def recF (p : List UInt8) : List UInt8 := leb p.length ++ p ++ wide (hashF p)
def encF (ps : List (List UInt8)) : List UInt8 := ps.flatMap recF
theorem encF_snoc (ps : List (List UInt8)) (p : List UInt8) : encF (ps ++ [p]) = encF ps ++ recF p := by simp [encF]
theorem recF_len (p : List UInt8) (h : p.length < 18446744073709551616) : (recF p).length ≤ p.length + 18 ∧ p.length + 9 ≤ (recF p).length := by
  have h1 := leb_len10 p.length h
  have h2 := leb_pos p.length
  have h3 := wide_len (hashF p)
  simp only [recF, List.length_append]
  omega

theorem encF_len (ps : List (List UInt8)) : ps.length * 9 + ps.flatten.length ≤ (encF ps).length := by
  induction ps with
  | nil => simp [encF]
  | cons q r ih =>
    have h1 := wide_len (hashF q)
    have h2 := leb_pos q.length
    simp only [encF, List.flatMap_cons, List.length_append, List.length_cons, List.flatten_cons, recF] at ih ⊢
    omega

set_option maxHeartbeats 800000 in
theorem record_calls (w : World) (A : Option Addr) (n c : Nat) (xs : List UInt8) (h : Bytes w (.slice A n c) xs) (hl : xs.length = n) (hx : n ≤ 140737488355000) :
    Calls Try.prog 60 #[.slice A n c] w fun e w' => ∃ v, e = .returned v ∧ OwnB w' w.heap.size v (recF xs) ∧ Chg No w w' := by
  have HT := Lib.hid (h.text (src := 30) (dst := 9) Try.underlying30 Try.underlying5 Try.underlying9)
  have ht := HT.out
  have HB := Lib.hid h
  have HL := Lib.hid hl
  have hms : (mkS xs).size = n := by rw [mkS_size, hl]
  have HR := Lib.hid (recF_len xs (by omega))
  clear h hl
  go_enter Try.func60, Try.ntmps60
  go_wp2_with fail
  refine (puttext_calls _ none 0 0 [] (Bytes.nil _) rfl (mkS xs) (by omega)).mono ?_
  rintro e w1 ⟨v1, rfl, ho1, hc1⟩
  rw [mkS_size, mkS_list, List.nil_append] at ho1
  obtain ⟨A1, n1, c1, rfl, HL1, HO1⟩ := ho1.form
  have HC1 := Lib.hid hc1
  clear ht ho1 hc1
  go_wp2_with fail
  refine (hash_calls w1 A n c xs (HB.out.no HC1.out) HL.out (by omega)).mono ?_
  rintro e w2 ⟨rfl, rfl⟩
  go_wp2_with fail
  have hn1 : n1 ≤ n + 10 := by
    have h1 := HL1.out
    have h2 := leb_len10 xs.length (by have := HL.out; omega)
    have := HL.out
    rw [List.length_append] at h1; omega
  refine (putword_calls w1 A1 n1 c1 (leb xs.length ++ xs) HO1.out.bytes HL1.out (hashF xs) _ rfl (hashF_lt xs) (by omega)).mono ?_
  rintro e w2 ⟨v2, rfl, ho2, hc2⟩
  obtain ⟨A2, n2, c2, rfl, HL2, HO2⟩ := ho2.form
  have HC2 := Lib.hid hc2
  clear ho2 hc2
  go_wp2
  go_ret
  exact ⟨_, rfl, HO2.out.mono HC1.out.size, HC1.out.no HC2.out⟩

set_option maxHeartbeats 800000 in
theorem refrecord_calls (w : World) (A : Option Addr) (n c : Nat) (xs : List UInt8) (h : Bytes w (.slice A n c) xs) (hl : xs.length = n) (hx : n ≤ 140737488355000) :
    Calls Try.prog 30 #[.slice A n c] w fun e w' => ∃ v, e = .returned v ∧ OwnB w' w.heap.size v (recF xs) ∧ Chg No w w' := by
  have HT := Lib.hid (h.text (src := 30) (dst := 9) Try.underlying30 Try.underlying5 Try.underlying9)
  have ht := HT.out
  have HB := Lib.hid h
  have HL := Lib.hid hl
  have hms : (mkS xs).size = n := by rw [mkS_size, hl]
  clear h hl
  go_enter Try.func30, Try.ntmps30
  go_wp2_with fail
  refine (reftext_calls _ (mkS xs) (by omega)).mono ?_
  rintro e w1 ⟨v1, rfl, ho1, hc1⟩
  rw [mkS_size, mkS_list] at ho1
  obtain ⟨A1, n1, c1, rfl, HL1, HO1⟩ := ho1.form
  have HC1 := Lib.hid hc1
  clear ht ho1 hc1
  go_wp2_with fail
  refine (refhash_calls w1 A n c xs (HB.out.no HC1.out) HL.out (by omega)).mono ?_
  rintro e w2 ⟨rfl, rfl⟩
  go_wp2_with fail
  have hn1 : n1 ≤ n + 10 := by
    have h1 := HL1.out
    have h2 := leb_len10 xs.length (by have := HL.out; omega)
    have := HL.out
    rw [List.length_append] at h1; omega
  refine (refword_calls w1 (hashF xs) _ rfl (hashF_lt xs)).mono ?_
  rintro e w2 ⟨v2, rfl, ho2, hc2⟩
  obtain ⟨A2, n2, c2, rfl, HL2, HO2⟩ := ho2.form
  have hn2 : n2 ≤ 8 := by have := HL2.out; rw [wide_len] at this; omega
  have HC2 := Lib.hid hc2
  clear ho2 hc2
  go_wp2_with fail
  refine (both_calls w2 A1 n1 c1 (leb xs.length ++ xs) A2 n2 c2 (wide (hashF xs)) (HO1.out.bytes.no HC2.out) HL1.out HO2.out.bytes HL2.out (by omega)).mono ?_
  rintro e w3 ⟨v3, rfl, ho3, hc3⟩
  obtain ⟨A3, n3, c3, rfl, HL3, HO3⟩ := ho3.form
  have HC3 := Lib.hid hc3
  clear ho3 hc3
  go_wp2
  go_ret
  exact ⟨_, rfl, HO3.out.mono (HC1.out.no HC2.out).size, (HC1.out.no HC2.out).no HC3.out⟩

/-- Blocks of S, and new ones. -/
def Grow (S : Nat → Prop) (w w' : World) : Nat → Prop := fun i => S i ∨ (w.heap.size ≤ i ∧ i < w'.heap.size)

/-- A journal of payloads ps over a disk that is not cut; all of it lies in blocks of S. -/
def JD (w : World) (S : Nat → Prop) (base j d m wr : Nat) (k : ByteArray) (th : Bool) (ps : List (List UInt8)) : Prop :=
  ∃ A n c AP np cp AF nf cf, JCells w j d k (.slice A n c) (.slice AP np cp) (encF ps).length false ∧
    DiskAt w d m wr (if th then some (k, .slice AF nf cf) else none) ∧
    OwnB w base (.slice A n c) ps.flatten ∧ w.ownsRow base 147 2 (.slice AP np cp) np (partsC 0 ps) ∧ OwnB w base (.slice AF nf cf) (encF ps) ∧
    ps.flatten.length = n ∧ ps.length = np ∧ (encF ps).length = nf ∧ (th = false → AF = none ∧ nf = 0 ∧ cf = 0 ∧ ps = []) ∧
    (∀ b, (Value.slice A n c).ownBlock = some b → ¬ (Value.slice AF nf cf).ownBlock = some b) ∧
    (∀ b, (Value.slice A n c).ownBlock = some b → S b) ∧ (∀ b, (Value.slice AP np cp).ownBlock = some b → S b) ∧ (∀ b, (Value.slice AF nf cf).ownBlock = some b → S b) ∧
    S j ∧ S d ∧ S m ∧ (∀ i, S i → base ≤ i ∧ i < w.heap.size) ∧ base ≤ w.heap.size

theorem JD.chg {T S : Nat → Prop} {w w' : World} {base j d m wr : Nat} {k : ByteArray} {th : Bool} {ps : List (List UInt8)} (h : JD w S base j d m wr k th ps) (hc : Chg T w w') (hs : ∀ i, S i → ¬ T i) : JD w' S base j d m wr k th ps := by
  obtain ⟨A, n, c, AP, np, cp, AF, nf, cf, h1, h2, h3, h4, h5, h6, h7, h8, h9, h10, h11, h12, h13, h14, h15, h16, h17, h18⟩ := h
  exact ⟨A, n, c, AP, np, cp, AF, nf, cf, hc.heap h1 (hs _ h14), h2.chg hc (hs _ h15) (hs _ h16), h3.chg hc (fun b hb => hs _ (h11 b hb)), ownsRow_chg h4 hc (fun b hb => hs _ (h12 b hb)), h5.chg hc (fun b hb => hs _ (h13 b hb)), h6, h7, h8, h9, h10, h11, h12, h13, h14, h15, h16, fun i hi => ⟨(h17 i hi).1, Nat.lt_of_lt_of_le (h17 i hi).2 hc.size⟩, Nat.le_trans h18 hc.size⟩
theorem JD.no {S : Nat → Prop} {w w' : World} {base j d m wr : Nat} {k : ByteArray} {th : Bool} {ps : List (List UInt8)} (h : JD w S base j d m wr k th ps) (hc : Chg No w w') : JD w' S base j d m wr k th ps := h.chg hc (fun _ _ x => x)
theorem JD.lt {S : Nat → Prop} {w : World} {base j d m wr : Nat} {k : ByteArray} {th : Bool} {ps : List (List UInt8)} (h : JD w S base j d m wr k th ps) : ∀ i, S i → base ≤ i ∧ i < w.heap.size := by
  obtain ⟨A, n, c, AP, np, cp, AF, nf, cf, h1, h2, h3, h4, h5, h6, h7, h8, h9, h10, h11, h12, h13, h14, h15, h16, h17, h18⟩ := h
  exact h17

theorem JCells.nrow {w : World} {j d : Nat} {k : ByteArray} {va vp : Value} {sz : Nat} {cut : Bool} (h : JCells w j d k va vp sz cut) {base size n : Nat} {e : TypeId} {v : Value} {xs : List Value} (ho : w.ownsRow base e size v n xs) (he : e ≠ 112) : ¬ some j = v.ownBlock := by
  intro hx
  obtain ⟨cc, fz, hcc⟩ := ownsRow_cells ho j hx.symm
  have := (show w.heap[j]? = _ from h).symm.trans hcc
  cases this
  exact he rfl
theorem DiskAt.nd {w : World} {d m wr : Nat} {f : Option (ByteArray × Value)} (h : DiskAt w d m wr f) {base size n : Nat} {e : TypeId} {v : Value} {xs : List Value} (ho : w.ownsRow base e size v n xs) (he : e ≠ 88) : ¬ some d = v.ownBlock := by
  intro hx
  obtain ⟨cc, fz, hcc⟩ := ownsRow_cells ho d hx.symm
  have := h.1.symm.trans hcc
  cases this
  exact he rfl
theorem DiskAt.nm {w : World} {d m wr : Nat} {f : Option (ByteArray × Value)} (h : DiskAt w d m wr f) {base size n : Nat} {e : TypeId} {v : Value} {xs : List Value} (ho : w.ownsRow base e size v n xs) : ¬ some m = v.ownBlock := by
  intro hx
  obtain ⟨cc, fz, hcc⟩ := ownsRow_cells ho m hx.symm
  have := h.2.symm.trans hcc
  unfold mapObj at this
  split at this <;> cases this
theorem rows_apart {w : World} {base base' size size' n n' : Nat} {e e' : TypeId} {v v' : Value} {xs xs' : List Value} (h : w.ownsRow base e size v n xs) (h' : w.ownsRow base' e' size' v' n' xs') (he : e ≠ e') : ∀ b, v.ownBlock = some b → ¬ v'.ownBlock = some b := by
  intro b hb hx
  obtain ⟨cc, fz, hcc⟩ := ownsRow_cells h b hb
  obtain ⟨cc2, fz2, hcc2⟩ := ownsRow_cells h' b hx
  have := hcc.symm.trans hcc2
  cases this
  exact he rfl

theorem dappend_any (w : World) (base d m wr0 : Nat) (k : ByteArray) (hmay : ∀ w, Calls Try.prog 87 #[.string k] w fun e w' => e = .returned (.bool true) ∧ Chg No w w') (th : Bool) (A A2 : Option Addr) (n c n2 c2 : Nat) (xs ys : List UInt8)
    (h : DiskAt w d m wr0 (if th then some (k, .slice A n c) else none)) (hw : wr0 < 9223372036850000000) (ho : OwnB w base (.slice A n c) xs) (hl : xs.length = n) (hth : th = false → A = none ∧ n = 0 ∧ c = 0) (hb : Bytes w (.slice A2 n2 c2) ys) (hl2 : ys.length = n2) (hn : n + n2 ≤ 4194304) (hpos : 0 < n2) (hbase : base ≤ w.heap.size)
    (hbd : ∀ b, (Value.slice A2 n2 c2).ownBlock = some b → b ≠ d ∧ b ≠ m ∧ some b ≠ (Value.slice A n c).ownBlock) :
    Calls Try.prog 61 #[.pointer (some ⟨d, 0, none⟩), .string k, .slice A2 n2 c2] w fun e w' => e = .returned (.int .i64 0) ∧ ∃ v', DiskAt w' d m (wr0 + (n2 + 31) / 32) (some (k, v')) ∧ OwnB w' base v' (xs ++ ys) ∧ Chg (DS d m (.slice A n c)) w w' ∧ From w (.slice A n c) v' := by
  cases th
  · obtain ⟨rfl, rfl, rfl⟩ := hth rfl
    have : xs = [] := List.eq_nil_of_length_eq_zero hl
    subst this
    exact dappend_first w base d m wr0 k hmay A2 n2 c2 ys h hw hb hl2 (by omega) hpos hbase hbd
  · exact dappend_more w base d m wr0 k hmay A A2 n c n2 c2 xs ys h hw ho hl hb hl2 hn hpos hbase hbd

set_option maxHeartbeats 3200000 in
theorem jappend_calls (w : World) (S : Nat → Prop) (base j d m wr : Nat) (k : ByteArray) (hmay : ∀ w, Calls Try.prog 87 #[.string k] w fun e w' => e = .returned (.bool true) ∧ Chg No w w') (th : Bool) (ps : List (List UInt8)) (A2 : Option Addr) (n2 c2 : Nat) (p : List UInt8)
    (h : JD w S base j d m wr k th ps) (hb : Bytes w (.slice A2 n2 c2) p) (hl2 : p.length = n2) (hbs : ∀ b, (Value.slice A2 n2 c2).ownBlock = some b → ¬ S b) (hn2 : n2 ≤ 262144) (hsum : (encF ps).length + (recF p).length ≤ 4194304) (hw : wr < 9223372036850000000) :
    Calls Try.prog 31 #[.pointer (some ⟨j, 0, none⟩), .slice A2 n2 c2] w fun e w' => e = .returned (.int .i64 0) ∧ JD w' (Grow S w w') base j d m (wr + ((recF p).length + 31) / 32) k true (ps ++ [p]) ∧ Chg S w w' := by
  obtain ⟨A, n, c, AP, np, cp, AF, nf, cf, h1, h2, h3, h4, h5, h6, h7, h8, h9, h10, h11, h12, h13, h14, h15, h16, h17, h18⟩ := h
  have c5 := h1.c5
  have HJ := Lib.hid h1
  have HD := Lib.hid h2
  have HO := Lib.hid h3
  have HP := Lib.hid h4
  have HF := Lib.hid h5
  have HB := Lib.hid hb
  have HL := Lib.hid h6
  have HLP := Lib.hid h7
  have HLF := Lib.hid h8
  have HL2 := Lib.hid hl2
  have HTH := Lib.hid h9
  have hrl := recF_len p (by omega)
  have hps := encF_len ps
  have hng : ¬ ((n2 : Int) > 262144) := by omega
  have hng2 : ¬ ((262144 : Int) < (n2 : Int)) := by omega
  clear h1 h2 h3 h4 h5 h6 h7 h8 hb hl2 h9
  go_enter Try.func31, Try.ntmps31
  go_wp2_with fail
  refine (record_calls w A2 n2 c2 p HB.out HL2.out (by omega)).mono ?_
  rintro e w1 ⟨v1, rfl, ho1, hc1⟩
  obtain ⟨A1, n1, c1, rfl, HL1, HO1⟩ := ho1.form
  have HC1 := Lib.hid hc1
  have e0 := (HJ.out.c0 : w.cell? _ = _)
  have e0 := hc1.cell e0 (fun x => x)
  have e1 := hc1.cell HJ.out.c1 (fun x => x)
  clear ho1 hc1 c5
  have HN1 := Lib.hid (show n1 = (recF p).length from HL1.out.symm)
  have hn1a : (encF ps).length + n1 ≤ 4194304 := by have := HN1.out; omega
  have hn1b : 0 < n1 := by have := HN1.out; omega
  have hn1c : nf + n1 ≤ 4194304 := by have := HLF.out; omega
  have hn1d : n + n2 ≤ 4194304 := by have := HLF.out; have := HN1.out; have := HL.out; have := HL2.out; omega
  have hn1e : np ≤ 4194304 := by have := HLP.out; have := HN1.out; omega
  have hfresh : ∀ b, (Value.slice A1 n1 c1).ownBlock = some b → w.heap.size ≤ b := fun b hb => (HO1.out.block b hb).1
  have hfb : ∀ b, (Value.slice A1 n1 c1).ownBlock = some b → b ≠ d ∧ b ≠ m ∧ some b ≠ (Value.slice AF nf cf).ownBlock := by
    intro b hb
    have h1 := hfresh b hb
    refine ⟨fun e => ?_, fun e => ?_, fun e => ?_⟩
    · subst e; have := (h17 _ h15).2; omega
    · subst e; have := (h17 _ h16).2; omega
    · have := (h17 _ (h13 b e.symm)).2; omega
  have HTH2 : Hid (th = false → AF = none ∧ nf = 0 ∧ cf = 0) := fun ht => ⟨(HTH.out ht).1, (HTH.out ht).2.1, (HTH.out ht).2.2.1⟩
  clear hrl hps hsum
  have KJ : ¬ DS d m (.slice AF nf cf) j := by
    rintro (e | e | e)
    · subst e; have h1 := (show w.heap[j]? = _ from HJ.out).symm.trans HD.out.1; cases h1
    · subst e; have h1 := (show w.heap[j]? = _ from HJ.out).symm.trans HD.out.2; unfold mapObj at h1; split at h1 <;> cases h1
    · exact HJ.out.nrow HF.out (by decide) e
  go_wp2_with fail
  refine wp_region_held_drew (S := (fun W => W.cell? ⟨j, 0, none⟩ = some (.pointer (some ⟨d, 0, none⟩)) ∧ W.cell? ⟨j, 1, none⟩ = some (.string k))) (by kernel_rfl) ⟨e0, e1⟩ (fun hSw => ?_)
  refine wpAnyH_take (i := 0) (oi := { dst := some 21, op := Go.Op.move (Go.Operand.tmp 0), type := 80, pos := "journal.go:82", after := #[], guard := none }) (v := ?_) rfl (by kernel_rfl) (by kernel_rfl) (by kernel_rfl) (fun _ _ _ h => h) (Or.inl ⟨by rfl, ?_⟩) hSw ?_
  rotate_left
  · (intro W hW; obtain ⟨hq1, hq2⟩ := hW; go_simp; try with_reducible rfl)
  try simp only [Act.put, List.setIfInBounds_toArray, List.set_cons_zero, List.set_cons_succ]
  refine wpAnyH_take (i := 1) (oi := { dst := some 22, op := Go.Op.nilCheck (Go.Operand.tmp 21), type := 0, pos := "journal.go:82", after := #[{ on := 0, ground := Go.Ground.data }], guard := none }) (v := ?_) rfl (by kernel_rfl) (by kernel_rfl) (by kernel_rfl) (fun _ _ _ h => h) (Or.inl ⟨by rfl, ?_⟩) hSw ?_
  rotate_left
  · (intro W hW; obtain ⟨hq1, hq2⟩ := hW; go_simp; try with_reducible rfl)
  try simp only [Act.put, List.setIfInBounds_toArray, List.set_cons_zero, List.set_cons_succ]
  refine wpAnyH_take (i := 2) (oi := { dst := some 23, op := Go.Op.fieldAddr 112 (Go.Operand.tmp 22) 0, type := 0, pos := "journal.go:82", after := #[{ on := 1, ground := Go.Ground.data }], guard := none }) (v := ?_) rfl (by kernel_rfl) (by kernel_rfl) (by kernel_rfl) (fun _ _ _ h => h) (Or.inl ⟨by rfl, ?_⟩) hSw ?_
  rotate_left
  · (intro W hW; obtain ⟨hq1, hq2⟩ := hW; go_simp; try with_reducible rfl)
  try simp only [Act.put, List.setIfInBounds_toArray, List.set_cons_zero, List.set_cons_succ]
  refine wpAnyH_take (i := 3) (oi := { dst := some 24, op := Go.Op.load 24 (Go.Operand.tmp 23), type := 24, pos := "journal.go:82", after := #[{ on := 2, ground := Go.Ground.data }], guard := none }) (v := ?_) rfl (by kernel_rfl) (by kernel_rfl) (by kernel_rfl) (fun _ _ _ h => h) (Or.inl ⟨by rfl, ?_⟩) hSw ?_
  rotate_left
  · (intro W hW; obtain ⟨hq1, hq2⟩ := hW; go_simp; try with_reducible rfl)
  try simp only [Act.put, List.setIfInBounds_toArray, List.set_cons_zero, List.set_cons_succ]
  refine wpAnyH_take (i := 4) (oi := { dst := some 25, op := Go.Op.move (Go.Operand.tmp 0), type := 80, pos := "journal.go:82", after := #[], guard := none }) (v := ?_) rfl (by kernel_rfl) (by kernel_rfl) (by kernel_rfl) (fun _ _ _ h => h) (Or.inl ⟨by rfl, ?_⟩) hSw ?_
  rotate_left
  · (intro W hW; obtain ⟨hq1, hq2⟩ := hW; go_simp; try with_reducible rfl)
  try simp only [Act.put, List.setIfInBounds_toArray, List.set_cons_zero, List.set_cons_succ]
  refine wpAnyH_take (i := 5) (oi := { dst := some 26, op := Go.Op.nilCheck (Go.Operand.tmp 25), type := 0, pos := "journal.go:82", after := #[{ on := 4, ground := Go.Ground.data }], guard := none }) (v := ?_) rfl (by kernel_rfl) (by kernel_rfl) (by kernel_rfl) (fun _ _ _ h => h) (Or.inl ⟨by rfl, ?_⟩) hSw ?_
  rotate_left
  · (intro W hW; obtain ⟨hq1, hq2⟩ := hW; go_simp; try with_reducible rfl)
  try simp only [Act.put, List.setIfInBounds_toArray, List.set_cons_zero, List.set_cons_succ]
  refine wpAnyH_take (i := 6) (oi := { dst := some 27, op := Go.Op.fieldAddr 112 (Go.Operand.tmp 26) 1, type := 0, pos := "journal.go:82", after := #[{ on := 5, ground := Go.Ground.data }], guard := none }) (v := ?_) rfl (by kernel_rfl) (by kernel_rfl) (by kernel_rfl) (fun _ _ _ h => h) (Or.inl ⟨by rfl, ?_⟩) hSw ?_
  rotate_left
  · (intro W hW; obtain ⟨hq1, hq2⟩ := hW; go_simp; try with_reducible rfl)
  try simp only [Act.put, List.setIfInBounds_toArray, List.set_cons_zero, List.set_cons_succ]
  refine wpAnyH_take (i := 7) (oi := { dst := some 28, op := Go.Op.load 9 (Go.Operand.tmp 27), type := 9, pos := "journal.go:82", after := #[{ on := 6, ground := Go.Ground.data }], guard := none }) (v := ?_) rfl (by kernel_rfl) (by kernel_rfl) (by kernel_rfl) (fun _ _ _ h => h) (Or.inl ⟨by rfl, ?_⟩) hSw ?_
  rotate_left
  · (intro W hW; obtain ⟨hq1, hq2⟩ := hW; go_simp; try with_reducible rfl)
  try simp only [Act.put, List.setIfInBounds_toArray, List.set_cons_zero, List.set_cons_succ]
  refine wpAnyH_take (i := 8) (oi := { dst := some 29, op := Go.Op.move (Go.Operand.tmp 5), type := 30, pos := "journal.go:82", after := #[], guard := none }) (v := ?_) rfl (by kernel_rfl) (by kernel_rfl) (by kernel_rfl) (fun _ _ _ h => h) (Or.inl ⟨by rfl, ?_⟩) hSw ?_
  rotate_left
  · (intro W hW; obtain ⟨hq1, hq2⟩ := hW; go_simp; try with_reducible rfl)
  try simp only [Act.put, List.setIfInBounds_toArray, List.set_cons_zero, List.set_cons_succ]
  refine wpAnyH_ready (rs := [9]) (by kernel_rfl) (by simp) ?_
  refine AllReadyH.cons (o := { dst := some 30, op := Go.Op.call { callee := Go.Callee.value (Go.Operand.func 61), args := #[Go.Operand.tmp 24, Go.Operand.tmp 28, Go.Operand.tmp 29], argTypes := #[24, 9, 30] }, type := 27, pos := "journal.go:82", after := #[{ on := 3, ground := Go.Ground.data }, { on := 7, ground := Go.Ground.data }, { on := 8, ground := Go.Ground.data }], guard := none }) rfl (fun K hK => ?_) AllReadyH.nil
  rw [if_pos (by rfl)]
  go_simp
  refine (dappend_any _ base d m wr k hmay th AF A1 nf cf n1 c1 (encF ps) (recF p) (HD.out.chg HC1.out.drew (fun x => x) (fun x => x)) hw (HF.out.chg (HC1.out.drew) (fun _ _ x => x)) HLF.out HTH2.out (HO1.out.bytes.no (Chg.refl No _).drew) HL1.out hn1c hn1b (Nat.le_trans h18 HC1.out.drew.size) hfb).mono ?_
  rintro e w2 ⟨rfl, vf, hD2, hF2, hc2, hff⟩
  have e02 := hc2.cell e0 KJ
  have e12 := hc2.cell e1 KJ
  refine hK.out _ _ ⟨e02, e12⟩ (fun hSw => ?_)
  clear hK
  try simp only [Act.put, List.setIfInBounds_toArray, List.set_cons_zero, List.set_cons_succ]
  refine wpAnyH_take (i := 10) (oi := { dst := some 6, op := Go.Op.assign (Go.Operand.tmp 30), type := 27, pos := "journal.go:82", after := #[{ on := 9, ground := Go.Ground.data }, { on := 9, ground := Go.Ground.chain }, { on := 0, ground := Go.Ground.phase }, { on := 1, ground := Go.Ground.phase }, { on := 2, ground := Go.Ground.phase }, { on := 3, ground := Go.Ground.phase }, { on := 4, ground := Go.Ground.phase }, { on := 5, ground := Go.Ground.phase }, { on := 6, ground := Go.Ground.phase }, { on := 7, ground := Go.Ground.phase }, { on := 8, ground := Go.Ground.phase }, { on := 9, ground := Go.Ground.phase }], guard := none }) (v := ?_) rfl (by kernel_rfl) (by kernel_rfl) (by kernel_rfl) (fun _ _ _ h => h) (Or.inl ⟨by rfl, ?_⟩) hSw ?_
  rotate_left
  · (intro W hW; obtain ⟨hq1, hq2⟩ := hW; go_simp; try with_reducible rfl)
  try simp only [Act.put, List.setIfInBounds_toArray, List.set_cons_zero, List.set_cons_succ]
  refine wpAnyH_done (by kernel_rfl) ?_ _
  have hcd : Chg No w w1.drew := HC1.out.drew
  have HC2 : Hid (Chg (DS d m (.slice AF nf cf)) w w2) := (hcd.mono (fun _ _ x => x.elim)).trans hc2 (fun _ _ x => x)
  have hnS : ∀ i, (i = j ∨ some i = (Value.slice A n c).ownBlock ∨ some i = (Value.slice AP np cp).ownBlock) → ¬ DS d m (.slice AF nf cf) i := by
    intro i hi hd
    rcases hd with rfl | rfl | hd
    · rcases hi with rfl | hi | hi
      · have h1 := (show w.heap[i]? = _ from HJ.out).symm.trans HD.out.1; cases h1
      · exact HD.out.nd HO.out (by decide) hi
      · exact HD.out.nd HP.out (by decide) hi
    · rcases hi with rfl | hi | hi
      · have h1 := (show w.heap[i]? = _ from HJ.out).symm.trans HD.out.2; unfold mapObj at h1; split at h1 <;> cases h1
      · exact HD.out.nm HO.out hi
      · exact HD.out.nm HP.out hi
    · rcases hi with rfl | hi | hi
      · exact HJ.out.nrow HF.out (by decide) hd
      · exact h10 i hi.symm hd.symm
      · exact rows_apart HP.out HF.out (by decide) i hi.symm hd.symm
  have hj2 : JCells w2 j d k (.slice A n c) (.slice AP np cp) (encF ps).length false := HC2.out.heap HJ.out (hnS j (.inl rfl))
  have ho2 : OwnB w2 base (.slice A n c) ps.flatten := HO.out.chg HC2.out (fun b hb => hnS b (.inr (.inl hb.symm)))
  have hp2 := ownsRow_chg HP.out HC2.out (fun b hb => hnS b (.inr (.inr hb.symm)))
  have hDS : ∀ i, DS d m (.slice AF nf cf) i → S i := by
    rintro i (rfl | rfl | e)
    · exact h15
    · exact h16
    · exact h13 i e.symm
  have hb2 : Bytes w2 (.slice A2 n2 c2) p := HB.out.chg HC2.out (fun b hb hd => hbs b hb (hDS b hd))
  have hff2 : From w (.slice AF nf cf) vf := fun b hb => (hff b hb).imp id (fun e => Nat.le_trans hcd.size e)
  have HD2 := Lib.hid hD2
  have HF2 := Lib.hid hF2
  have HJ2 := Lib.hid hj2
  have HO2 := Lib.hid ho2
  have HP2 := Lib.hid hp2
  have HB2 := Lib.hid hb2
  clear hD2 hF2 hj2 ho2 hp2 hb2 hc2 hff
  have hsz2 := HC2.out.size
  go_wp2_with fail
  refine (add_calls w2 base j d k A A2 AP n c n2 c2 np cp (encF ps).length n1 ps p HJ2.out HO2.out HP2.out HL.out HB2.out HL2.out (by omega) (by omega) (by omega) (by omega)).mono ?_
  rintro e w3 ⟨rfl, va', vp', hj3, ho3, hp3, hc3, hfa, hfp⟩
  obtain ⟨AN, nn, cn, rfl, HLN, HON⟩ := ho3.form
  obtain ⟨AQ, cq, rfl⟩ := ownsRow_form hp3
  obtain ⟨AG, ng, cg, rfl, HLG, HOG⟩ := HF2.out.form
  have hnv : ∀ i, (i = d ∨ i = m ∨ some i = (Value.slice AG ng cg).ownBlock) → ¬ JS j (.slice A n c) (.slice AP np cp) i := by
    intro i hi hd
    rcases hi with rfl | rfl | hi
    · rcases hd with e | hd | hd
      · subst e; have h1 := (show w.heap[i]? = _ from HJ.out).symm.trans HD.out.1; cases h1
      · exact HD.out.nd HO.out (by decide) hd
      · exact HD.out.nd HP.out (by decide) hd
    · rcases hd with e | hd | hd
      · subst e; have h1 := (show w.heap[i]? = _ from HJ.out).symm.trans HD.out.2; unfold mapObj at h1; split at h1 <;> cases h1
      · exact HD.out.nm HO.out hd
      · exact HD.out.nm HP.out hd
    · rcases hd with e | hd | hd
      · subst e; exact HJ2.out.nrow HOG.out (by decide) hi
      · rcases hff2 i hi.symm with e | e
        · exact h10 i hd.symm e
        · have := (h17 _ (h11 i hd.symm)).2; omega
      · exact rows_apart HP2.out HOG.out (by decide) i hd.symm hi.symm
  have HC3 := Lib.hid hc3
  have HJ3 := Lib.hid hj3
  have HP3 := Lib.hid hp3
  clear ho3 hc3 hj3 hp3
  go_wp2
  go_ret
  have hsz3 := HC3.out.size
  have hCh : Chg S w w3 := (HC2.out.mono (fun i _ hi => hDS i hi)).trans HC3.out (by
    rintro i _ (rfl | e | e)
    · exact h14
    · exact h11 i e.symm
    · exact h12 i e.symm)
  have hG : ∀ (v v' : Value) (W : World), w.heap.size ≤ W.heap.size → From W v v' → (∀ b, v.ownBlock = some b → S b) → (∀ b, v'.ownBlock = some b → b < w3.heap.size) → ∀ b, v'.ownBlock = some b → Grow S w w3 b := by
    intro v v' W hW hf hv hlt b hb
    rcases hf b hb with e | e
    · exact .inl (hv b e)
    · exact .inr ⟨Nat.le_trans hW e, hlt b hb⟩
  have hn9 : (encF ps).length + n1 = (encF (ps ++ [p])).length := by rw [encF_snoc, List.length_append, ← HN1.out]
  have hOG3 := HOG.out.chg HC3.out (fun b hb => hnv b (.inr (.inr hb.symm)))
  refine ⟨rfl, ⟨AN, nn, cn, AQ, np + 1, cq, AG, ng, cg, ?_, ?_, HON.out, HP3.out, ?_, HLN.out, ?_, ?_, ?_, ?_, ?_, ?_, ?_, .inl h14, .inl h15, .inl h16, ?_, ?_⟩, hCh⟩
  · rw [← hn9]; exact HJ3.out
  · have h := HD2.out.chg HC3.out (hnv d (.inl rfl)) (hnv m (.inr (.inl rfl)))
    rw [HN1.out] at h
    exact h
  · rw [encF_snoc]; exact hOG3
  · rw [List.length_append, HLP.out]; rfl
  · rw [encF_snoc]; exact HLG.out
  · intro h; cases h
  · intro b hb hx
    rcases hfa b hb with e | e
    · rcases hff2 b hx with e2 | e2
      · exact h10 b e e2
      · have := (h17 _ (h11 b e)).2; omega
    · have := (HOG.out.block b hx).2; omega
  · exact hG _ _ w2 hsz2 hfa h11 (fun b hb => (HON.out.block b hb).2)
  · exact hG _ _ w2 hsz2 hfp h12 (fun b hb => (World.ownsRow.lt HP3.out b hb).2)
  · exact hG _ _ w (Nat.le_refl _) hff2 h13 (fun b hb => (hOG3.block b hb).2)
  · rintro i (hi | hi)
    · have := h17 i hi; omega
    · omega
  · omega
end Go.Proofs.Ytccphnkdnifpfaa

namespace Go.Proofs.Ytccphnkdnifpfaa
set_option linter.unnecessarySimpa false
open Go.RowKit Go.Shelf
set_option linter.unusedVariables false
set_option linter.unusedSimpArgs false
set_option maxRecDepth 100000

theorem partsC_get : ∀ (ps : List (List UInt8)) (o i : Nat) (hi : i < ps.length), (partsC o ps)[i * 2]? = some (.int .i64 ((o + (ps.take i).flatten.length : Nat) : Int)) ∧ (partsC o ps)[i * 2 + 1]? = some (.int .i64 ((o + (ps.take i).flatten.length + ps[i].length : Nat) : Int))
  | p :: ps, o, 0, hi => by simp [partsC]
  | p :: ps, o, i + 1, hi => by
    have := partsC_get ps (o + p.length) i (by simpa using hi)
    have e1 : (i + 1) * 2 = i * 2 + 1 + 1 := by omega
    rw [e1]
    simp only [partsC, List.getElem?_cons_succ, List.take_succ_cons, List.flatten_cons, List.length_append, List.getElem_cons_succ]
    rw [← Nat.add_assoc]
    exact this
theorem flat_get (ps : List (List UInt8)) (i : Nat) (hi : i < ps.length) : (ps.flatten.drop (ps.take i).flatten.length).take ps[i].length = ps[i] ∧ (ps.take i).flatten.length + ps[i].length ≤ ps.flatten.length := by
  have h : ps.flatten = (ps.take i).flatten ++ (ps[i] ++ (ps.drop (i + 1)).flatten) := by
    have e : ps = ps.take i ++ ps[i] :: ps.drop (i + 1) := by rw [← List.drop_eq_getElem_cons hi, List.take_append_drop]
    conv => lhs; rw [e]
    rw [List.flatten_append, List.flatten_cons]
  generalize (ps.take i).flatten = a at *
  rw [h]
  simp

theorem two_cells {w : World} {g : Nat} {a b : Value} {t : TypeId} (h : w.heap[g]? = some (.cells #[a, b] t (0, 0))) : w.cell? ⟨g, 0, none⟩ = some a ∧ w.cell? ⟨g, 1, none⟩ = some b := by
  constructor <;> simp [World.cell?, h]
theorem Bytes.mid {w : World} {A : Option Addr} {n c x y : Nat} {xs : List UInt8} (h : Bytes w (.slice A n c) xs) (hl : xs.length = n) (hxy : x ≤ y) (hy : y ≤ n) (hc : n ≤ c) : Bytes w (.slice (if c = x then A else A.map (·.add x)) (y - x) (c - x)) ((xs.drop x).take (y - x)) := by
  have h1 := Bytes.takeN (k := y) (m := c) h hl hy (by omega) (Nat.le_refl _)
  have e : (xs.take y).length = y := by rw [List.length_take]; omega
  have h2 := Bytes.drop (k := x) (xs := xs.take y) (A := A) (c := c) (by rw [e]; exact h1) (by omega)
  rw [e, List.drop_take] at h2
  exact h2

set_option maxHeartbeats 1600000 in
theorem payload_calls (w : World) (S : Nat → Prop) (base j d m wr : Nat) (k : ByteArray) (th : Bool) (ps : List (List UInt8)) (i : Nat) (hi : i < ps.length) (h : JD w S base j d m wr k th ps) (hn : (encF ps).length ≤ 4194304) :
    Calls Try.prog 65 #[.pointer (some ⟨j, 0, none⟩), .int .i64 (i : Int)] w fun e w' => ∃ v, e = .returned v ∧ OwnB w' w.heap.size v ps[i] ∧ Chg No w w' := by
  obtain ⟨A, n, c, AP, np, cp, AF, nf, cf, h1, h2, h3, h4, h5, h6, h7, h8, h9, h10, h11, h12, h13, h14, h15, h16, h17, h18⟩ := h
  obtain ⟨p1, p2⟩ := partsC_get ps 0 i hi
  obtain ⟨q1, q2⟩ := flat_get ps i hi
  have hps := encF_len ps
  obtain ⟨g, capp, hv⟩ : ∃ g cp', AP = some ⟨g, 0, none⟩ ∧ cp' = cp ∧ np ≤ cp := by
    rcases h4.2 with ⟨he, h0⟩ | ⟨g, cap, cur, he, _, _, hle, _⟩
    · omega
    · simp only [Value.slice.injEq, true_and] at he
      exact ⟨g, cp, he.1, rfl, he.2 ▸ hle⟩
  obtain ⟨rfl, rfl, hle⟩ := hv
  have hcells := @World.ownsRow.cells w base 147 2 (.slice (some ⟨g, 0, none⟩) np capp) np (partsC 0 ps) h4 g rfl
  have x1 := hcells _ _ p1
  have x2 := hcells _ _ p2
  rw [Addr.add_lit] at x1 x2
  obtain ⟨x, hx⟩ : ∃ x, (ps.take i).flatten.length = x := ⟨_, rfl⟩
  obtain ⟨y, hy⟩ : ∃ y, x + ps[i].length = y := ⟨_, rfl⟩
  simp only [Nat.zero_add, hx] at x1 x2
  rw [hx] at q1 q2
  rw [hy] at x2 q2
  have e3 := h1.c3
  have e2 := h1.c2
  have HQ := Lib.hid q1
  have HO := Lib.hid h3
  have HL := Lib.hid h6
  have hxy : x ≤ y := by omega
  have hyn : y ≤ n := by have := HL.out; omega
  have HY : Hid (ps[i].length = y - x) := by have : ps[i].length = y - x := by omega
                                             exact this
  have hnn : n ≤ 4194304 := by have := HL.out; omega
  have hi2 : i < np := by omega
  have hnp : np ≤ 4194304 := by omega
  obtain ⟨_, c', hvv, hnc, hcm⟩ := h3.bytes.form
  simp only [Value.slice.injEq] at hvv
  obtain ⟨-, -, rfl⟩ := hvv
  have hnc2 : n ≤ c := by have := HL.out; omega
  clear h1 h2 h3 h4 h5 h6 h7 h8 h9 h10 h11 h12 h13 h14 h15 h16 h17 h18 hcells p1 p2 q1 q2 hps hx hy hn hnc
  go_enter Try.func65, Try.ntmps65
  go_wp2
  have hc1 : Chg No w (w.alloc (.cells #[.int .i64 (x : Int), .int .i64 (y : Int)] 147)) := (Chg.refl No w).alloc _
  have hh := heap_alloc_new w (.cells #[.int .i64 (x : Int), .int .i64 (y : Int)] 147)
  obtain ⟨f0, f1⟩ := two_cells hh
  have hyc : y ≤ c := by omega
  have e2 := hc1.cell e2 (fun x => x)
  have HC1 := Lib.hid hc1
  clear hc1 hh x1 x2 e3
  generalize (w.alloc (.cells #[.int .i64 (x : Int), .int .i64 (y : Int)] 147)) = w1 at *
  have HSL := Lib.hid (Bytes.mid (HO.out.bytes.no HC1.out) HL.out hxy hyn hnc2)
  generalize w.heap.size = b at *
  refine wp_region_held_drew (S := (fun W => W.cell? ⟨j, 2, none⟩ = some (.slice A n c) ∧ W.cell? ⟨b, 0, none⟩ = some (.int .i64 (x : Int)) ∧ W.cell? ⟨b, 1, none⟩ = some (.int .i64 (y : Int)))) (by kernel_rfl) ⟨e2, f0, f1⟩ (fun hSw => ?_)
  refine wpAnyH_take (i := 0) (oi := { dst := some 13, op := Go.Op.move (Go.Operand.tmp 0), type := 80, pos := "journal.go:109", after := #[], guard := none }) (v := ?_) rfl (by kernel_rfl) (by kernel_rfl) (by kernel_rfl) (fun _ _ _ h => h) (Or.inl ⟨by rfl, ?_⟩) hSw ?_
  rotate_left
  · (intro W hW; obtain ⟨hq1, hq2, hq3⟩ := hW; go_simp; try with_reducible rfl)
  try simp only [Act.put, List.setIfInBounds_toArray, List.set_cons_zero, List.set_cons_succ]
  refine wpAnyH_take (i := 1) (oi := { dst := some 14, op := Go.Op.nilCheck (Go.Operand.tmp 13), type := 0, pos := "journal.go:109", after := #[{ on := 0, ground := Go.Ground.data }], guard := none }) (v := ?_) rfl (by kernel_rfl) (by kernel_rfl) (by kernel_rfl) (fun _ _ _ h => h) (Or.inl ⟨by rfl, ?_⟩) hSw ?_
  rotate_left
  · (intro W hW; obtain ⟨hq1, hq2, hq3⟩ := hW; go_simp; try with_reducible rfl)
  try simp only [Act.put, List.setIfInBounds_toArray, List.set_cons_zero, List.set_cons_succ]
  refine wpAnyH_take (i := 2) (oi := { dst := some 15, op := Go.Op.fieldAddr 112 (Go.Operand.tmp 14) 2, type := 0, pos := "journal.go:109", after := #[{ on := 1, ground := Go.Ground.data }], guard := none }) (v := ?_) rfl (by kernel_rfl) (by kernel_rfl) (by kernel_rfl) (fun _ _ _ h => h) (Or.inl ⟨by rfl, ?_⟩) hSw ?_
  rotate_left
  · (intro W hW; obtain ⟨hq1, hq2, hq3⟩ := hW; go_simp; try with_reducible rfl)
  try simp only [Act.put, List.setIfInBounds_toArray, List.set_cons_zero, List.set_cons_succ]
  refine wpAnyH_take (i := 3) (oi := { dst := some 16, op := Go.Op.load 30 (Go.Operand.tmp 15), type := 30, pos := "journal.go:109", after := #[{ on := 2, ground := Go.Ground.data }], guard := none }) (v := ?_) rfl (by kernel_rfl) (by kernel_rfl) (by kernel_rfl) (fun _ _ _ h => h) (Or.inl ⟨by rfl, ?_⟩) hSw ?_
  rotate_left
  · (intro W hW; obtain ⟨hq1, hq2, hq3⟩ := hW; go_simp; try with_reducible rfl)
  try simp only [Act.put, List.setIfInBounds_toArray, List.set_cons_zero, List.set_cons_succ]
  refine wpAnyH_take (i := 4) (oi := { dst := some 17, op := Go.Op.fieldAddr 147 (Go.Operand.tmp 5) 0, type := 0, pos := "journal.go:109", after := #[], guard := none }) (v := ?_) rfl (by kernel_rfl) (by kernel_rfl) (by kernel_rfl) (fun _ _ _ h => h) (Or.inl ⟨by rfl, ?_⟩) hSw ?_
  rotate_left
  · (intro W hW; obtain ⟨hq1, hq2, hq3⟩ := hW; go_simp; try with_reducible rfl)
  try simp only [Act.put, List.setIfInBounds_toArray, List.set_cons_zero, List.set_cons_succ]
  refine wpAnyH_take (i := 5) (oi := { dst := some 18, op := Go.Op.load 3 (Go.Operand.tmp 17), type := 3, pos := "journal.go:109", after := #[{ on := 4, ground := Go.Ground.data }], guard := none }) (v := ?_) rfl (by kernel_rfl) (by kernel_rfl) (by kernel_rfl) (fun _ _ _ h => h) (Or.inl ⟨by rfl, ?_⟩) hSw ?_
  rotate_left
  · (intro W hW; obtain ⟨hq1, hq2, hq3⟩ := hW; go_simp; try with_reducible rfl)
  try simp only [Act.put, List.setIfInBounds_toArray, List.set_cons_zero, List.set_cons_succ]
  refine wpAnyH_take (i := 6) (oi := { dst := some 19, op := Go.Op.fieldAddr 147 (Go.Operand.tmp 5) 1, type := 0, pos := "journal.go:109", after := #[], guard := none }) (v := ?_) rfl (by kernel_rfl) (by kernel_rfl) (by kernel_rfl) (fun _ _ _ h => h) (Or.inl ⟨by rfl, ?_⟩) hSw ?_
  rotate_left
  · (intro W hW; obtain ⟨hq1, hq2, hq3⟩ := hW; go_simp; try with_reducible rfl)
  try simp only [Act.put, List.setIfInBounds_toArray, List.set_cons_zero, List.set_cons_succ]
  refine wpAnyH_take (i := 7) (oi := { dst := some 20, op := Go.Op.load 3 (Go.Operand.tmp 19), type := 3, pos := "journal.go:109", after := #[{ on := 6, ground := Go.Ground.data }], guard := none }) (v := ?_) rfl (by kernel_rfl) (by kernel_rfl) (by kernel_rfl) (fun _ _ _ h => h) (Or.inl ⟨by rfl, ?_⟩) hSw ?_
  rotate_left
  · (intro W hW; obtain ⟨hq1, hq2, hq3⟩ := hW; go_simp; try with_reducible rfl)
  try simp only [Act.put, List.setIfInBounds_toArray, List.set_cons_zero, List.set_cons_succ]
  refine wpAnyH_take (i := 8) (oi := { dst := some 21, op := Go.Op.slice 30 (Go.Operand.tmp 16) (some (Go.Operand.tmp 18)) (some (Go.Operand.tmp 20)) none, type := 30, pos := "journal.go:109", after := #[{ on := 3, ground := Go.Ground.data }, { on := 5, ground := Go.Ground.data }, { on := 7, ground := Go.Ground.data }], guard := none }) (v := ?_) rfl (by kernel_rfl) (by kernel_rfl) (by kernel_rfl) (fun _ _ _ h => h) (Or.inl ⟨by rfl, ?_⟩) hSw ?_
  rotate_left
  · (intro W hW; obtain ⟨hq1, hq2, hq3⟩ := hW; go_simp; try with_reducible rfl)
  try simp only [Act.put, List.setIfInBounds_toArray, List.set_cons_zero, List.set_cons_succ]
  refine wpAnyH_ready (rs := [9]) (by kernel_rfl) (by simp) ?_
  refine AllReadyH.cons (o := { dst := some 22, op := Go.Op.call { callee := Go.Callee.value (Go.Operand.func 80), args := #[Go.Operand.tmp 21], argTypes := #[30] }, type := 30, pos := "journal.go:109", after := #[{ on := 8, ground := Go.Ground.data }], guard := none }) rfl (fun K hK => ?_) AllReadyH.nil
  rw [if_pos (by rfl)]
  go_simp
  refine (clone_any _ _ (y - x) _ ((ps.flatten.drop x).take (y - x)) (HSL.out.no (Chg.refl No _).drew) (by omega)).mono ?_
  rintro e w3 ⟨v3, rfl, ho3, hc3⟩
  have e02 := hc3.cell e2 (fun x => x)
  have e12 := hc3.cell f0 (fun x => x)
  have e22 := hc3.cell f1 (fun x => x)
  refine hK.out _ _ ⟨e02, e12, e22⟩ (fun hSw => ?_)
  clear hK
  try simp only [Act.put, List.setIfInBounds_toArray, List.set_cons_zero, List.set_cons_succ]
  refine wpAnyH_take (i := 10) (oi := { dst := some 4, op := Go.Op.assign (Go.Operand.tmp 22), type := 30, pos := "journal.go:109", after := #[{ on := 9, ground := Go.Ground.data }, { on := 9, ground := Go.Ground.chain }, { on := 0, ground := Go.Ground.phase }, { on := 1, ground := Go.Ground.phase }, { on := 2, ground := Go.Ground.phase }, { on := 3, ground := Go.Ground.phase }, { on := 4, ground := Go.Ground.phase }, { on := 5, ground := Go.Ground.phase }, { on := 6, ground := Go.Ground.phase }, { on := 7, ground := Go.Ground.phase }, { on := 8, ground := Go.Ground.phase }, { on := 9, ground := Go.Ground.phase }], guard := none }) (v := ?_) rfl (by kernel_rfl) (by kernel_rfl) (by kernel_rfl) (fun _ _ _ h => h) (Or.inl ⟨by rfl, ?_⟩) hSw ?_
  rotate_left
  · (intro W hW; obtain ⟨hq1, hq2, hq3⟩ := hW; go_simp; try with_reducible rfl)
  try simp only [Act.put, List.setIfInBounds_toArray, List.set_cons_zero, List.set_cons_succ]
  refine wpAnyH_done (by kernel_rfl) ?_ _
  generalize (if c = x then A else Option.map (fun a => a.add x) A) = AA
  go_wp2
  go_ret
  rw [HY.out] at HQ
  exact ⟨_, rfl, by have h := ho3; rw [HQ.out] at h; exact h.mono (HC1.out.drew).size, HC1.out.drew.no hc3⟩

theorem JD.parts {w : World} {S : Nat → Prop} {base j d m wr : Nat} {k : ByteArray} {th : Bool} {ps : List (List UInt8)} (h : JD w S base j d m wr k th ps) : ∃ AP np cp, w.cell? ⟨j, 3, none⟩ = some (.slice AP np cp) ∧ Hid (ps.length = np) := by
  obtain ⟨A, n, c, AP, np, cp, AF, nf, cf, h1, h2, h3, h4, h5, h6, h7, h8, h9, h10, h11, h12, h13, h14, h15, h16, h17, h18⟩ := h
  exact ⟨AP, np, cp, h1.c3, h7⟩
set_option maxHeartbeats 800000 in
theorem record_in (w : World) (S : Nat → Prop) (base j d m wr : Nat) (k : ByteArray) (th : Bool) (ps : List (List UInt8)) (i : Nat) (hi : i < ps.length) (h : JD w S base j d m wr k th ps) (hn : (encF ps).length ≤ 4194304) :
    Calls Try.prog 39 #[.pointer (some ⟨j, 0, none⟩), .int .i64 (i : Int)] w fun e w' => ∃ v, e = .returned (.tuple #[v, .int .i64 0]) ∧ OwnB w' w.heap.size v ps[i] ∧ Chg No w w' := by
  obtain ⟨AP, np, cp, e3, HNP⟩ := h.parts
  have hi2 : (i : Int) < (np : Int) := by have := HNP.out; omega
  have hi3 : ¬ ((i : Int) ≥ (np : Int)) := by omega
  have hi4 : ¬ ((np : Int) ≤ (i : Int)) := by omega
  have hi5 : ¬ ((i : Int) < 0) := by omega
  have H := Lib.hid h
  clear h
  go_enter Try.func39, Try.ntmps39
  go_wp2_with fail
  refine (payload_calls w S base j d m wr k th ps i hi H.out hn).mono ?_
  rintro e w1 ⟨v, rfl, ho, hc⟩
  have HO := Lib.hid ho
  have HC := Lib.hid hc
  clear ho hc
  go_wp2
  go_ret2
  exact ⟨_, rfl, HO.out, HC.out⟩
theorem record_low (w : World) (S : Nat → Prop) (base j d m wr : Nat) (k : ByteArray) (th : Bool) (ps : List (List UInt8)) (h : JD w S base j d m wr k th ps) :
    Calls Try.prog 39 #[.pointer (some ⟨j, 0, none⟩), .int .i64 (-1)] w fun e w' => e = .returned (.tuple #[.slice none 0 0, .int .i64 4]) ∧ w' = w := by
  obtain ⟨AP, np, cp, e3, HNP⟩ := h.parts
  have H := Lib.hid h
  clear h
  go_enter Try.func39, Try.ntmps39
  go_wp2
  go_ret2
  exact ⟨rfl, rfl⟩
theorem record_high (w : World) (S : Nat → Prop) (base j d m wr : Nat) (k : ByteArray) (th : Bool) (ps : List (List UInt8)) (h : JD w S base j d m wr k th ps) (i : Nat) (hi : ps.length = i) :
    Calls Try.prog 39 #[.pointer (some ⟨j, 0, none⟩), .int .i64 (i : Int)] w fun e w' => e = .returned (.tuple #[.slice none 0 0, .int .i64 4]) ∧ w' = w := by
  obtain ⟨AP, np, cp, e3, HNP⟩ := h.parts
  have hi2 : ¬ ((i : Int) < (np : Int)) := by have := HNP.out; omega
  have hi3 : ((i : Int) ≥ (np : Int)) := by omega
  have hi4 : ((np : Int) ≤ (i : Int)) := by omega
  have hi5 : ¬ ((i : Int) < 0) := by omega
  have H := Lib.hid h
  have HI := Lib.hid hi
  clear h hi
  go_enter Try.func39, Try.ntmps39
  go_wp2
  go_ret2
  exact ⟨rfl, rfl⟩
theorem record_none (w : World) (x : Int) :
    Calls Try.prog 39 #[.pointer none, .int .i64 x] w fun e w' => e = .returned (.tuple #[.slice none 0 0, .int .i64 1]) ∧ w' = w := by
  go_enter Try.func39, Try.ntmps39
  go_wp2
  go_ret2
  exact ⟨rfl, rfl⟩
theorem each_calls (w : World) (v : Option Addr) : Calls Try.prog 33 #[.pointer v] w fun e w' => e = .returned (.func (.func 64) #[] #[.pointer (some ⟨w.heap.size, 0, none⟩)]) ∧ w' = w.alloc (.cells #[.pointer v] 80) := by
  go_enter Try.func33, Try.ntmps33
  go_wp2
  go_ret
  exact ⟨rfl, rfl⟩
theorem jlen_calls (w : World) (S : Nat → Prop) (base j d m wr : Nat) (k : ByteArray) (th : Bool) (ps : List (List UInt8)) (h : JD w S base j d m wr k th ps) :
    Calls Try.prog 38 #[.pointer (some ⟨j, 0, none⟩)] w fun e w' => e = .returned (.int .i64 (ps.length : Int)) ∧ w' = w := by
  obtain ⟨A, n, c, AP, np, cp, AF, nf, cf, h1, h2, h3, h4, h5, h6, h7, h8, h9, h10, h11, h12, h13, h14, h15, h16, h17, h18⟩ := h
  rw [h7]
  exact len_calls w j d k _ AP np cp _ _ h1
end Go.Proofs.Ytccphnkdnifpfaa

namespace Go.Proofs.Ytccphnkdnifpfaa
set_option linter.unnecessarySimpa false
set_option linter.unusedVariables false
set_option linter.unusedSimpArgs false

theorem get_bang (s : ByteArray) (i : Nat) : s.get! i = s.data.toList.getD i 0 := by
  obtain ⟨⟨l⟩⟩ := s
  simp [ByteArray.get!, List.getD]
  rfl

/-- Is byte k of l one that goes on with a rune? -/
def goOn (l : List UInt8) (k : Nat) : Bool := k < l.length && (l.getD k 0).toNat / 64 == 2
def decL (l : List UInt8) : Nat × Nat :=
  if (l.getD 0 0).toNat < 0x80 then ((l.getD 0 0).toNat, 1)
  else if (l.getD 0 0).toNat / 32 == 6 && goOn l 1 then
    if ((l.getD 0 0).toNat % 32) * 64 + (l.getD 1 0).toNat % 64 ≥ 0x80 then (((l.getD 0 0).toNat % 32) * 64 + (l.getD 1 0).toNat % 64, 2) else (0xFFFD, 1)
  else if (l.getD 0 0).toNat / 16 == 14 && goOn l 1 && goOn l 2 then
    if ((l.getD 0 0).toNat % 16) * 4096 + ((l.getD 1 0).toNat % 64) * 64 + (l.getD 2 0).toNat % 64 ≥ 0x800 && Utf8.valid (((l.getD 0 0).toNat % 16) * 4096 + ((l.getD 1 0).toNat % 64) * 64 + (l.getD 2 0).toNat % 64 : Nat) then (((l.getD 0 0).toNat % 16) * 4096 + ((l.getD 1 0).toNat % 64) * 64 + (l.getD 2 0).toNat % 64, 3) else (0xFFFD, 1)
  else if (l.getD 0 0).toNat / 8 == 30 && goOn l 1 && goOn l 2 && goOn l 3 then
    if ((l.getD 0 0).toNat % 8) * 262144 + ((l.getD 1 0).toNat % 64) * 4096 + ((l.getD 2 0).toNat % 64) * 64 + (l.getD 3 0).toNat % 64 ≥ 0x10000 && Utf8.valid (((l.getD 0 0).toNat % 8) * 262144 + ((l.getD 1 0).toNat % 64) * 4096 + ((l.getD 2 0).toNat % 64) * 64 + (l.getD 3 0).toNat % 64 : Nat) then (((l.getD 0 0).toNat % 8) * 262144 + ((l.getD 1 0).toNat % 64) * 4096 + ((l.getD 2 0).toNat % 64) * 64 + (l.getD 3 0).toNat % 64, 4) else (0xFFFD, 1)
  else (0xFFFD, 1)

theorem decode_drop (s : ByteArray) (i : Nat) : Utf8.decode s i = decL (s.data.toList.drop i) := by
  have hg : ∀ k, s.get! (i + k) = (s.data.toList.drop i).getD k 0 := by
    intro k
    rw [get_bang]
    simp [List.getD]
  have hc : ∀ k, decide (i + k < s.size) = decide (k < (s.data.toList.drop i).length) := by
    intro k
    have := size_list s
    simp only [List.length_drop, decide_eq_decide]
    omega
  unfold Utf8.decode decL goOn
  simp only [hg, hc, Utf8.runeError]

theorem goOn_lt {l : List UInt8} {k : Nat} (h : goOn l k = true) : k < l.length ∧ (l.getD k 0).toNat / 64 = 2 := by
  unfold goOn at h
  simpa using h

/-- The ways of a decoding. -/
theorem decL_ways (l : List UInt8) :
    ((l.getD 0 0).toNat < 128 ∧ decL l = ((l.getD 0 0).toNat, 1)) ∨
    ((l.getD 0 0).toNat / 32 = 6 ∧ 1 < l.length ∧ (l.getD 1 0).toNat / 64 = 2 ∧ 128 ≤ ((l.getD 0 0).toNat % 32) * 64 + (l.getD 1 0).toNat % 64 ∧ decL l = (((l.getD 0 0).toNat % 32) * 64 + (l.getD 1 0).toNat % 64, 2)) ∨
    ((l.getD 0 0).toNat / 16 = 14 ∧ 2 < l.length ∧ (l.getD 1 0).toNat / 64 = 2 ∧ (l.getD 2 0).toNat / 64 = 2 ∧
      2048 ≤ ((l.getD 0 0).toNat % 16) * 4096 + ((l.getD 1 0).toNat % 64) * 64 + (l.getD 2 0).toNat % 64 ∧ Utf8.valid (((l.getD 0 0).toNat % 16) * 4096 + ((l.getD 1 0).toNat % 64) * 64 + (l.getD 2 0).toNat % 64 : Nat) = true ∧
      decL l = (((l.getD 0 0).toNat % 16) * 4096 + ((l.getD 1 0).toNat % 64) * 64 + (l.getD 2 0).toNat % 64, 3)) ∨
    ((l.getD 0 0).toNat / 8 = 30 ∧ 3 < l.length ∧ (l.getD 1 0).toNat / 64 = 2 ∧ (l.getD 2 0).toNat / 64 = 2 ∧ (l.getD 3 0).toNat / 64 = 2 ∧
      65536 ≤ ((l.getD 0 0).toNat % 8) * 262144 + ((l.getD 1 0).toNat % 64) * 4096 + ((l.getD 2 0).toNat % 64) * 64 + (l.getD 3 0).toNat % 64 ∧ Utf8.valid (((l.getD 0 0).toNat % 8) * 262144 + ((l.getD 1 0).toNat % 64) * 4096 + ((l.getD 2 0).toNat % 64) * 64 + (l.getD 3 0).toNat % 64 : Nat) = true ∧
      decL l = (((l.getD 0 0).toNat % 8) * 262144 + ((l.getD 1 0).toNat % 64) * 4096 + ((l.getD 2 0).toNat % 64) * 64 + (l.getD 3 0).toNat % 64, 4)) ∨
    (128 ≤ (l.getD 0 0).toNat ∧ decL l = (65533, 1)) := by
  unfold decL
  by_cases c0 : (l.getD 0 0).toNat < 0x80
  · rw [if_pos c0]; exact .inl ⟨c0, rfl⟩
  · by_cases c1 : ((l.getD 0 0).toNat / 32 == 6 && goOn l 1) = true
    · rw [if_neg c0, if_pos c1]
      obtain ⟨e1, e2⟩ := (Bool.and_eq_true_iff).1 c1
      obtain ⟨e3, e4⟩ := goOn_lt e2
      by_cases c2 : ((l.getD 0 0).toNat % 32) * 64 + (l.getD 1 0).toNat % 64 ≥ 0x80
      · exact .inr (.inl ⟨by simpa using e1, e3, e4, c2, if_pos c2⟩)
      · exact .inr (.inr (.inr (.inr ⟨by omega, if_neg c2⟩)))
    · by_cases c2 : ((l.getD 0 0).toNat / 16 == 14 && goOn l 1 && goOn l 2) = true
      · rw [if_neg c0, if_neg c1, if_pos c2]
        obtain ⟨e1, e2⟩ := (Bool.and_eq_true_iff).1 c2
        obtain ⟨e1, e0⟩ := (Bool.and_eq_true_iff).1 e1
        obtain ⟨e3, e4⟩ := goOn_lt e2
        obtain ⟨e5, e6⟩ := goOn_lt e0
        by_cases c3 : (decide (((l.getD 0 0).toNat % 16) * 4096 + ((l.getD 1 0).toNat % 64) * 64 + (l.getD 2 0).toNat % 64 ≥ 0x800) && Utf8.valid (((l.getD 0 0).toNat % 16) * 4096 + ((l.getD 1 0).toNat % 64) * 64 + (l.getD 2 0).toNat % 64 : Nat)) = true
        · obtain ⟨v1, v2⟩ := (Bool.and_eq_true_iff).1 c3
          exact .inr (.inr (.inl ⟨by simpa using e1, e3, e6, e4, of_decide_eq_true v1, v2, if_pos c3⟩))
        · exact .inr (.inr (.inr (.inr ⟨by omega, if_neg c3⟩)))
      · by_cases c3 : ((l.getD 0 0).toNat / 8 == 30 && goOn l 1 && goOn l 2 && goOn l 3) = true
        · rw [if_neg c0, if_neg c1, if_neg c2, if_pos c3]
          obtain ⟨e1, e2⟩ := (Bool.and_eq_true_iff).1 c3
          obtain ⟨e1, e0⟩ := (Bool.and_eq_true_iff).1 e1
          obtain ⟨e1, e9⟩ := (Bool.and_eq_true_iff).1 e1
          obtain ⟨e3, e4⟩ := goOn_lt e2
          obtain ⟨e5, e6⟩ := goOn_lt e0
          obtain ⟨e7, e8⟩ := goOn_lt e9
          by_cases c4 : (decide (((l.getD 0 0).toNat % 8) * 262144 + ((l.getD 1 0).toNat % 64) * 4096 + ((l.getD 2 0).toNat % 64) * 64 + (l.getD 3 0).toNat % 64 ≥ 0x10000) && Utf8.valid (((l.getD 0 0).toNat % 8) * 262144 + ((l.getD 1 0).toNat % 64) * 4096 + ((l.getD 2 0).toNat % 64) * 64 + (l.getD 3 0).toNat % 64 : Nat)) = true
          · obtain ⟨v1, v2⟩ := (Bool.and_eq_true_iff).1 c4
            exact .inr (.inr (.inr (.inl ⟨by simpa using e1, e3, e8, e6, e4, of_decide_eq_true v1, v2, if_pos c4⟩)))
          · exact .inr (.inr (.inr (.inr ⟨by omega, if_neg c4⟩)))
        · rw [if_neg c0, if_neg c1, if_neg c2, if_neg c3]
          exact .inr (.inr (.inr (.inr ⟨by omega, rfl⟩)))

theorem decL_facts (l : List UInt8) (h : l ≠ []) : 1 ≤ (decL l).2 ∧ (decL l).2 ≤ l.length ∧ (decL l).1 < 2097152 := by
  have hl : 1 ≤ l.length := by
    cases l with
    | nil => exact absurd rfl h
    | cons a t => simp
  rcases decL_ways l with ⟨h1, e⟩ | ⟨h1, h2, h3, h4, e⟩ | ⟨h1, h2, h3, h4, h5, h6, e⟩ | ⟨h1, h2, h3, h4, h5, h6, h7, e⟩ | ⟨h1, e⟩ <;> rw [e] <;> simp only <;> omega

/-- Is the piece at the beginning a broken byte? -/
def brk (l : List UInt8) : Bool := (decL l).1 == 0xFFFD && !([239, 191, 189] : List UInt8).isPrefixOf l

theorem take_get (l : List UInt8) (n : Nat) (h : n ≤ l.length) : l.take n = (List.range n).map fun k => l.getD k 0 := by
  apply List.ext_getElem
  · simp; omega
  · intro i h1 h2
    simp at h1 h2 ⊢
    simp [List.getD, show i < l.length by omega]

theorem mkS_two (a b : UInt8) : (⟨#[a, b]⟩ : ByteArray) = mkS [a, b] := rfl
theorem mkS_three (a b c : UInt8) : (⟨#[a, b, c]⟩ : ByteArray) = mkS [a, b, c] := rfl
theorem mkS_four (a b c d : UInt8) : (⟨#[a, b, c, d]⟩ : ByteArray) = mkS [a, b, c, d] := rfl
theorem u8_of (n : Nat) (b : UInt8) (h : n = b.toNat) : UInt8.ofNat n = b := by subst h; simp

theorem goOn_of (l : List UInt8) (k : Nat) (h : k < l.length) (h2 : (l.getD k 0).toNat / 64 = 2) : goOn l k = true := by
  unfold goOn
  rw [Bool.and_eq_true_iff]
  exact ⟨decide_eq_true h, by rw [h2]; rfl⟩

theorem decL_fffd (t : List UInt8) : decL (239 :: 191 :: 189 :: t) = (65533, 3) := by
  have g1 : goOn (239 :: 191 :: 189 :: t) 1 = true := goOn_of _ _ (by simp) (by simp)
  have g2 : goOn (239 :: 191 :: 189 :: t) 2 = true := goOn_of _ _ (by simp) (by simp)
  have e0 : ((239 :: 191 :: 189 :: t : List UInt8).getD 0 0).toNat = 239 := by simp
  have e1 : ((239 :: 191 :: 189 :: t : List UInt8).getD 1 0).toNat = 191 := by simp
  have e2 : ((239 :: 191 :: 189 :: t : List UInt8).getD 2 0).toNat = 189 := by simp
  unfold decL
  rw [g1, g2, e0, e1, e2, if_neg (by decide), if_neg (by decide), if_pos (by decide), if_pos (by decide)]
theorem pre_fffd {l : List UInt8} (h : ([239, 191, 189] : List UInt8).isPrefixOf l = true) : decL l = (65533, 3) := by
  obtain ⟨t, rfl⟩ := List.isPrefixOf_iff_prefix.1 h
  exact decL_fffd t

theorem encode_valid (n : Nat) (h : Utf8.valid (n : Int) = true) : Utf8.encode (n : Int) =
    if n < 0x80 then ⟨#[UInt8.ofNat n]⟩
    else if n < 0x800 then ⟨#[UInt8.ofNat (0xC0 + n / 64), UInt8.ofNat (0x80 + n % 64)]⟩
    else if n < 0x10000 then ⟨#[UInt8.ofNat (0xE0 + n / 4096), UInt8.ofNat (0x80 + n / 64 % 64), UInt8.ofNat (0x80 + n % 64)]⟩
    else ⟨#[UInt8.ofNat (0xF0 + n / 262144), UInt8.ofNat (0x80 + n / 4096 % 64), UInt8.ofNat (0x80 + n / 64 % 64), UInt8.ofNat (0x80 + n % 64)]⟩ := by
  unfold Utf8.encode
  rw [if_pos h]
  rfl

theorem valid_low (n : Nat) (h : n < 55296) : Utf8.valid (n : Int) = true := by
  unfold Utf8.valid
  rw [Bool.or_eq_true_iff]
  exact .inl ((Bool.and_eq_true_iff).2 ⟨decide_eq_true (by omega), decide_eq_true (by omega)⟩)

/-- A piece that is not broken is its rune's encoding. -/
theorem enc_piece (l : List UInt8) (h : l ≠ []) (hb : brk l = false) : Utf8.encode ((decL l).1 : Int) = mkS (l.take (decL l).2) := by
  have hf := decL_facts l h
  rw [take_get l _ hf.2.1]
  have hb0 : (l.getD 0 0).toNat < 256 := (l.getD 0 0).toNat_lt
  have hb1 : (l.getD 1 0).toNat < 256 := (l.getD 1 0).toNat_lt
  have hb2 : (l.getD 2 0).toNat < 256 := (l.getD 2 0).toNat_lt
  have hb3 : (l.getD 3 0).toNat < 256 := (l.getD 3 0).toNat_lt
  rcases decL_ways l with ⟨h1, e⟩ | ⟨h1, h2, h3, h4, e⟩ | ⟨h1, h2, h3, h4, h5, h6, e⟩ | ⟨h1, h2, h3, h4, h5, h6, h7, e⟩ | ⟨h1, e⟩
  · rw [e]
    simp only
    rw [encode_valid _ (valid_low _ (by omega)), if_pos (by omega)]
    show mkS [UInt8.ofNat (l.getD 0 0).toNat] = mkS [l.getD 0 0]
    rw [u8_of _ (l.getD 0 0) rfl]
  · rw [e]
    simp only
    rw [encode_valid _ (valid_low _ (by omega)), if_neg (by omega), if_pos (by omega), mkS_two]
    show _ = mkS [l.getD 0 0, l.getD 1 0]
    rw [u8_of _ (l.getD 0 0) (by omega), u8_of _ (l.getD 1 0) (by omega)]
  · rw [e]
    simp only
    rw [encode_valid _ h6, if_neg (by omega), if_neg (by omega), if_pos (by omega), mkS_three]
    show _ = mkS [l.getD 0 0, l.getD 1 0, l.getD 2 0]
    rw [u8_of _ (l.getD 0 0) (by omega), u8_of _ (l.getD 1 0) (by omega), u8_of _ (l.getD 2 0) (by omega)]
  · rw [e]
    simp only
    rw [encode_valid _ h7, if_neg (by omega), if_neg (by omega), if_neg (by omega), mkS_four]
    show _ = mkS [l.getD 0 0, l.getD 1 0, l.getD 2 0, l.getD 3 0]
    rw [u8_of _ (l.getD 0 0) (by omega), u8_of _ (l.getD 1 0) (by omega), u8_of _ (l.getD 2 0) (by omega), u8_of _ (l.getD 3 0) (by omega)]
  · exfalso
    have hp : ([239, 191, 189] : List UInt8).isPrefixOf l = true := by
      unfold brk at hb
      rw [e] at hb
      simpa using hb
    rw [pre_fffd hp] at e
    cases e

theorem three (l : List UInt8) (h : 2 < l.length) : l = l.getD 0 0 :: l.getD 1 0 :: l.getD 2 0 :: l.drop 3 := by
  match l, h with
  | a :: b :: c :: t, _ => rfl

/-- A broken byte is one byte. -/
theorem brk_one (l : List UInt8) (hb : brk l = true) : decL l = (65533, 1) := by
  unfold brk at hb
  rw [Bool.and_eq_true_iff] at hb
  obtain ⟨e1, e2⟩ := hb
  have e1 : (decL l).1 = 65533 := by simpa using e1
  have e2 : ([239, 191, 189] : List UInt8).isPrefixOf l = false := by simpa using e2
  have hb0 : (l.getD 0 0).toNat < 256 := (l.getD 0 0).toNat_lt
  have hb1 : (l.getD 1 0).toNat < 256 := (l.getD 1 0).toNat_lt
  have hb2 : (l.getD 2 0).toNat < 256 := (l.getD 2 0).toNat_lt
  rcases decL_ways l with ⟨h1, e⟩ | ⟨h1, h2, h3, h4, e⟩ | ⟨h1, h2, h3, h4, h5, h6, e⟩ | ⟨h1, h2, h3, h4, h5, h6, h7, e⟩ | ⟨h1, e⟩
  · rw [e] at e1; simp only at e1; omega
  · rw [e] at e1; simp only at e1; omega
  · exfalso
    rw [e] at e1
    simp only at e1
    have f0 : l.getD 0 0 = 239 := UInt8.toNat_inj.1 (by show _ = 239; omega)
    have f1 : l.getD 1 0 = 191 := UInt8.toNat_inj.1 (by show _ = 191; omega)
    have f2 : l.getD 2 0 = 189 := UInt8.toNat_inj.1 (by show _ = 189; omega)
    have hl := three l h2
    rw [f0, f1, f2] at hl
    have : ([239, 191, 189] : List UInt8).isPrefixOf l = true := by rw [hl]; exact List.isPrefixOf_iff_prefix.2 ⟨l.drop 3, rfl⟩
    rw [this] at e2
    cases e2
  · rw [e] at e1; simp only at e1; omega
  · exact e
end Go.Proofs.Ytccphnkdnifpfaa

namespace Go.Proofs.Ytccphnkdnifpfaa
set_option linter.unnecessarySimpa false
open Go.RowKit
set_option linter.unusedVariables false
set_option linter.unusedSimpArgs false

def pcsN : Nat → List UInt8 → List (Nat × Bool × List UInt8)
  | 0, _ => []
  | n + 1, l => match l with
    | [] => []
    | a :: t => ((decL (a :: t)).1, brk (a :: t), (a :: t).take (decL (a :: t)).2) :: pcsN n ((a :: t).drop (decL (a :: t)).2)
/-- The pieces: rune, broken or not, bytes. -/
def pcs (l : List UInt8) : List (Nat × Bool × List UInt8) := pcsN l.length l

theorem pcsN_fuel : ∀ (n : Nat) (l : List UInt8), l.length ≤ n → pcsN n l = pcs l := by
  intro n
  induction n using Nat.strongRecOn with
  | _ n ih =>
    intro l hl
    cases l with
    | nil => cases n <;> rfl
    | cons a t =>
      obtain ⟨f1, f2, f3⟩ := decL_facts (a :: t) (by simp)
      have hd : ((a :: t).drop (decL (a :: t)).2).length ≤ t.length := by rw [List.length_drop]; simp only [List.length_cons] at *; omega
      cases n with
      | zero => simp at hl
      | succ n =>
        have ht : t.length ≤ n := by simpa using hl
        have e1 : pcsN (n + 1) (a :: t) = ((decL (a :: t)).1, brk (a :: t), (a :: t).take (decL (a :: t)).2) :: pcsN n ((a :: t).drop (decL (a :: t)).2) := rfl
        have e2 : pcs (a :: t) = ((decL (a :: t)).1, brk (a :: t), (a :: t).take (decL (a :: t)).2) :: pcsN t.length ((a :: t).drop (decL (a :: t)).2) := rfl
        rw [e1, e2, ih n (by omega) _ (by omega)]
        rcases Nat.lt_or_ge t.length (n + 1) with h | h
        · rw [ih t.length (by omega) _ hd]
        · omega
theorem pcs_nil : pcs [] = [] := rfl
theorem pcs_cons (l : List UInt8) (h : l ≠ []) : pcs l = ((decL l).1, brk l, l.take (decL l).2) :: pcs (l.drop (decL l).2) := by
  cases l with
  | nil => exact absurd rfl h
  | cons a t =>
    obtain ⟨f1, f2, f3⟩ := decL_facts (a :: t) (by simp)
    have hd : ((a :: t).drop (decL (a :: t)).2).length ≤ t.length := by rw [List.length_drop]; simp only [List.length_cons] at *; omega
    have e2 : pcs (a :: t) = ((decL (a :: t)).1, brk (a :: t), (a :: t).take (decL (a :: t)).2) :: pcsN t.length ((a :: t).drop (decL (a :: t)).2) := rfl
    rw [e2, pcsN_fuel _ _ hd]

theorem Chg.iterAt {S : Nat → Prop} {a b : World} (h : Chg S a b) {k : Nat} (hk : a.heap.size ≤ k) (s : ByteArray) (pos : Nat) : Chg S a (b.iterAt k s pos) :=
  ⟨h.os, h.tape, h.output, by rw [Lib.iterAt_size]; exact h.size, fun i hi hs => by rw [Lib.iterAt_other b k i s pos (by omega)]; exact h.block i hi hs⟩

/-- May a piece not stand in a plain word? -/
theorem drop_ne {s : ByteArray} {pos : Nat} (h : pos < s.size) : s.data.toList.drop pos ≠ [] := by
  intro h0
  have := congrArg List.length h0
  rw [List.length_drop, size_list] at this
  simp at this
  omega
theorem extract_list (s : ByteArray) (i : Nat) : (s.extract i s.size).data.toList = s.data.toList.drop i := by
  rw [ByteArray.data_extract, Array.toList_extract, List.extract_eq_take_drop]
  rw [List.take_of_length_le]
  rw [List.length_drop, size_list]
  exact Nat.le_refl _
theorem ext3_list (s : ByteArray) (pos : Nat) : (s.extract pos (pos + 3)).toList = (s.data.toList.drop pos).take 3 := by
  rw [Lib.toList_data, ByteArray.data_extract, Array.toList_extract, List.extract_eq_take_drop]
  congr 1
  omega
theorem take3_pre (l : List UInt8) : (l.take 3 == [239, 191, 189]) = ([239, 191, 189] : List UInt8).isPrefixOf l := by
  rw [Bool.eq_iff_iff, beq_iff_eq, List.isPrefixOf_iff_prefix]
  constructor
  · intro h
    exact ⟨l.drop 3, by rw [← h, List.take_append_drop]⟩
  · rintro ⟨t, rfl⟩
    rfl


end Go.Proofs.Ytccphnkdnifpfaa

namespace Go.Proofs.Ytccphnkdnifpfaa
set_option linter.unnecessarySimpa false
set_option linter.unusedVariables false
set_option linter.unusedSimpArgs false

/-- A rune that may not stand in a name. -/
def ctlN (r : Nat) : Bool := decide (r < 32) || r == 127 || r == 47
def badN (p : Nat × Bool × List UInt8) : Bool := ctlN p.1 || p.2.1
/-- The place of the first piece that may not stand there. -/
def wrongAt (k : Nat) : List (Nat × Bool × List UInt8) → Option Nat
  | [] => none
  | p :: r => if badN p then some k else wrongAt (k + p.2.2.length) r
def spotF (l : List UInt8) : Int × Int :=
  if l = [] ∨ l = [46] ∨ l = [46, 46] then (140, 0)
  else if 32 < l.length then (3, 32)
  else match wrongAt 0 (pcs l) with
    | none => (0, 0)
    | some k => (140, (k : Int))
theorem wrong_cons (k : Nat) (l : List UInt8) (h : l ≠ []) : wrongAt k (pcs l) = if badN ((decL l).1, brk l, l.take (decL l).2) then some k else wrongAt (k + (decL l).2) (pcs (l.drop (decL l).2)) := by
  obtain ⟨f1, f2, f3⟩ := decL_facts l h
  have hk : (l.take (decL l).2).length = (decL l).2 := by rw [List.length_take]; omega
  rw [pcs_cons l h, wrongAt, hk]
theorem wrong_le : ∀ (n : Nat) (l : List UInt8) (k w : Nat), l.length ≤ n → wrongAt k (pcs l) = some w → k ≤ w ∧ w < k + l.length := by
  intro n
  induction n with
  | zero =>
    intro l k w hl h
    have : l = [] := List.eq_nil_of_length_eq_zero (by omega)
    subst this
    simp [pcs_nil, wrongAt] at h
  | succ n ih =>
    intro l k w hl h
    by_cases hn : l = []
    · subst hn; simp [pcs_nil, wrongAt] at h
    · obtain ⟨f1, f2, f3⟩ := decL_facts l hn
      rw [wrong_cons k l hn] at h
      split at h
      · cases h; have := List.length_pos_iff.2 hn; omega
      · have := ih (l.drop (decL l).2) (k + (decL l).2) w (by rw [List.length_drop]; omega) h
        rw [List.length_drop] at this
        omega
/-- A piece is broken just where its rune is U+FFFD and it is shorter than three bytes. -/
theorem brk_short (l : List UInt8) (h : l ≠ []) : brk l = ((decL l).1 == 65533 && decide ((decL l).2 < 3)) := by
  cases hb : brk l with
  | true =>
    have := brk_one l hb
    rw [this]; rfl
  | false =>
    unfold brk at hb
    by_cases hr : (decL l).1 = 65533
    · rw [hr] at hb
      have hp : ([239, 191, 189] : List UInt8).isPrefixOf l = true := by simpa using hb
      rw [pre_fffd hp]; rfl
    · have : ((decL l).1 == 65533) = false := by rw [beq_eq_false_iff_ne]; exact hr
      rw [this]; rfl
end Go.Proofs.Ytccphnkdnifpfaa

namespace Go.Proofs.Ytccphnkdnifpfaa
set_option linter.unnecessarySimpa false
open Go.RowKit
set_option linter.unusedVariables false
set_option linter.unusedSimpArgs false

section
variable {P : Program} {w : World}
end

end Go.Proofs.Ytccphnkdnifpfaa

namespace Go.Proofs.Ytccphnkdnifpfaa
set_option linter.unnecessarySimpa false
open Go.RowKit
set_option linter.unusedVariables false
set_option linter.unusedSimpArgs false

/-- What a Reader has: the bytes that are left, its error. -/
structure Rd where
  rest : List UInt8
  err : Int
  deriving DecidableEq

/-- A Reader in block g, whose bytes lie in block d. -/
def RdrAt (w : World) (g d : Nat) (r : Rd) : Prop :=
  ∃ A c, RCells w g (.slice A r.rest.length c) r.err ∧ Bytes w (.slice A r.rest.length c) r.rest ∧ (∀ p, A = some p → p.block = d) ∧ d ≠ g

theorem RdrAt.chg {S : Nat → Prop} {w w' : World} {g d : Nat} {r : Rd} (h : RdrAt w g d r) (hc : Chg S w w') (hg : ¬ S g) (hd : ¬ S d) : RdrAt w' g d r := by
  obtain ⟨A, c, h1, h2, h3, h4⟩ := h
  refine ⟨A, c, hc.heap h1 hg, h2.chg hc ?_, h3, h4⟩
  intro b hb
  cases A with
  | none => simp [Value.ownBlock] at hb
  | some p => simp [Value.ownBlock] at hb; rw [← hb, h3 p rfl]; exact hd
theorem RdrAt.no {w w' : World} {g d : Nat} {r : Rd} (h : RdrAt w g d r) (hc : Chg No w w') : RdrAt w' g d r := h.chg hc (fun x => x) (fun x => x)
theorem RdrAt.lt {w : World} {g d : Nat} {r : Rd} (h : RdrAt w g d r) : g < w.heap.size := by obtain ⟨A, c, h1, _⟩ := h; exact h1.lt

theorem RdrAt.made {w1 : World} {base : Nat} {v : Value} {xs : List UInt8} (h : OwnB w1 base v xs) (hb : base ≤ w1.heap.size) :
    ∃ d, base ≤ d ∧ RdrAt (w1.alloc (.cells #[.bool true, v, .int .i64 0] 141)) w1.heap.size d ⟨xs, 0⟩ := by
  obtain ⟨A, c, rfl, hn, hm⟩ := h.bytes.form
  have hk := h.block
  have hb2 := h.bytes.no ((Chg.refl No w1).alloc (.cells #[.bool true, .slice A xs.length c, .int .i64 0] 141))
  cases A with
  | none => exact ⟨w1.heap.size + 1, by omega, none, c, heap_alloc_new w1 _, hb2, (fun p hp => by cases hp), by omega⟩
  | some p =>
    have := hk p.block rfl
    exact ⟨p.block, this.1, some p, c, heap_alloc_new w1 _, hb2, (fun q hq => by cases hq; rfl), by omega⟩

/-- A refused read. -/
theorem RdrAt.refused {w : World} {g d : Nat} {r : Rd} (h : RdrAt w g d r) (e : Int) : RdrAt (w.setCell ⟨g, 2, none⟩ (.int .i64 e)) g d ⟨r.rest, e⟩ := by
  obtain ⟨A, c, h1, h2, h3, h4⟩ := h
  refine ⟨A, c, h1.set2 e, h2.chg (S := One g) (Chg.put w g _ _) ?_, h3, h4⟩
  intro b hb hx
  cases A with
  | none => simp [Value.ownBlock] at hb
  | some p => simp [Value.ownBlock] at hb; have := h3 p rfl; have : b = g := hx; omega

/-- What is taken is gone. -/
theorem RdrAt.taken {w : World} {g d : Nat} {A : Option Addr} {c m : Nat} {xs : List UInt8} {e : Int} (h1 : RCells w g (.slice A xs.length c) e) (h2 : Bytes w (.slice A xs.length c) xs) (h3 : ∀ p, A = some p → p.block = d) (h4 : d ≠ g) (hm : m ≤ xs.length) :
    RdrAt (w.setCell ⟨g, 1, none⟩ (.slice (if c = m then A else A.map (·.add m)) (xs.length - m) (c - m))) g d ⟨xs.drop m, e⟩ := by
  refine ⟨_, _, by rw [List.length_drop]; exact h1.set1 _, ?_, ?_, h4⟩
  · rw [List.length_drop]
    refine (h2.drop hm).chg (S := One g) (Chg.put w g _ _) ?_
    intro b hb hx
    have hx : b = g := hx
    cases A with
    | none => split at hb <;> simp [Value.ownBlock] at hb
    | some p =>
      have := h3 p rfl
      split at hb
      · simp [Value.ownBlock] at hb; omega
      · simp only [Option.map_some, Value.ownBlock, Option.some.injEq] at hb
        have : (p.add m).block = p.block := by unfold Addr.add; split <;> rfl
        omega
  · intro p hp
    split at hp
    · exact h3 p hp
    · cases A with
      | none => simp at hp
      | some q =>
        simp only [Option.map_some, Option.some.injEq] at hp
        have : (q.add m).block = q.block := by unfold Addr.add; split <;> rfl
        rw [← hp, this]; exact h3 q rfl

theorem RdrAt.open {w : World} {g d : Nat} {xs : List UInt8} {err : Int} (h : RdrAt w g d ⟨xs, err⟩) : ∃ A c, w.cell? ⟨g, 0, none⟩ = some (.bool true) ∧ w.cell? ⟨g, 1, none⟩ = some (.slice A xs.length c) ∧ w.cell? ⟨g, 2, none⟩ = some (.int .i64 err) ∧ xs.length ≤ c ∧ c ≤ 9223372036854775807 ∧ Hid (Bytes w (.slice A xs.length c) xs) ∧ Hid (∀ p, A = some p → p.block = d) := by
  obtain ⟨A, c, h1, h2, h3, h4⟩ := h
  have hn : xs.length ≤ c ∧ c ≤ maxLen := by
    obtain ⟨_, _, he, hn, hm⟩ := h2.form
    simp only [Value.slice.injEq, true_and] at he
    obtain ⟨rfl, rfl⟩ := he
    exact ⟨hn, hm⟩
  exact ⟨A, c, h1.c0, h1.c1, h1.c2, hn.1, hn.2, h2, h3⟩

theorem ready_at (w : World) (g d : Nat) (r : Rd) (h : RdrAt w g d r) :
    Calls Try.prog 81 #[.pointer (some ⟨g, 0, none⟩)] w fun e w' => e = .returned (.bool (r.err == 0)) ∧ w = w' := by
  obtain ⟨A, c, h1, h2, h3, h4⟩ := h
  exact ready_calls _ _ _ _ h1

theorem refuse_at (w : World) (g d : Nat) (xs : List UInt8) (err n : Int) (h : RdrAt w g d ⟨xs, err⟩) :
    Calls Try.prog 82 #[.pointer (some ⟨g, 0, none⟩), .int .i64 n] w fun e w' => e = .returned (.tuple #[]) ∧ RdrAt w' g d ⟨xs, n⟩ ∧ Chg (One g) w w' := by
  have H := h
  obtain ⟨A, c, h1, h2, h3, h4⟩ := h
  refine (refuse_calls _ _ _ _ n h1).mono ?_
  rintro e w' ⟨rfl, rfl⟩
  exact ⟨rfl, H.refused n, Chg.put w g _ _⟩

theorem take_at (w : World) (g d : Nat) (xs : List UInt8) (err : Int) (k : Int) (h : RdrAt w g d ⟨xs, err⟩) (hk : 0 ≤ k) (hm : k ≤ xs.length) :
    Calls Try.prog 84 #[.pointer (some ⟨g, 0, none⟩), .int .i64 k] w fun e w' => ∃ A, e = .returned (.slice A k.toNat k.toNat) ∧ Bytes w' (.slice A k.toNat k.toNat) (xs.take k.toNat) ∧ RdrAt w' g d ⟨xs.drop k.toNat, err⟩ ∧ Chg (One g) w w' ∧ (∀ p, A = some p → p.block = d) := by
  have H := h
  obtain ⟨A, c, h1, h2, h3, h4⟩ := h
  obtain ⟨_, _, he, hn, hml⟩ := h2.form
  simp only [Value.slice.injEq, true_and] at he
  obtain ⟨rfl, rfl⟩ := he
  simp only at hn hm
  obtain ⟨m, rfl⟩ := Int.eq_ofNat_of_zero_le hk
  refine (take_calls _ _ A xs.length c _ _ m rfl (by omega) hn hml h1).mono ?_
  rintro e w' ⟨rfl, rfl⟩
  simp only [Int.toNat_natCast]
  refine ⟨A, rfl, ?_, RdrAt.taken h1 h2 h3 h4 (by omega), Chg.put w g _ _, h3⟩
  have h2' : Bytes w (.slice A xs.length c) xs := h2
  refine (h2'.take (k := m) (m := m) (by omega) (Nat.le_refl _) (by omega)).chg (S := One g) (Chg.put w g _ _) ?_
  intro b hb hx
  cases A with
  | none => simp [Value.ownBlock] at hb
  | some p => simp [Value.ownBlock] at hb; have := h3 p rfl; have : b = g := hx; omega

def rByte (r : Rd) : UInt8 × Rd :=
  if r.err ≠ 0 then (0, r) else match r.rest with
  | [] => (0, ⟨[], 110⟩)
  | x :: t => (x, ⟨t, 0⟩)

set_option maxHeartbeats 400000 in
theorem byte_calls (w : World) (g d : Nat) (r : Rd) (h : RdrAt w g d r) :
    Calls Try.prog 66 #[.pointer (some ⟨g, 0, none⟩)] w fun e w' => e = .returned (.int .u8 ((rByte r).1.toNat : Int)) ∧ RdrAt w' g d (rByte r).2 ∧ Chg (One g) w w' := by
  obtain ⟨xs, err⟩ := r
  have H := Lib.hid h
  obtain ⟨A, c, c0, c1, c2, hn, hm, H2, H3⟩ := h.open
  by_cases he : err = 0
  · subst he
    cases xs with
    | nil =>
      go_enter Try.func66, Try.ntmps66
      go_wp2_with (first | (go_at_call 81; refine (ready_at _ _ _ _ h).mono ?_; rintro e w' ⟨rfl, rfl⟩) | (go_at_call 82; refine (refuse_at _ _ _ _ _ _ h).mono ?_; rintro e w' ⟨rfl, hr, hc⟩))
      go_ret
      exact ⟨rfl, hr, hc⟩
    | cons x t =>
      simp only [List.length_cons] at c1 hn
      go_enter Try.func66, Try.ntmps66
      go_wp2_with (go_at_call 81; refine (ready_at _ _ _ _ h).mono ?_; rintro e w' ⟨rfl, rfl⟩)
      refine (take_at _ _ _ _ _ 1 H.out (by omega) (by simp; omega)).mono ?_
      rintro e w' ⟨A', rfl, hb, hr, hc, hp⟩
      obtain ⟨b, o, rfl, hcell⟩ := hb.addr (by simp)
      have hx := hcell 0 (by simp)
      simp only [Nat.add_zero, Int.toNat_one, List.take_succ_cons, List.take_zero, List.getElem_cons_zero] at hx
      have HP := Lib.hid hp
      clear hcell hp
      simp only [Int.toNat_one]
      go_wp2
      go_ret
      exact ⟨rfl, hr, hc⟩
  · have hb : (err == 0) = false := by simpa using he
    go_enter Try.func66, Try.ntmps66
    go_wp2_with (go_at_call 81; refine (ready_at _ _ _ _ h).mono ?_; rintro e w' ⟨rfl, rfl⟩)
    go_ret
    simp only [rByte, ne_eq, he, not_false_eq_true, if_true]
    exact ⟨rfl, H.out, Chg.refl _ _⟩

set_option maxHeartbeats 400000 in
theorem byte_none (w : World) : Calls Try.prog 66 #[.pointer none] w fun e w' => e = .returned (.int .u8 0) ∧ w = w' := by
  go_enter Try.func66, Try.ntmps66
  go_wp2
  go_ret
  exact ⟨rfl, rfl⟩
end Go.Proofs.Ytccphnkdnifpfaa

namespace Go.Proofs.Ytccphnkdnifpfaa
set_option linter.unnecessarySimpa false
open Go.RowKit
set_option linter.unusedVariables false
set_option linter.unusedSimpArgs false

def numF : Nat → Nat → List UInt8 → Nat × Nat × Int
  | _, _, [] => (0, 0, 110)
  | i, x, c :: t =>
    if i = 9 ∧ 1 < c.toNat ∨ 0 < i ∧ c.toNat = 0 then (0, 0, 8)
    else if c.toNat < 128 then (x + c.toNat % 128 * 128 ^ i, i + 1, 0) else numF (i + 1) (x + c.toNat % 128 * 128 ^ i) t

theorem numF_bad (i x : Nat) (c : UInt8) (t : List UInt8) (h : i = 9 ∧ 1 < c.toNat ∨ 0 < i ∧ c.toNat = 0) : numF i x (c :: t) = (0, 0, 8) := by
  rw [numF, if_pos h]
theorem numF_last (i x : Nat) (c : UInt8) (t : List UInt8) (h : ¬ (i = 9 ∧ 1 < c.toNat ∨ 0 < i ∧ c.toNat = 0)) (hc : c.toNat < 128) : numF i x (c :: t) = (x + c.toNat % 128 * 128 ^ i, i + 1, 0) := by
  rw [numF, if_neg h, if_pos hc]
theorem numF_more (i x : Nat) (c : UInt8) (t : List UInt8) (h : ¬ (i = 9 ∧ 1 < c.toNat ∨ 0 < i ∧ c.toNat = 0)) (hc : ¬ c.toNat < 128) : numF i x (c :: t) = numF (i + 1) (x + c.toNat % 128 * 128 ^ i) t := by
  rw [numF, if_neg h, if_neg hc]
theorem acc_lt (k y u : Nat) (hy : y < 128 ^ k) : y + u % 128 * 128 ^ k < 128 ^ (k + 1) := by
  have h2 : u % 128 ≤ 127 := by omega
  have := Nat.mul_le_mul_right (128 ^ k) h2
  rw [Nat.pow_succ]; omega
theorem ret3 {a b c a' b' c' : Int} (h1 : a = a') (h2 : b = b') (h3 : c = c') : Ending.returned (.tuple #[.int .u64 a, .int .i64 b, .int .i64 c]) = .returned (.tuple #[.int .u64 a', .int .i64 b', .int .i64 c']) := by rw [h1, h2, h3]

set_option maxRecDepth 100000 in
set_option maxHeartbeats 800000 in
theorem number_calls (w : World) (A : Option Addr) (n c : Nat) (xs : List UInt8) (h : Bytes w (.slice A n c) xs) (hl : xs.length = n) (hx : n ≤ 140737488355328) :
    Calls Try.prog 83 #[.slice A n c] w fun e w' => e = .returned (.tuple #[.int .u64 ((numF 0 0 xs).1 : Int), .int .i64 ((numF 0 0 xs).2.1 : Int), .int .i64 (numF 0 0 xs).2.2]) ∧ w = w' := by
  have H := Lib.hid h
  have HL := Lib.hid hl
  clear h hl
  go_enter Try.func83, Try.ntmps83
  go_wp2
  go_loop [5, 10] (fun x i => ∃ k y : Nat, k ≤ n ∧ k ≤ 9 ∧ y < 128 ^ k ∧ i = .int .i64 (k : Int) ∧ x = .int .u64 (y : Int) ∧ Hid (numF 0 0 xs = numF k y (xs.drop k))) (fun _ i => n - (intOf i).toNat)
  case atStart => exact ⟨0, 0, by omega, by omega, by simp, rfl, rfl, rfl⟩
  case round =>
    obtain ⟨k, y, hk, hk9, hy, rfl, rfl, HN⟩ := hrel
    by_cases hlt : k < n
    · obtain ⟨b, o, rfl, hcell⟩ := H.out.addr (by rw [HL.out]; omega)
      have hc := hcell k (by rw [HL.out]; exact hlt)
      have hd : xs.drop k = xs[k]'(by rw [HL.out]; exact hlt) :: xs.drop (k + 1) := List.drop_eq_getElem_cons (by rw [HL.out]; exact hlt)
      generalize xs[k]'(by rw [HL.out]; exact hlt) = u at hc hd
      have HD := Lib.hid hd
      have hu : u.toNat < 256 := u.toNat_lt
      clear hcell hd
      by_cases hbad : k = 9 ∧ 1 < u.toNat ∨ 0 < k ∧ u.toNat = 0
      · have HB := Lib.hid (numF_bad k y u (xs.drop (k + 1)) hbad)
        by_cases h9 : k = 9
        · subst h9
          by_cases hu1 : 1 < u.toNat
          · clear hbad
            go_wp2
            go_ret3
            exact ⟨by rw [HN.out, HD.out, HB.out]; rfl, rfl⟩
          · have hz : ((u.toNat : Int) == 0) = true := by simp; omega
            clear hbad
            go_wp2
            go_ret3
            exact ⟨by rw [HN.out, HD.out, HB.out]; rfl, rfl⟩
        · have hz : ((u.toNat : Int) == 0) = true := by simp; omega
          have hk0 : 0 < k := by omega
          clear hbad
          go_wp2
          go_ret3
          exact ⟨by rw [HN.out, HD.out, HB.out]; rfl, rfl⟩
      · have HO := Lib.hid (shl_or k y u.toNat hk9 hy hu (by omega))
        by_cases hu1 : u.toNat < 128
        · have HB := Lib.hid (numF_last k y u (xs.drop (k + 1)) hbad hu1)
          by_cases h9 : k = 9
          · subst h9
            have hz : ((u.toNat : Int) == 0) = false := by simp; omega
            have h1 : u.toNat ≤ 1 := by omega
            have HO9 : Hid (bits .or .u64 (y : Int) (IntKind.u64.wrap (IntKind.u64.wrap (bits .and .u8 (u.toNat : Int) 127) * 9223372036854775808)) = ((y + u.toNat % 128 * 128 ^ 9 : Nat) : Int)) := shl_or_9 y u.toNat hy hu h1
            clear hbad
            go_wp2
            go_ret3
            exact ⟨by rw [HN.out, HD.out, HB.out]; exact ret3 HO9.out rfl rfl, rfl⟩
          · by_cases hk0 : 0 < k
            · have hz : ((u.toNat : Int) == 0) = false := by simp; omega
              clear hbad
              go_wp2
              go_ret3
              exact ⟨by rw [HN.out, HD.out, HB.out]; exact ret3 HO.out (by simp) rfl, rfl⟩
            · clear hbad
              go_wp2
              go_ret3
              exact ⟨by rw [HN.out, HD.out, HB.out]; exact ret3 HO.out (by simp) rfl, rfl⟩
        · have HB := Lib.hid (numF_more k y u (xs.drop (k + 1)) hbad hu1)
          have hk9' : k < 9 := by
            rcases Nat.lt_or_ge k 9 with h | h
            · exact h
            · exact absurd (Or.inl ⟨by omega, by omega⟩) hbad
          have h0 : ((u.toNat : Int) == 0) = false := by simp; omega
          have HBAD := Lib.hid hbad
          clear hbad
          go_wp2
          all_goals go_round
          all_goals first
            | (case rel => exact ⟨k + 1, _, hlt, hk9', acc_lt k y u.toNat hy, by go_num, by rw [HO.out], by rw [Hid, HN.out, HD.out, HB.out]⟩)
            | (case measure => simp [intOf]; omega)
    · have : k = n := by omega
      subst this
      have HB := Lib.hid (show numF k y (xs.drop k) = (0, 0, 110) by rw [List.drop_of_length_le (by rw [HL.out]; omega)]; rfl)
      go_wp2
      go_ret3
      exact ⟨by rw [HN.out, HB.out]; rfl, rfl⟩
end Go.Proofs.Ytccphnkdnifpfaa

namespace Go.Proofs.Ytccphnkdnifpfaa
set_option linter.unnecessarySimpa false
open Go.RowKit
set_option linter.unusedVariables false
set_option linter.unusedSimpArgs false

theorem numF_facts (xs : List UInt8) : ∀ (i x : Nat), i ≤ 9 → x < 128 ^ i → (numF i x xs).2.1 ≤ i + xs.length ∧ (numF i x xs).1 < 18446744073709551616 ∧ ((numF i x xs).2.2 = 0 ∨ (numF i x xs).2.2 = 8 ∨ (numF i x xs).2.2 = 110) ∧ ((numF i x xs).2.2 ≠ 0 → (numF i x xs).1 = 0) ∧ ((numF i x xs).2.2 = 0 → i < (numF i x xs).2.1 ∧ (numF i x xs).2.1 ≤ 10) := by
  induction xs with
  | nil => intro i x hi hx; simp [numF]
  | cons c t ih =>
    intro i x hi hx
    by_cases hb : i = 9 ∧ 1 < c.toNat ∨ 0 < i ∧ c.toNat = 0
    · rw [numF_bad i x c t hb]; simp
    · by_cases hc : c.toNat < 128
      · rw [numF_last i x c t hb hc]
        have h1 := acc_lt i x c.toNat hx
        refine ⟨by simp only [List.length_cons]; omega, ?_, by simp, by simp, fun _ => ⟨by simp only; omega, by simp only; omega⟩⟩
        by_cases h9 : i = 9
        · subst h9
          have : c.toNat % 128 ≤ 1 := by omega
          have h2 := Nat.mul_le_mul_right (128 ^ 9) this
          have h3 : (128 : Nat) ^ 9 = 9223372036854775808 := by decide
          simp only
          omega
        · have h2 := pow128_le (i + 1) (by omega)
          simp only
          omega
      · rw [numF_more i x c t hb hc]
        have hi9 : i < 9 := by
          rcases Nat.lt_or_ge i 9 with h | h
          · exact h
          · exact absurd (Or.inl ⟨by omega, by omega⟩) hb
        obtain ⟨h1, h2, h3, h4, h5⟩ := ih (i + 1) (x + c.toNat % 128 * 128 ^ i) (by omega) (acc_lt i x c.toNat hx)
        exact ⟨by simp; omega, h2, h3, h4, fun h => ⟨by have := (h5 h).1; omega, (h5 h).2⟩⟩
theorem numF_at (xs : List UInt8) : (numF 0 0 xs).2.1 ≤ xs.length ∧ (numF 0 0 xs).1 < 18446744073709551616 ∧ ((numF 0 0 xs).2.2 = 0 ∨ (numF 0 0 xs).2.2 = 8 ∨ (numF 0 0 xs).2.2 = 110) ∧ ((numF 0 0 xs).2.2 ≠ 0 → (numF 0 0 xs).1 = 0) ∧ ((numF 0 0 xs).2.2 = 0 → 0 < (numF 0 0 xs).2.1 ∧ (numF 0 0 xs).2.1 ≤ 10) := by
  have := numF_facts xs 0 0 (by omega) (by simp)
  simpa using this

def rUint (r : Rd) : Nat × Rd :=
  if r.err ≠ 0 then (0, r) else if (numF 0 0 r.rest).2.2 ≠ 0 then (0, ⟨r.rest, (numF 0 0 r.rest).2.2⟩) else ((numF 0 0 r.rest).1, ⟨r.rest.drop (numF 0 0 r.rest).2.1, 0⟩)

theorem ret1 {k : IntKind} {a b : Int} (h : a = b) : Ending.returned (.int k a) = .returned (.int k b) := by rw [h]

set_option maxHeartbeats 400000 in
theorem uint_calls (w : World) (g d : Nat) (r : Rd) (h : RdrAt w g d r) (hx : r.rest.length ≤ 140737488355328) :
    Calls Try.prog 68 #[.pointer (some ⟨g, 0, none⟩)] w fun e w' => e = .returned (.int .u64 ((rUint r).1 : Int)) ∧ RdrAt w' g d (rUint r).2 ∧ Chg (One g) w w' := by
  obtain ⟨xs, err⟩ := r
  have H := Lib.hid h
  obtain ⟨A, c, c0, c1, c2, hn, hm, H2, H3⟩ := h.open
  simp only at hx
  by_cases he : err = 0
  · subst he
    obtain ⟨f1, f2, f3, f4, f5⟩ := numF_at xs
    have HU : Hid (rUint ⟨xs, 0⟩ = if (numF 0 0 xs).2.2 ≠ 0 then (0, ⟨xs, (numF 0 0 xs).2.2⟩) else ((numF 0 0 xs).1, ⟨xs.drop (numF 0 0 xs).2.1, 0⟩)) := by simp [Hid, rUint]
    have HC := Lib.hid (number_calls w A xs.length c xs H2.out rfl hx)
    generalize hN : numF 0 0 xs = N at *
    obtain ⟨v, n, ee⟩ := N
    have HN := Lib.hid hN
    simp only at f1 f2
    clear f3 f4 f5 hN
    by_cases hee : ee = 0
    · subst hee
      go_enter Try.func68, Try.ntmps68
      go_wp2_with (first | (go_at_call 81; refine (ready_at _ _ _ _ h).mono ?_; rintro e w' ⟨rfl, rfl⟩) | (go_at_call 83; refine HC.out.mono ?_; rintro e w' ⟨rfl, rfl⟩))
      refine (take_at _ _ _ _ _ n H.out (by omega) (by omega)).mono ?_
      rintro e w' ⟨A', rfl, hb, hr, hc, hp⟩
      have HP := Lib.hid hp
      clear hp
      go_wp2
      go_ret
      exact ⟨by rw [HU.out]; rfl, by rw [HU.out]; simpa using hr, hc⟩
    · have hb : (ee == 0) = false := by simpa using hee
      have hb' : (ee != 0) = true := by simpa using hee
      have HE := Lib.hid hee
      clear hee
      go_enter Try.func68, Try.ntmps68
      go_wp2_with (first | (go_at_call 81; refine (ready_at _ _ _ _ h).mono ?_; rintro e w' ⟨rfl, rfl⟩) | (go_at_call 83; refine HC.out.mono ?_; rintro e w' ⟨rfl, rfl⟩) | (go_at_call 82; refine (refuse_at _ _ _ _ _ _ h).mono ?_; rintro e w' ⟨rfl, hr, hc⟩))
      go_ret
      exact ⟨by rw [HU.out, if_pos HE.out]; rfl, by rw [HU.out, if_pos HE.out]; exact hr, hc⟩
  · have hb : (err == 0) = false := by simpa using he
    go_enter Try.func68, Try.ntmps68
    go_wp2_with (go_at_call 81; refine (ready_at _ _ _ _ h).mono ?_; rintro e w' ⟨rfl, rfl⟩)
    go_ret
    simp only [rUint, ne_eq, he, not_false_eq_true, if_true]
    exact ⟨rfl, H.out, Chg.refl _ _⟩

set_option maxHeartbeats 400000 in
theorem uint_none (w : World) : Calls Try.prog 68 #[.pointer none] w fun e w' => e = .returned (.int .u64 0) ∧ w = w' := by
  go_enter Try.func68, Try.ntmps68
  go_wp2
  go_ret
  exact ⟨rfl, rfl⟩

theorem left_calls (w : World) (g d : Nat) (r : Rd) (h : RdrAt w g d r) :
    Calls Try.prog 50 #[.pointer (some ⟨g, 0, none⟩)] w fun e w' => e = .returned (.int .i64 (r.rest.length : Int)) ∧ w = w' := by
  obtain ⟨xs, err⟩ := r
  obtain ⟨A, c, c0, c1, c2, hn, hm, H2, H3⟩ := h.open
  go_enter Try.func50, Try.ntmps50
  go_wp2
  go_ret
  exact ⟨rfl, rfl⟩
theorem left_none (w : World) : Calls Try.prog 50 #[.pointer none] w fun e w' => e = .returned (.int .i64 0) ∧ w = w' := by
  go_enter Try.func50, Try.ntmps50
  go_wp2
  go_ret
  exact ⟨rfl, rfl⟩
theorem err_calls (w : World) (g d : Nat) (r : Rd) (h : RdrAt w g d r) :
    Calls Try.prog 53 #[.pointer (some ⟨g, 0, none⟩)] w fun e w' => e = .returned (.int .i64 r.err) ∧ w = w' := by
  obtain ⟨xs, err⟩ := r
  obtain ⟨A, c, c0, c1, c2, hn, hm, H2, H3⟩ := h.open
  go_enter Try.func53, Try.ntmps53
  go_wp2
  go_ret
  exact ⟨rfl, rfl⟩
theorem err_none (w : World) : Calls Try.prog 53 #[.pointer none] w fun e w' => e = .returned (.int .i64 1) ∧ w = w' := by
  go_enter Try.func53, Try.ntmps53
  go_wp2
  go_ret
  exact ⟨rfl, rfl⟩
def rEnd (r : Rd) : Int := if r.err ≠ 0 then r.err else if 0 < r.rest.length then 111 else 0
theorem end_calls (w : World) (g d : Nat) (r : Rd) (h : RdrAt w g d r) :
    Calls Try.prog 69 #[.pointer (some ⟨g, 0, none⟩)] w fun e w' => e = .returned (.int .i64 (rEnd r)) ∧ w = w' := by
  obtain ⟨xs, err⟩ := r
  obtain ⟨A, c, c0, c1, c2, hn, hm, H2, H3⟩ := h.open
  by_cases he : err = 0
  · subst he
    by_cases hl : 0 < xs.length
    · go_enter Try.func69, Try.ntmps69
      go_wp2
      go_ret
      exact ⟨by simp [rEnd, hl], rfl⟩
    · go_enter Try.func69, Try.ntmps69
      go_wp2
      go_ret
      exact ⟨by simp [rEnd, hl], rfl⟩
  · have hb : (err != 0) = true := by simpa using he
    go_enter Try.func69, Try.ntmps69
    go_wp2
    go_ret
    exact ⟨by simp [rEnd, he], rfl⟩
theorem end_none (w : World) : Calls Try.prog 69 #[.pointer none] w fun e w' => e = .returned (.int .i64 1) ∧ w = w' := by
  go_enter Try.func69, Try.ntmps69
  go_wp2
  go_ret
  exact ⟨rfl, rfl⟩
end Go.Proofs.Ytccphnkdnifpfaa

