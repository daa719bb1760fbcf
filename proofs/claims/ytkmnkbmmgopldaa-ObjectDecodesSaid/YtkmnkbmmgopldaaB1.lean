/-
  Objects: kinds, assertions, blobs; wakes.
-/
import Derived.Test.YtkmnkbmmgopldaaRep5
import Derived.Test.YtkmnkbmmgopldaaOct8
import Derived.Test.YtkmnkbmmgopldaaOct6
import Derived.Test.YtkmnkbmmgopldaaOwn
import Derived.Lib.SmallJoins
import Derived.Lib.Strings
import Derived.RangeFuncBox
namespace Go.Proofs.Ytkmnkbmmgopldaa
open Go.RowKit
set_option linter.unusedVariables false
set_option linter.unusedSimpArgs false
set_option maxRecDepth 100000

theorem zero_blob (w : World) : Sem.run Try.prog (zeroValue 40) w = .ok (.agg #[.slice none 0 0]) w := by
  first | rfl | (simp [go_sem]; done) | exact Try.zeroValue40 w
theorem zero_tree (w : World) : Sem.run Try.prog (zeroValue 33) w = .ok (.agg #[.slice none 0 0]) w := by
  first | rfl | (simp [go_sem]; done) | exact Try.zeroValue33 w
theorem zero_commit (w : World) : Sem.run Try.prog (zeroValue 27) w = .ok (.agg #[.int .u64 0, .slice none 0 0, .string ⟨#[]⟩, .int .i64 0, .string ⟨#[]⟩]) w := by
  first | rfl | (simp [go_sem]; done) | exact Try.zeroValue27 w
theorem ta_blob_blob (w : World) (v : Value) : Sem.run Try.prog (Instr.typeAssert (.iface 40 v) 48 40 true) w = .ok (.tuple #[v, .bool true]) w := by
  simp [Instr.typeAssert, run_underlying Try.underlying40, Sem.run_bind, Sem.run_pure, Result.andThen]
theorem ta1_blob_blob (w : World) (v : Value) : Sem.run Try.prog (Instr.typeAssert (.iface 40 v) 48 40 false) w = .ok v w := by
  simp [Instr.typeAssert, run_underlying Try.underlying40, Sem.run_bind, Sem.run_pure, Result.andThen]
theorem ta_blob_tree (w : World) (v : Value) : Sem.run Try.prog (Instr.typeAssert (.iface 40 v) 48 33 true) w = .ok (.tuple #[.agg #[.slice none 0 0], .bool false]) w := by
  simp [Instr.typeAssert, run_underlying Try.underlying33, zero_tree, Sem.run_bind, Sem.run_pure, Result.andThen]
theorem ta_blob_commit (w : World) (v : Value) : Sem.run Try.prog (Instr.typeAssert (.iface 40 v) 48 27 true) w = .ok (.tuple #[.agg #[.int .u64 0, .slice none 0 0, .string ⟨#[]⟩, .int .i64 0, .string ⟨#[]⟩], .bool false]) w := by
  simp [Instr.typeAssert, run_underlying Try.underlying27, zero_commit, Sem.run_bind, Sem.run_pure, Result.andThen]
theorem ta_tree_blob (w : World) (v : Value) : Sem.run Try.prog (Instr.typeAssert (.iface 33 v) 48 40 true) w = .ok (.tuple #[.agg #[.slice none 0 0], .bool false]) w := by
  simp [Instr.typeAssert, run_underlying Try.underlying40, zero_blob, Sem.run_bind, Sem.run_pure, Result.andThen]
theorem ta_tree_tree (w : World) (v : Value) : Sem.run Try.prog (Instr.typeAssert (.iface 33 v) 48 33 true) w = .ok (.tuple #[v, .bool true]) w := by
  simp [Instr.typeAssert, run_underlying Try.underlying33, Sem.run_bind, Sem.run_pure, Result.andThen]
theorem ta1_tree_tree (w : World) (v : Value) : Sem.run Try.prog (Instr.typeAssert (.iface 33 v) 48 33 false) w = .ok v w := by
  simp [Instr.typeAssert, run_underlying Try.underlying33, Sem.run_bind, Sem.run_pure, Result.andThen]
theorem ta_tree_commit (w : World) (v : Value) : Sem.run Try.prog (Instr.typeAssert (.iface 33 v) 48 27 true) w = .ok (.tuple #[.agg #[.int .u64 0, .slice none 0 0, .string ⟨#[]⟩, .int .i64 0, .string ⟨#[]⟩], .bool false]) w := by
  simp [Instr.typeAssert, run_underlying Try.underlying27, zero_commit, Sem.run_bind, Sem.run_pure, Result.andThen]
theorem ta_commit_blob (w : World) (v : Value) : Sem.run Try.prog (Instr.typeAssert (.iface 27 v) 48 40 true) w = .ok (.tuple #[.agg #[.slice none 0 0], .bool false]) w := by
  simp [Instr.typeAssert, run_underlying Try.underlying40, zero_blob, Sem.run_bind, Sem.run_pure, Result.andThen]
theorem ta_commit_tree (w : World) (v : Value) : Sem.run Try.prog (Instr.typeAssert (.iface 27 v) 48 33 true) w = .ok (.tuple #[.agg #[.slice none 0 0], .bool false]) w := by
  simp [Instr.typeAssert, run_underlying Try.underlying33, zero_tree, Sem.run_bind, Sem.run_pure, Result.andThen]
theorem ta_commit_commit (w : World) (v : Value) : Sem.run Try.prog (Instr.typeAssert (.iface 27 v) 48 27 true) w = .ok (.tuple #[v, .bool true]) w := by
  simp [Instr.typeAssert, run_underlying Try.underlying27, Sem.run_bind, Sem.run_pure, Result.andThen]
theorem ta1_commit_commit (w : World) (v : Value) : Sem.run Try.prog (Instr.typeAssert (.iface 27 v) 48 27 false) w = .ok v w := by
  simp [Instr.typeAssert, run_underlying Try.underlying27, Sem.run_bind, Sem.run_pure, Result.andThen]
theorem ta_nil_blob (w : World) : Sem.run Try.prog (Instr.typeAssert .nilIface 48 40 true) w = .ok (.tuple #[.agg #[.slice none 0 0], .bool false]) w := by
  simp [Instr.typeAssert, run_underlying Try.underlying40, zero_blob, Sem.run_bind, Sem.run_pure, Result.andThen]
theorem ta_nil_tree (w : World) : Sem.run Try.prog (Instr.typeAssert .nilIface 48 33 true) w = .ok (.tuple #[.agg #[.slice none 0 0], .bool false]) w := by
  simp [Instr.typeAssert, run_underlying Try.underlying33, zero_tree, Sem.run_bind, Sem.run_pure, Result.andThen]
theorem ta_nil_commit (w : World) : Sem.run Try.prog (Instr.typeAssert .nilIface 48 27 true) w = .ok (.tuple #[.agg #[.int .u64 0, .slice none 0 0, .string ⟨#[]⟩, .int .i64 0, .string ⟨#[]⟩], .bool false]) w := by
  simp [Instr.typeAssert, run_underlying Try.underlying27, zero_commit, Sem.run_bind, Sem.run_pure, Result.andThen]

abbrev blobV (v : Value) : Value := .iface 40 (.agg #[v])
abbrev treeV (v : Value) : Value := .iface 33 (.agg #[v])
abbrev commitV (t : Int) (ps : Value) (a : ByteArray) (d : Int) (x : ByteArray) : Value := .iface 27 (.agg #[.int .u64 t, ps, .string a, .int .i64 d, .string x])

set_option maxHeartbeats 800000 in
theorem check_blob (w : World) (A : Option Addr) (n c : Nat) : Calls Try.prog 14 #[blobV (.slice A n c)] w fun e w' => e = .returned (.int .i64 (if 4096 < n then 3 else 0)) ∧ Chg No w w' := by
  have fb := fun w => ta_blob_blob w
  have ft := fun w => ta_blob_tree w
  have fc := fun w => ta_blob_commit w
  by_cases h : 4096 < n
  · have t0 : (4096 : Int) < (n : Int) := by omega
    go_enter Try.func14, Try.ntmps14
    go_wp2
    go_ret
    exact ⟨rfl, (Chg.refl No w).alloc _⟩
  · have t0 : ¬ (4096 : Int) < (n : Int) := by omega
    go_enter Try.func14, Try.ntmps14
    go_wp2
    go_ret
    exact ⟨rfl, (Chg.refl No w).alloc _⟩
theorem tree_zero (w : World) (A : Option Addr) (c : Nat) : Calls Try.prog 40 #[.slice A 0 c] w fun e w' => e = .returned (.int .i64 0) ∧ Chg No w w' := by
  go_enter Try.func40, Try.ntmps40
  go_wp2
  go_loopw [12] (fun i wr => i = .int .i64 0 ∧ Chg No w wr) (fun i _ => 0)
  case atStart => exact ⟨rfl, Chg.refl _ _⟩
  case round =>
    obtain ⟨rfl, HC⟩ := hrel
    go_wp2
    go_ret
    exact ⟨rfl, HC⟩
set_option maxHeartbeats 800000 in
theorem check_tree0 (w : World) (A : Option Addr) (c : Nat) : Calls Try.prog 14 #[treeV (.slice A 0 c)] w fun e w' => e = .returned (.int .i64 0) ∧ Chg No w w' := by
  have fb := fun w => ta_tree_blob w
  have ft := fun w => ta_tree_tree w
  have fc := fun w => ta_tree_commit w
  go_enter Try.func14, Try.ntmps14
  go_wp2_with fail
  refine (tree_zero _ A c).mono ?_
  rintro e w1 ⟨rfl, hc⟩
  go_wp2
  go_ret
  exact ⟨rfl, ((Chg.refl No w).alloc _).no hc⟩
theorem kind_blob (w : World) (v : Value) : Calls Try.prog 23 #[blobV v] w fun e w' => e = .returned (.int .i64 1) ∧ w' = w := by
  have fb := fun w => ta_blob_blob w
  have ft := fun w => ta_blob_tree w
  have fc := fun w => ta_blob_commit w
  go_enter Try.func23, Try.ntmps23
  go_wp2
  go_ret
  exact ⟨rfl, rfl⟩
theorem kind_tree (w : World) (v : Value) : Calls Try.prog 23 #[treeV v] w fun e w' => e = .returned (.int .i64 2) ∧ w' = w := by
  have fb := fun w => ta_tree_blob w
  have ft := fun w => ta_tree_tree w
  have fc := fun w => ta_tree_commit w
  go_enter Try.func23, Try.ntmps23
  go_wp2
  go_ret
  exact ⟨rfl, rfl⟩
theorem kind_commit (w : World) (t : Int) (ps : Value) (a : ByteArray) (d : Int) (x : ByteArray) : Calls Try.prog 23 #[commitV t ps a d x] w fun e w' => e = .returned (.int .i64 3) ∧ w' = w := by
  have fb := fun w => ta_commit_blob w
  have ft := fun w => ta_commit_tree w
  have fc := fun w => ta_commit_commit w
  go_enter Try.func23, Try.ntmps23
  go_wp2
  go_ret
  exact ⟨rfl, rfl⟩

set_option maxHeartbeats 1600000 in
theorem encode_blob (w : World) (A : Option Addr) (n c : Nat) (xs : List UInt8) (hb : Bytes w (.slice A n c) xs) (hl : xs.length = n) (hn : n ≤ 4096) :
    Calls Try.prog 21 #[blobV (.slice A n c)] w fun e w' => ∃ v, e = .returned (.tuple #[v, .int .i64 0]) ∧ OwnB w' w.heap.size v (98 :: xs) ∧ Chg No w w' := by
  have fb := fun w => ta_blob_blob w
  have ft := fun w => ta_blob_tree w
  have fc := fun w => ta_blob_commit w
  have HB := Lib.hid hb
  have HL := Lib.hid hl
  clear hb hl
  go_enter Try.func21, Try.ntmps21
  go_wp2_with fail
  refine (check_blob w A n c).mono ?_
  rintro e w1 ⟨rfl, hc1⟩
  rw [if_neg (by omega)]
  have HC1 := Lib.hid hc1
  clear hc1
  have hs1 := HC1.out.size
  have hlit := OwnB.lit ((w1.alloc (.cells #[.slice none 0 0] 38)).alloc (.cells #[.slice A n c] 40)) [98] (by unfold maxLen; decide)
  simp only [World.size_alloc] at hlit
  have HLIT := Lib.hid hlit
  clear hlit
  go_wp2_with (at_builtin; (refine wpList_app2 rfl (.tmp 26) (.tmp 28) 38 38 rfl w.heap.size 5 (.int .u8 0) 1 1 infoU8 Try.underlying38 rfl (by decide) (.slice (some ⟨w1.heap.size + 1 + 1, 0, none⟩) 1 1) (.slice A n c) 1 n (u8s [98]) (u8s xs) rfl rfl ?own ?src ?b1 ?b2 ?b3 ?_; (case own => exact OwnB.n (OwnB.mono HLIT.out (by omega)) rfl); (case src => exact Src.ofBytes Try.underlying38 (HB.out.no (((HC1.out.alloc _).alloc _).alloc _)) HL.out); (case b1 => omega); (case b2 => unfold maxLen; omega); (case b3 => simp; omega); intro vb w4 hown4 hg4 hfrom4; refine Hid.out ?_))
  refine Lib.hid ?_
  have hO4 : OwnB w4 w.heap.size vb (98 :: xs) := OwnB.of hown4 (by simp [u8s])
  have hC4 : Chg No w w4 := (((HC1.out.alloc _).alloc _).alloc _).grown hg4 (fun k hk => by simp [Value.ownBlock] at hk; left; omega)
  obtain ⟨AB, nb, cb, rfl, HLB, HOB⟩ := hO4.form
  have HC4 := Lib.hid hC4
  clear hO4 hown4 hg4 hfrom4 hC4
  go_wp2
  go_ret2
  exact ⟨_, rfl, HOB.out, HC4.out⟩

theorem Bytes.litMark {w : World} {xs : List UInt8} {t : TypeId} {m : Nat × Nat} (n c : Nat) (hn : n = xs.length) (hc : n ≤ c) (hm : c ≤ maxLen) : Bytes (w.alloc (.cells (u8s xs).toArray t m)) (.slice (some ⟨w.heap.size, 0, none⟩) n c) xs := by
  subst hn
  refine ⟨_, _, rfl, hc, hm, fun _ => ⟨w.heap.size, 0, rfl, fun j u hj => ?_⟩⟩
  rw [Nat.zero_add]
  unfold World.cell? World.alloc
  simpa using hj

set_option maxHeartbeats 1600000 in
theorem decode_tz (w : World) (A : Option Addr) (c : Nat) (hb : Bytes w (.slice A 2 c) [116, 0]) :
    Calls Try.prog 20 #[.slice A 2 c] w fun e w' => e = .returned (.tuple #[treeV (.slice none 0 0), .int .i64 0]) ∧ Chg No w w' := by
  have HB := Lib.hid hb
  clear hb
  go_enter Try.func20, Try.ntmps20
  go_wp2_with fail
  refine (read_calls w A 2 c [116, 0] HB.out (by omega)).mono ?_
  rintro e w' ⟨w1, v, rfl, rfl, hown, hc⟩
  obtain ⟨d, hd, hr⟩ := RdrAt.made hown hc.size
  have hsz := hc.size
  have HC := Lib.hid ((hc.alloc (.cells #[.bool true, v, .int .i64 0] 118)))
  clear hown hc
  generalize w1.alloc (.cells #[.bool true, v, .int .i64 0] 118) = w2 at *
  generalize w1.heap.size = g at *
  go_wp2_with fail
  refine (byte_calls w2 g d _ hr).mono ?_
  rintro e w3 ⟨rfl, hr3, hc3⟩
  rw [show rByte ⟨[116, 0], 0⟩ = (116, ⟨[0], 0⟩) from rfl] at *
  have HC3 : Hid (Chg No w w3) := HC.out.one hc3 (.inl hsz)
  clear hc3 hr HC
  go_wp2_with fail
  refine (uint_calls _ g d _ (hr3.no ((Chg.refl No w3).alloc _)) (by simp)).mono ?_
  rintro e w4 ⟨rfl, hr4, hc4⟩
  rw [show rUint ⟨[0], 0⟩ = (0, ⟨[], 0⟩) from by decide] at *
  have hb4 : w4.cell? ⟨w3.heap.size, 0, none⟩ = some (.slice none 0 0) := by
    have h := (Boxed.new w3 33 (.slice none 0 0))
    have hg := hr3.lt
    exact Boxed.cell (hc4.heap h (fun e => by have e : w3.heap.size = g := e; omega))
  have HC4 : Hid (Chg No w w4) := (HC3.out.alloc _).one hc4 (.inl hsz)
  have HR4 := Lib.hid hr4
  clear hc4 hr3 HC3 hr4
  go_wp2
  go_loopw [7] (fun i wr => i = .int .u64 0 ∧ wr = w4) (fun i _ => 0)
  case atStart => exact ⟨rfl, rfl⟩
  case round =>
    obtain ⟨rfl, rfl⟩ := hrel
    go_wp2_with fail
    refine (end_calls _ g d _ HR4.out).mono ?_
    rintro e w5 ⟨rfl, rfl⟩
    rw [show rEnd ⟨[], 0⟩ = 0 from rfl] at *
    go_wp2_with fail
    refine (check_tree0 _ none 0).mono ?_
    rintro e w6 ⟨rfl, hc6⟩
    go_wp2
    go_ret2
    exact ⟨rfl, HC4.out.no hc6⟩
theorem astree_tree (w : World) (A : Option Addr) (n c : Nat) : Calls Try.prog 34 #[treeV (.slice A n c)] w fun e w' => e = .returned (.tuple #[.agg #[.slice A n c], .bool true]) ∧ Chg No w w' := by
  have ft := fun w => ta_tree_tree w
  go_enter Try.func34, Try.ntmps34
  go_wp2
  exact bodyPost_ret (v := .tuple #[.agg #[.slice A n c], .bool true]) (by simp [results, Try.results34, go_sem]) rfl ⟨rfl, ((Chg.refl No w).alloc _).alloc _⟩

set_option maxHeartbeats 1600000 in
theorem wakes_calls (w : World) : Calls Try.prog 13 #[] w fun e w' => e = .returned (.bool true) ∧ Chg No w w' := by
  have kc := fun (w : World) (C : Array Value) (n c : Nat) => Lib.run_convert_bytes_const (P := Try.prog) w 38 5 C n c Try.underlying38 Try.underlying5
  go_enter Try.func13, Try.ntmps13
  go_wp2_with fail
  refine (encode_blob _ _ 1 1 [97] (Bytes.litMark 1 1 rfl (Nat.le_refl _) (by unfold maxLen; omega)) rfl (by omega)).mono ?_
  rintro e w1 ⟨v1, rfl, ho1, hc1⟩
  obtain ⟨A1, n1, c1, rfl, HL1, HO1⟩ := ho1.form
  have HC1 := Lib.hid (((Chg.refl No w).alloc _).no hc1)
  clear ho1 hc1
  go_wp2_with fail
  refine (decode_tz _ _ 2 (Bytes.litMark 2 2 rfl (Nat.le_refl _) (by unfold maxLen; omega))).mono ?_
  rintro e w2 ⟨rfl, hc2⟩
  have HC2 := Lib.hid ((HC1.out.alloc _).no hc2)
  have HC12 := Lib.hid (((Chg.refl No w1).alloc _).no hc2)
  clear hc2
  go_wp2_with fail
  refine (astree_tree w2 _ _ _).mono ?_
  rintro e w3 ⟨rfl, hc3⟩
  have HC3 := Lib.hid (HC2.out.no hc3)
  have ht1 := fun o => ((HO1.out.bytes.no (HC12.out.no hc3)).no ((Chg.refl No w3).alloc o)).text (P := Try.prog) (src := 38) (dst := 9) Try.underlying38 Try.underlying5 Try.underlying9
  have hbe : ((mkS [98, 97]).toList == [98, 97]) = true := by rw [Lib.toList_data, mkS_list]; decide
  clear hc3
  go_wp2_with (go_at_call 23; refine (kind_tree _ _).mono ?_; rintro e w' ⟨rfl, rfl⟩)
  go_ret
  exact ⟨rfl, HC3.out.alloc _⟩
end Go.Proofs.Ytkmnkbmmgopldaa
