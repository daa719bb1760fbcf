/-
  Lines: the iterator's contract.
-/
import Derived.Test.YtcomcoolmabmgaaDoorL1
import Derived.RangeFuncFrom
import Derived.RangeFuncNested
import Derived.RangeFuncBound
import Derived.RangeFuncCalls
import Derived.RangeFuncLeaves
import Derived.Shelf.Abstract
import Derived.Shelf.RegionOpen
import Derived.WalkKit
import Derived.OwnWalkIn
import Derived.TacticsInMore
import Derived.LoopNIn
import Derived.LoopIn
namespace Go.Proofs.YtcomcoolmabmgaaDoor
open Go.RowKit Go.Shelf
set_option linter.unusedVariables false
set_option linter.unusedSimpArgs false
set_option maxRecDepth 100000

attribute [local go_sem] Oper.semAt_some

abbrev lencs (x : Nat × List UInt8) : Array Value := #[.int .i64 (x.1 : Int), .string (mkS x.2)]
/-- Lines with their numbers. -/
def idx (k : Nat) : List (List UInt8) → List (Nat × List UInt8)
  | [] => []
  | x :: r => (k, x) :: idx (k + 1) r
theorem idx_len : ∀ (r : List (List UInt8)) (k : Nat), (idx k r).length = r.length
  | [], _ => rfl
  | x :: r, k => by simp [idx, idx_len r (k + 1)]

set_option maxHeartbeats 2000000 in
theorem lines_stops {α : Type} (g : α → Nat × List UInt8) (X : List α) (n : Nat) (hn : 1 ≤ n) (B : Nat) (s : ByteArray) (hs : s.size ≤ 9223372036854775000) (Kp : World → World → Prop) (w : World) (hb : w.cell? ⟨B, 0, none⟩ = some (.string s)) (hBw : B < w.heap.size) (hX : X.map g = idx 0 (linesF s.data.toList)) :
    SeqStopsK Fence.wide n Tryd.prog 34 #[.pointer (some ⟨B, 0, none⟩)] (fun x => lencs (g x)) Kp (fun xs => xs = X) (fun pre => pre <+: X) X.length w := fun l J Jx W hW hJ hJx hY h0 => by
  have hB : W.cell? ⟨B, 0, none⟩ = some (.string (mkS s.data.toList)) := by rw [mkS_self]; exact (hW.cell (p := ⟨B, 0, none⟩) hBw).trans hb
  have hss : s.data.toList.length ≤ 9223372036854775000 := by rw [size_list]; exact hs
  generalize s.data.toList = L at *
  have HX := Lib.hid hX
  clear hX
  refine callsIn_of_wp Tryd.func34 rfl trivial ?_ rfl
  simp only [Tryd.ntmps34, List.size_toArray, List.length_cons, List.length_nil, Nat.reduceAdd, Nat.reduceSub, Array.replicate_succ, Array.replicate_zero, List.push_toArray, List.append_toArray, List.nil_append, List.cons_append]
  gi_wp2
  gi_loopw [3, 4] (fun r p wr => ∃ (pre post : List α) (k : Nat) (rest : List UInt8), r = .string (mkS rest) ∧ p = .int .i64 (k : Int) ∧ k + rest.length ≤ L.length ∧ Hid (X = pre ++ post) ∧ Hid (post.map g = idx k (linesF rest)) ∧ J pre wr)
    (fun r _ _ => (match r with | .string s => s.size | _ => 0))
  case atStart => exact ⟨[], X, 0, L, rfl, rfl, by omega, rfl, HX.out, h0⟩
  case round =>
    obtain ⟨pre, post, k, rest, rfl, rfl, hkr, HP, HI, hJs⟩ := hrel
    by_cases hne : rest = []
    · subst hne
      have he : (mkS ([] : List UInt8)).toList = [] := by rw [Lib.toList_data, mkS_list]
      have hpost : post = [] := by
        have := HI.out
        rw [linesF_nil] at this
        simpa [idx] using this
      have HPP : Hid (pre = X) := by rw [Hid, HP.out, hpost]; simp
      clear hpost
      gi_wp2
      go_end0
      exact ⟨⟨_, rfl⟩, .inl ⟨pre, HPP.out, hJs⟩⟩
    · have he : ((mkS rest).toList = []) = False := by rw [Lib.toList_data, mkS_list]; exact eq_false hne
      have he2 : (mkS rest).toList.isEmpty = false := by rw [Lib.toList_data, mkS_list]; cases rest with | nil => exact absurd rfl hne | cons c t => rfl
      have hII := HI.out
      rw [linesF_cons rest hne] at hII
      obtain ⟨x, post', rfl⟩ : ∃ x p', post = x :: p' := by
        cases post with
        | nil => simp [idx] at hII
        | cons x p' => exact ⟨x, p', rfl⟩
      simp only [List.map_cons, idx, List.cons.injEq] at hII
      have HN : Hid (X = (pre ++ [x]) ++ post') := by rw [Hid, HP.out]; simp
      have HG := Lib.hid hII.1
      have HI2 := Lib.hid hII.2
      have hrl := restL_len rest hne
      have hpl : pre.length < X.length := by rw [HN.out]; simp only [List.length_append, List.length_cons, List.length_nil]; omega
      have hsz : (mkS rest).size ≤ 9223372036854775000 := by rw [mkS_size]; omega
      have CC := Lib.hid (fun w => cut_calls w (mkS rest) hsz)
      simp only [mkS_list] at CC
      have hY' := Lib.hid hY
      clear hne hII
      gi_wp2_with (refine ⟨trivial, ?_⟩; gi_at_call 35; refine (callsIn_wide.2 (CC.out _)).mono ?_; rintro e w' ⟨rfl, hc⟩)
      have hJ2 : J pre w' := by
        rcases hc with rfl | rfl
        · exact hJs
        · exact hJ _ _ _ none hJs ⟨rfl, rfl, rfl, Nat.le_refl _, fun _ _ _ => rfl⟩ (fun _ h => by cases h)
      obtain ⟨fn, tmps, assign, body, hy, hR⟩ := hY'.out pre x w' hJ2 hpl
      rw [HG.out] at hy
      dsimp only [lencs] at hy
      clear hc hJs CC
      gi_wp2
      rw [hy]
      gi_wp2
      refine hR.mono ?_
      rintro e W3 (⟨rfl, hJ3, hk3⟩ | ⟨rfl, hJx3⟩)
      · clear hy hR
        gi_wp2
        go_roundw
        case rel => exact ⟨pre ++ [x], post', k + 1, restL rest, rfl, by go_num, by omega, HN.out, HI2.out, hJ3⟩
        case measure => simp only [mkS_size]; exact hrl
      · clear hy hR
        gi_wp2
        refine bodyPost_ret (results_none rfl _ _ _) rfl ?_
        exact ⟨⟨_, rfl⟩, .inr ⟨pre ++ [x], ⟨_, HN.out.symm⟩, hJx3⟩⟩

set_option maxHeartbeats 800000 in
theorem lines_calls (w : World) (s : ByteArray) : Calls Tryd.prog 17 #[.string s] w fun e w' => e = .returned (.func (.func 34) #[] #[.pointer (some ⟨w.heap.size, 0, none⟩)]) ∧ w' = w.alloc (.cells #[.string s] 9) := by
  go_enter Tryd.func17, Tryd.ntmps17
  go_wp2
  go_ret
  exact ⟨rfl, rfl⟩

section
variable {F : Fence} {nF : Nat} {P : Program} {w : World}
theorem wpListIn_app {ops : Array Oper} {rest : List Oper} {o : Oper} {a : Act} {Q : Exit → Act → World → Prop} (hgd : o.guard = none) (s x : Operand) (t tx : TypeId)
    (ho : o.op = .call { callee := .builtin .append, args := #[s, x], argTypes := #[t, tx] })
    (base : Nat) (e : TypeId) (z : Value) (size bytes : Nat) (hinfo : (P.info? e).map (fun i => (i.zero, i.size, i.bytes)) = some (some z, size, bytes)) (ht : P.underlying t = some (.slice e))
    (hzs : z.cells.size = size) (hsz : 0 < size)
    (v xv : Value) (n m : Nat) (xs news : List Value) (hs : a.eval s = v) (hx : a.eval x = xv)
    (hown : w.ownsRow base e size v n xs) (hsrc : Src P size tx xv m news w)
    (hbytes : (n + m) * bytes ≤ 140737488355328) (h63 : n + m ≤ maxLen) (hbase : base ≤ w.heap.size)
    (h : ∀ v' w', w'.ownsRow base e size v' (n + m) (xs ++ news) → w.grownBy w' v.ownBlock → wpListIn F nF P ops Q rest (a.put o.dst v') w') : wpListIn F nF P ops Q (o :: rest) a w := by
  obtain ⟨i, hi, hz0, hz1, hz2⟩ := info_parts hinfo
  refine wpListIn_plain hgd fun K hK => ?_
  obtain ⟨v', w', hr, h2, h3⟩ := run_append_own_src (P := P) w base t tx o.type e i z size bytes ht hi hz0 hz1 hz2 hzs hsz v n xs hown xv m news hsrc hbytes h63 hbase
  unfold Oper.wpIn
  refine ⟨by simp [Oper.about, ho, resolve, Target.leads, Sem.run_pure], ?_⟩
  rw [Oper.semAt_plain F _ _ (by rw [ho]; intro c hc'; cases hc')]
  simp [execOp, ho, resolve, invoke, builtin, hs, hx, hr, Result.andThen]
  exact hK _ _ (h v' w' h2 h3)
end
end Go.Proofs.YtcomcoolmabmgaaDoor
