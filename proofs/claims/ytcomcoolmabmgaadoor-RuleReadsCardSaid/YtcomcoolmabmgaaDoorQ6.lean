/-
  The reference's Piece.
-/
import Derived.Test.YtcomcoolmabmgaaDoorPcs
import Derived.Test.YtcomcoolmabmgaaDoorQ5
namespace Go.Proofs.YtcomcoolmabmgaaDoor
open Go.RowKit
set_option linter.unusedVariables false
set_option linter.unusedSimpArgs false

set_option maxRecDepth 100000 in
set_option maxHeartbeats 1600000 in
theorem piece_calls (w : World) (s : ByteArray) (hs : s.size ≤ 9223372036854775000) (pos : Nat) (hp : pos < s.size) :
    Calls Tryd.prog 64 #[.string s, .int .i64 (pos : Int)] w fun e w' => e = .returned (.tuple #[.int .i64 ((decL (s.data.toList.drop pos)).2 : Int), .bool (brk (s.data.toList.drop pos)), .int .i32 ((decL (s.data.toList.drop pos)).1 : Int)]) ∧ Chg No w w' := by
  have hl := drop_ne hp
  obtain ⟨f1, f2, f3⟩ := decL_facts _ hl
  have HEN := Lib.hid (enc_piece _ hl)
  have HONE := Lib.hid (brk_one (s.data.toList.drop pos))
  have hxl := extract_list s pos
  have hx0 : 0 < (s.extract pos s.size).size := by rw [← size_list, hxl, List.length_drop, size_list]; omega
  have hx3 := ext3_list s pos
  have hb3 : ((s.extract pos (pos + 3)).toList == [239, 191, 189]) = ([239, 191, 189] : List UInt8).isPrefixOf (s.data.toList.drop pos) := by rw [hx3, take3_pre]
  have HTL : Hid (((s.data.toList.drop pos).take (decL (s.data.toList.drop pos)).2).length = (decL (s.data.toList.drop pos)).2) := by
    rw [Hid, List.length_take]; omega
  have hpre : ([239, 191, 189] : List UInt8).isPrefixOf (s.data.toList.drop pos) = true → 3 ≤ s.size - pos ∧ decL (s.data.toList.drop pos) = (65533, 3) := by
    intro h
    refine ⟨?_, pre_fffd h⟩
    have := (List.isPrefixOf_iff_prefix.1 h).length_le
    rw [List.length_drop, size_list] at this
    simpa using this
  have hnx := fun ty => Lib.run_next_any_at (P := Tryd.prog) (w.iter (s.extract pos s.size) 0) w.heap.size (s.extract pos s.size) 0 ty (World.iter_heap _ _ _) hx0
  rw [decode_drop, hxl, List.drop_zero] at hnx
  have hpi : (pos : Int) ≤ (s.size : Int) := by omega
  have HCH : Hid (∀ p, Chg No w ((w.iter (s.extract pos s.size) 0).iterAt w.heap.size (s.extract pos s.size) p)) := fun p => Chg.iterAt ((Chg.refl No w).alloc _) (Nat.le_refl _) _ _
  have hbk : brk (s.data.toList.drop pos) = ((decL (s.data.toList.drop pos)).1 == 0xFFFD && !([239, 191, 189] : List UInt8).isPrefixOf (s.data.toList.drop pos)) := rfl
  generalize hpp : ([239, 191, 189] : List UInt8).isPrefixOf (s.data.toList.drop pos) = pp at *
  generalize brk (s.data.toList.drop pos) = bk at *
  generalize (s.data.toList.drop pos).take (decL (s.data.toList.drop pos)).2 = bs at *
  generalize decL (s.data.toList.drop pos) = D at *
  obtain ⟨r, k⟩ := D
  simp only at f1 f2 f3 hnx HEN HONE HTL hbk hpre
  clear hl hxl hx3 hpp
  by_cases hr : r = 65533
  · subst hr
    cases pp with
    | true =>
      obtain ⟨h3, h4⟩ := hpre rfl
      have h5 : k = 3 := by simpa using h4
      subst h5
      have hbk' : bk = false := by rw [hbk]; rfl
      subst hbk'
      have h3' : (3 : Int) ≤ (s.size : Int) - (pos : Int) := by omega
      have h3'' : (pos : Int) + 3 ≤ (s.size : Int) := by omega
      clear hpre h4 hbk
      go_enter Tryd.func64, Tryd.ntmps64
      go_wp2
      go_loopw [] (fun wr => wr = w.iter (s.extract pos s.size) 0) (fun wr => 0)
      case atStart => rfl
      case round =>
        subst hrel
        go_wp2
        go_ret3
        exact ⟨rfl, HCH.out _⟩
    | false =>
      have hbk' : bk = true := by rw [hbk]; rfl
      subst hbk'
      have h4 := HONE.out rfl
      have h5 : k = 1 := by simpa using h4
      subst h5
      clear hpre h4 hbk HONE HEN
      by_cases h3 : 3 ≤ s.size - pos
      · have h3' : (3 : Int) ≤ (s.size : Int) - (pos : Int) := by omega
        have h3'' : (pos : Int) + 3 ≤ (s.size : Int) := by omega
        go_enter Tryd.func64, Tryd.ntmps64
        go_wp2
        go_loopw [] (fun wr => wr = w.iter (s.extract pos s.size) 0) (fun wr => 0)
        case atStart => rfl
        case round =>
          subst hrel
          go_wp2
          go_ret3
          exact ⟨rfl, HCH.out _⟩
      · have h3' : (s.size : Int) - (pos : Int) < 3 := by omega
        go_enter Tryd.func64, Tryd.ntmps64
        go_wp2
        go_loopw [] (fun wr => wr = w.iter (s.extract pos s.size) 0) (fun wr => 0)
        case atStart => rfl
        case round =>
          subst hrel
          go_wp2
          go_ret3
          exact ⟨rfl, HCH.out _⟩
  · have hbk' : bk = false := by rw [hbk]; simp [hr]
    subst hbk'
    have hE : Utf8.encode (r : Int) = mkS bs := HEN.out rfl
    have hr' : ((r : Int) == 65533) = false := by simp; omega
    clear hpre hbk HONE HEN hr
    go_enter Tryd.func64, Tryd.ntmps64
    go_wp2
    go_loopw [] (fun wr => wr = w.iter (s.extract pos s.size) 0) (fun wr => 0)
    case atStart => rfl
    case round =>
      subst hrel
      go_wp2
      go_ret3
      exact ⟨by rw [← HTL.out, ← mkS_size]; rfl, HCH.out _⟩
end Go.Proofs.YtcomcoolmabmgaaDoor
