/-
  Names: slices.Grow, slices.Concat of two rows; Join.
-/
import Derived.Test.YtkjbbidnpnecjaaDoorNm3
import Derived.Shelf.Spec.SlicesGrow
namespace Go.Proofs.YtkjbbidnpnecjaaDoor
open Go.RowKit
set_option linter.unusedVariables false
set_option linter.unusedSimpArgs false
set_option maxRecDepth 100000

theorem infoStr1 : (Tryd.prog.info? 9).map (fun i => (i.zero, i.size, i.bytes)) = some (some (.string ⟨#[]⟩), 1, 16) := by kernel_rfl
theorem grow_calls (w : World) (N : Nat) (hN : N ≤ 1000000) :
    Calls Tryd.prog 60 #[.slice none 0 0, .int .i64 (N : Int)] w fun e w' => ∃ A c, e = .returned (.slice A 0 c) ∧ OwnS w' w.heap.size (.slice A 0 c) 0 [] ∧ Chg No w w' := by
  by_cases h0 : N = 0
  · subst h0
    exact (Any8.slices_Grow_room Tryd.growS none 0 0 0 w (Nat.le_refl _) (by omega) (by omega) (Nat.le_refl _)).mono fun e w' ⟨h1, h2⟩ => by
      subst h2
      exact ⟨none, 0, h1, World.ownsRow_nil _ _ _ _, Chg.refl _ _⟩
  · obtain ⟨i0, hi, hz, hs, hb⟩ : ∃ i0 : TypeInfo, Tryd.prog.info? 9 = some i0 ∧ i0.zero = some (.string ⟨#[]⟩) ∧ i0.size = 1 ∧ i0.bytes = 16 := by
      have := infoStr1
      cases h : Tryd.prog.info? 9 with
      | none => rw [h] at this; cases this
      | some i =>
        rw [h] at this
        simp only [Option.map_some, Option.some.injEq, Prod.mk.injEq] at this
        exact ⟨i, rfl, this.1, this.2.1, this.2.2⟩
    have h := Any8.slices_Grow_grow Tryd.growS i0 (.string ⟨#[]⟩) hi hz (by omega) none 0 0 N [] w (Nat.le_refl _) (by omega) (by rw [hb]; omega) (by omega) (by simp) (fun _ => rfl) (fun a ha => by cases ha)
    have hge := grownCap_ge w (0 + N) 0 9
    have hle := grownCap_le_maxLen w (0 + N) 0 9 (by unfold maxLen; omega)
    have hrt : Tryd.growS_ren.t 25 = 9 := rfl
    rw [hrt] at h
    have h : Calls Tryd.prog 60 #[.slice none 0 0, .int .i64 (N : Int)] w fun e w' =>
      e = .returned (.slice (some ⟨w.heap.size, 0, none⟩) 0 (grownCap w (0 + N) 0 9)) ∧
      w' = w.drew.alloc (.cells (([] : List Value).toArray ++ Builtin.zeroCells (Value.string ⟨#[]⟩).cells (0 + N - 0) ++ Builtin.zeroCells (Value.string ⟨#[]⟩).cells (grownCap w (0 + N) 0 9 - (0 + N))) 9) := h
    refine h.mono fun e w' ⟨h1, h2⟩ => ?_
    subst h2
    refine ⟨_, _, h1, ⟨by simp, .inr ⟨w.heap.size, grownCap w (0 + N) 0 9, _, rfl, Nat.le_refl _, heap_alloc_new w.drew _, Nat.zero_le _, hle, ?_, by simp⟩⟩, ((Chg.refl No w).drew).alloc _⟩
    have hc : (Value.string ⟨#[]⟩).cells = #[.string ⟨#[]⟩] := rfl
    rw [hc]
    rw [Nat.zero_add] at hge ⊢
    simp only [List.size_toArray, List.length_nil, Array.size_append, Builtin.zeroCells]
    simp
    omega
theorem Src.ofStrs {w : World} {A : Option Addr} {n c : Nat} {l : List (List UInt8)} (h : Sl strv w (.slice A n c) l) : Src Tryd.prog 1 30 (.slice A n c) n (l.map strv) w := by
  have hl := h.len
  refine Src.ofHolds w Tryd.underlying30 (m := n) (by have := h; rw [Sl, hl] at this; exact this) (by rw [List.length_map, hl]; simp) (by omega) ?_
  intro u hu
  obtain ⟨x, -, rfl⟩ := List.mem_map.1 hu
  rfl
set_option maxHeartbeats 6400000 in
theorem concat_calls (w : World) (g : Nat) (A1 : Option Addr) (n1 c1 : Nat) (l1 : List (List UInt8)) (A2 : Option Addr) (n2 c2 : Nat) (l2 : List (List UInt8)) (fz : Nat × Nat) (t : TypeId)
    (hg : w.heap[g]? = some (.cells #[.slice A1 n1 c1, .slice A2 n2 c2] t fz)) (h1 : Sl strv w (.slice A1 n1 c1) l1) (h2 : Sl strv w (.slice A2 n2 c2) l2) (hn1 : n1 ≤ 100000) (hn2 : n2 ≤ 100000) :
    Calls Tryd.prog 48 #[.slice (some ⟨g, 0, none⟩) 2 2] w fun e w' => PartsR w w' e (l1 ++ l2) := by
  have HL1 := Lib.hid h1.len
  have HL2 := Lib.hid h2.len
  have H1 := Lib.hid h1
  have H2 := Lib.hid h2
  have HG := Lib.hid hg
  obtain ⟨y0, y1⟩ := heap2 hg
  clear h1 h2 hg
  go_enter Tryd.func48, Tryd.ntmps48
  go_wp2
  go_loopw [3, 11] (fun z i wr => ∃ (k : Nat), k ≤ 2 ∧ i = .int .i64 (k : Int) ∧ z = .int .i64 ((if k = 0 then 0 else if k = 1 then n1 else n1 + n2 : Nat) : Int) ∧ wr = w) (fun _ i _ => 2 - (intOf i).toNat)
  case atStart => exact ⟨0, by omega, rfl, rfl, rfl⟩
  case round =>
    obtain ⟨k, hk, rfl, rfl, hwr⟩ := hrel
    have hwr2 := hwr.symm
    clear hwr
    subst hwr2
    obtain rfl | rfl | rfl : k = 0 ∨ k = 1 ∨ k = 2 := by omega
    · have hnn : ¬ (n1 : Int) < 0 := by omega
      go_wp2
      go_roundw
      case rel => exact ⟨1, by omega, by first | rfl | simp, by first | rfl | simp, by first | rfl | trivial⟩
      case measure => first | (simp [intOf]; done) | (simp [intOf]; omega) | omega | decide
    · have hnn : ¬ ((n1 : Int) + (n2 : Int)) < 0 := by omega
      have hkk : (((if (1 : Nat) = 0 then 0 else if (1 : Nat) = 1 then n1 else n1 + n2 : Nat)) : Int) = (n1 : Int) := by simp
      rw [hkk]
      go_wp2
      go_roundw
      case rel => exact ⟨2, by omega, by first | rfl | simp, by first | rfl | simp | (simp; omega), by first | rfl | trivial⟩
      case measure => first | (simp [intOf]; done) | (simp [intOf]; omega) | omega | decide
    · have hkk : (((if (2 : Nat) = 0 then 0 else if (2 : Nat) = 1 then n1 else n1 + n2 : Nat)) : Int) = ((n1 + n2 : Nat) : Int) := by simp
      rw [hkk]
      have HGR := Lib.hid (grow_calls w (n1 + n2) (by omega))
      generalize hm : n1 + n2 = m at *
      go_wp2_with fail
      refine HGR.out.mono ?_
      rintro e w1 ⟨A, c, rfl, ho, hc1⟩
      have HO := Lib.hid ho
      have HC := Lib.hid hc1
      have HGG := Lib.hid (hc1.heap HG.out (fun x => x))
      clear ho hc1 y0 y1
      go_wp2
      go_loopw [6, 27] (fun v i w2 => ∃ (k : Nat) (A : Option Addr) (n c : Nat) (l : List (List UInt8)), k ≤ 2 ∧ i = .int .i64 (k : Int) ∧ v = .slice A n c ∧ n ≤ 200000 ∧ Hid (l.length = n) ∧ Hid (l = if k = 0 then [] else if k = 1 then l1 else l1 ++ l2) ∧ Hid (OwnS w2 w.heap.size (.slice A n c) n l) ∧ Hid (w2.heap[g]? = some (.cells #[.slice A1 n1 c1, .slice A2 n2 c2] t fz)) ∧ Hid (Chg No w w2)) (fun _ i _ => 2 - (intOf i).toNat)
      case atStart => exact ⟨0, A, 0, c, [], by omega, rfl, rfl, by omega, rfl, rfl, HO.out, HGG.out, HC.out⟩
      case round =>
        obtain ⟨k, A, n, c, l, hk, rfl, rfl, hn, HLN, HLL, HO2, HG2, HC2⟩ := hrel
        clear HO HC HGG
        obtain ⟨y0, y1⟩ := heap2 HG2.out
        obtain rfl | rfl | rfl : k = 0 ∨ k = 1 ∨ k = 2 := by omega
        · have HE : Hid (l = []) := HLL.out
          have HN0 : Hid (n = 0) := by rw [Hid, ← HLN.out, HE.out]; rfl
          have src8 := Lib.hid (Src.ofStrs (H1.out.no HC2.out))
          go_wp2_with (at_builtin; (refine wpList_app2 rfl (.tmp 31) (.tmp 32) 30 30 rfl w.heap.size 9 (.string ⟨#[]⟩) 1 16 infoStr1 Tryd.underlying30 rfl (by decide) (.slice A n c) (.slice A1 n1 c1) n n1 (l.map strv) (l1.map strv) rfl rfl ?own ?src ?b1 ?b2 ?b3 ?_; (case own => exact HO2.out); (case src => exact src8.out); (case b1 => omega); (case b2 => unfold maxLen; omega); (case b3 => exact HC2.out.size); intro v8 w8 hown8 hg8 hfrom8; refine Hid.out ?_))
          refine Lib.hid ?_
          obtain ⟨A8, c8, rfl⟩ := ownsRow_form hown8
          have HO8 : Hid (OwnS w8 w.heap.size (.slice A8 (n + n1) c8) (n + n1) l1) := by rw [Hid, OwnS, show l1.map strv = l.map strv ++ l1.map strv by rw [HE.out]; rfl]; exact hown8
          have HC8 : Hid (Chg No w w8) := HC2.out.grown hg8 (fun q hq => .inl (World.ownsRow.lt HO2.out q hq).1)
          have HG8 : Hid (w8.heap[g]? = some (.cells #[.slice A1 n1 c1, .slice A2 n2 c2] t fz)) := HC8.out.heap HG.out (fun x => x)
          clear hown8 hg8 hfrom8 src8
          go_wp2
          go_roundw
          case rel => exact ⟨1, _, _, _, l1, by omega, by first | rfl | simp, rfl, by have := HN0.out; omega, by have := HN0.out; rw [Hid, HL1.out]; omega, rfl, HO8.out, HG8.out, HC8.out⟩
          case measure => first | (simp [intOf]; done) | (simp [intOf]; omega) | omega | decide
        · have HE : Hid (l = l1) := HLL.out
          have HN0 : Hid (n = n1) := by rw [Hid, ← HLN.out, HE.out]; exact HL1.out
          have src8 := Lib.hid (Src.ofStrs (H2.out.no HC2.out))
          go_wp2_with (at_builtin; (refine wpList_app2 rfl (.tmp 31) (.tmp 32) 30 30 rfl w.heap.size 9 (.string ⟨#[]⟩) 1 16 infoStr1 Tryd.underlying30 rfl (by decide) (.slice A n c) (.slice A2 n2 c2) n n2 (l.map strv) (l2.map strv) rfl rfl ?own ?src ?b1 ?b2 ?b3 ?_; (case own => exact HO2.out); (case src => exact src8.out); (case b1 => omega); (case b2 => unfold maxLen; omega); (case b3 => exact HC2.out.size); intro v8 w8 hown8 hg8 hfrom8; refine Hid.out ?_))
          refine Lib.hid ?_
          obtain ⟨A8, c8, rfl⟩ := ownsRow_form hown8
          have HO8 : Hid (OwnS w8 w.heap.size (.slice A8 (n + n2) c8) (n + n2) (l1 ++ l2)) := by rw [Hid, OwnS, List.map_append, ← HE.out]; exact hown8
          have HC8 : Hid (Chg No w w8) := HC2.out.grown hg8 (fun q hq => .inl (World.ownsRow.lt HO2.out q hq).1)
          have HG8 : Hid (w8.heap[g]? = some (.cells #[.slice A1 n1 c1, .slice A2 n2 c2] t fz)) := HC8.out.heap HG.out (fun x => x)
          clear hown8 hg8 hfrom8 src8
          go_wp2
          go_roundw
          case rel => exact ⟨2, _, _, _, l1 ++ l2, by omega, by first | rfl | simp, rfl, by have := HN0.out; omega, by have := HN0.out; rw [Hid, List.length_append, HL1.out, HL2.out]; omega, rfl, HO8.out, HG8.out, HC8.out⟩
          case measure => first | (simp [intOf]; done) | (simp [intOf]; omega) | omega | decide
        · have HE : Hid (l = l1 ++ l2) := HLL.out
          go_wp2
          go_ret
          exact ⟨_, _, _, rfl, by rw [← HE.out]; exact HLN.out, by rw [← HE.out]; exact HO2.out, HC2.out⟩
end Go.Proofs.YtkjbbidnpnecjaaDoor
