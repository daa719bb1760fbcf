/-
  NameParts: the walk: a path falls into its names, as a list and one by one.
-/
import Derived.Test.YtkjbbidnpnecjaaDoorNm16
import Derived.Test.YtkjbbidnpnecjaaDoorNm7
namespace Go.Proofs.YtkjbbidnpnecjaaDoor
open Go.RowKit Go.Shelf
set_option linter.unusedVariables false
set_option linter.unusedSimpArgs false
set_option maxRecDepth 100000

attribute [local go_sem] Oper.semAt_some

/-- What lies through all rounds. -/
def npF (w : World) (xp : ByteArray) (B2 B4 BP nn c : Nat) (A : Option Addr) (L : List (List UInt8)) (Ds : List Nat) (W : World) : Prop :=
  Boxed W B2 4 (.bool false) ∧ Boxed W B4 30 (.slice A nn c) ∧ OwnS W w.heap.size (.slice A nn c) nn L ∧ Boxed W BP 9 (.string xp) ∧ (∀ D ∈ Ds, w.heap.size ≤ D ∧ W.heap[D]? = some (.deferred (some []))) ∧ Below w.heap.size w W
def npI (w : World) (xp : ByteArray) (z : Int) (B2 B4 BP nn c : Nat) (A : Option Addr) (L : List (List UInt8)) (a : Act) (W : World) : Prop := ∃ (i : Nat) (Ds : List Nat) (u : Nat → Value), i ≤ 2 ∧ a = { tmps := #[.string xp, u 1, .pointer (some ⟨B2, 0, none⟩), .int .i64 z, .pointer (some ⟨B4, 0, none⟩), u 5, u 6, u 7, u 8, .func (.func 50) #[] #[.pointer (some ⟨BP, 0, none⟩)], .int .i64 (i : Int), u 11, u 12, u 13, u 14, u 15, u 16, u 17, u 18, u 19, u 20, u 21, u 22, u 23, u 24, u 25, u 26, u 27, u 28, u 29, u 30, u 31, u 32, u 33, u 34, u 35, u 36, u 37, u 38, u 39, u 40, u 41, u 42, u 43, u 44, u 45, u 46, u 47, u 48, u 49, u 50, u 51, u 52, u 53, u 54, u 55, u 56, u 57, u 58, u 59, u 60, u 61, u 62, u 63, u 64, u 65, u 66, u 67, u 68, u 69, u 70, u 71, u 72, u 73, u 74, u 75, u 76, u 77, u 78, u 79, u 80, u 81, u 82, u 83, u 84, u 85, u 86, u 87, u 88, u 89, u 90, u 91, u 92, u 93, u 94, u 95, u 96, u 97, u 98, u 99, u 100, u 101, u 102, u 103, u 104, u 105, u 106], defers := Ds.map (fun D => ({ target := .collected D, args := #[] } : Deferred)) } ∧ Ds.Nodup ∧ npF w xp B2 B4 BP nn c A L Ds W
theorem npI_intro {w : World} {xp : ByteArray} {z : Int} {B2 B4 BP nn c : Nat} {A : Option Addr} {L : List (List UInt8)} {W : World} (a : Act) (i : Nat) (Ds : List Nat) (hi : i ≤ 2) (hN : a.tmps.size = 107) (hd : a.defers = Ds.map (fun D => ({ target := .collected D, args := #[] } : Deferred)))
    (h0 : a.tmps.getD 0 undef = .string xp) (h2 : a.tmps.getD 2 undef = .pointer (some ⟨B2, 0, none⟩)) (h3 : a.tmps.getD 3 undef = .int .i64 z) (h4 : a.tmps.getD 4 undef = .pointer (some ⟨B4, 0, none⟩)) (h9 : a.tmps.getD 9 undef = .func (.func 50) #[] #[.pointer (some ⟨BP, 0, none⟩)]) (h10 : a.tmps.getD 10 undef = .int .i64 (i : Int))
    (hnd : Ds.Nodup) (hf : npF w xp B2 B4 BP nn c A L Ds W) : npI w xp z B2 B4 BP nn c A L a W := by
  refine ⟨i, Ds, fun i => a.tmps.getD i undef, hi, ?_, hnd, hf⟩
  obtain ⟨T, ds⟩ := a
  simp only at hN hd h0 h2 h3 h4 h9 h10
  subst hd
  have h := act_range { tmps := T, defers := [] } 107 hN rfl
  have hT := congrArg Act.tmps h
  simp only at hT
  rw [← h0, ← h2, ← h3, ← h4, ← h9, ← h10]
  exact congrArg (fun t => (⟨t, _⟩ : Act)) hT
theorem npF_own {β : Type} {B : Nat} {w : World} {xp : ByteArray} {B2 B4 BP nn c : Nat} {A : Option Addr} {L : List (List UInt8)} {Ds : List Nat} (hW : w.heap.size ≤ B) (hDs : ∀ D ∈ Ds, D < B) :
    OwnFrom B (fun (_ : β) W' => npF w xp B2 B4 BP nn c A L Ds W') := by
  rintro p X Y row ⟨h2, h4, hrow, hp, hL, hB⟩ hg hr
  refine ⟨boxed_kept h2 hg hr, boxed_kept h4 hg hr, ?_, boxed_kept hp hg hr, fun D hD => ⟨(hL D hD).1, ?_⟩, ?_⟩
  · refine World.ownsRow.kept hrow hg ?_
    rcases hrow.2 with ⟨h, _⟩ | ⟨g, cap, cur, h, _, hgb, _⟩
    · exact .inl (by rw [h]; rfl)
    · refine .inr fun e' => ?_
      obtain ⟨_, o, ho, hc⟩ := hr g (by rw [h] at e'; simpa [Value.ownBlock] using e'.symm)
      rw [hgb] at ho; cases ho; cases hc
  · refine (hg.block D (Array.getElem?_eq_some_iff.1 (hL D hD).2).1 (fun e => ?_)).trans (hL D hD).2
    have := (hr D e.symm).1
    have := hDs D hD
    omega
  · exact hB.grown hg hB.size (fun k e => by have := (hr k e).1; omega)
theorem npF.below {n₁ : Nat} {w : World} {xp : ByteArray} {B2 B4 BP nn c : Nat} {A : Option Addr} {L : List (List UInt8)} {Ds : List Nat} {W W' : World} (h : npF w xp B2 B4 BP nn c A L Ds W) (hb : W.heap.size ≤ n₁) (hn : w.heap.size ≤ n₁) (hk : Below n₁ W W') : npF w xp B2 B4 BP nn c A L Ds W' := by
  obtain ⟨h2, h4, hrow, hp, hL, hB⟩ := h
  refine ⟨Boxed.below h2 hb hk, Boxed.below h4 hb hk, hrow.below hb hk, Boxed.below hp hb hk, fun D hD => ⟨(hL D hD).1, ?_⟩, hB.trans (hk.mono hn)⟩
  have hlt := (Array.getElem?_eq_some_iff.1 (hL D hD).2).1
  exact (hk.block D (by omega)).trans (hL D hD).2
theorem npF.alloc {w : World} {xp : ByteArray} {B2 B4 BP nn c : Nat} {A : Option Addr} {L : List (List UInt8)} {Ds : List Nat} {W : World} (h : npF w xp B2 B4 BP nn c A L Ds W) (o : Obj) : npF w xp B2 B4 BP nn c A L Ds (W.alloc o) :=
  h.below (Nat.le_refl _) h.2.2.2.2.2.size ((Below.refl _ W).alloc (Nat.le_refl _) o)
theorem npF.set {w : World} {xp : ByteArray} {B2 B4 BP BN nn c : Nat} {A : Option Addr} {L : List (List UInt8)} {Ds : List Nat} {W : World} (v v' : Value) (h : npF w xp B2 B4 BP nn c A L Ds W) (hb : Boxed W BN 3 v) (hn : w.heap.size ≤ BN) : npF w xp B2 B4 BP nn c A L Ds (W.setCell ⟨BN, 0, none⟩ v') := by
  obtain ⟨h2, h4, hrow, hp, hL, hB⟩ := h
  have ne : ∀ {B : Nat} {t : TypeId} {u : Value}, Boxed W B t u → t ≠ 3 → B ≠ BN := by
    rintro B t u hB ht rfl
    have hb' : W.heap[B]? = _ := hb
    rw [show W.heap[B]? = _ from hB] at hb'
    cases hb'
    exact ht rfl
  exact ⟨h2.other (ne h2 (by decide)) _, h4.other (ne h4 (by decide)) _, World.ownsRow.kept hrow (grownBy_setCell' W BN _) (.inr (hb.not_row (by decide) hrow).symm), hp.other (ne hp (by decide)) _, fun D hD => ⟨(hL D hD).1, (KeepsOthers.setCell W ⟨BN, 0, none⟩ _).same D _ (hL D hD).2 rfl⟩, hB.setCell (p := ⟨BN, 0, none⟩) hn _⟩
theorem npF.more {w : World} {xp : ByteArray} {B2 B4 BP nn c D : Nat} {A : Option Addr} {L : List (List UInt8)} {Ds : List Nat} {W : World} (h : npF w xp B2 B4 BP nn c A L Ds W) (hD : w.heap.size ≤ D) (hk : W.heap[D]? = some (.deferred (some []))) : npF w xp B2 B4 BP nn c A L (D :: Ds) W := by
  obtain ⟨h2, h4, hrow, hp, hL, hB⟩ := h
  refine ⟨h2, h4, hrow, hp, fun D' h => ?_, hB⟩
  rcases List.mem_cons.1 h with rfl | h
  · exact ⟨hD, hk⟩
  · exact hL D' h
abbrev PN (L : List (List UInt8)) := { x : Nat × List UInt8 // x ∈ idx 0 L }

set_option maxHeartbeats 64000000 in
theorem nameParts_core (n : Nat) (hn : 3 ≤ n) (w : World) (s1 : ByteArray) (hs1 : s1.size ≤ 140737488351232) :
    CallsIn Fence.wide n Tryd.prog 10 #[.string s1] w fun e W' => e = .returned (.bool true) ∧ Below w.heap.size w W' := by
  have h1 : 1 ≤ n := by omega
  have hef := eql_func
  have HPp := Lib.hid fun W => cut_calls W s1 (by omega)
  have hlp : Hid ((cutL s1.data.toList).length ≤ 9223372036854775807) := by have := cutL_len s1.data.toList; rw [Hid]; omega
  generalize cutL s1.data.toList = p at *
  have HRP : Hid (∀ W, _) := fun W => refpath_calls W (mkS p) (by rw [mkS_size]; exact hlp.out)
  have HRS : Hid ((pathF p).1 = 0 → ∀ W, Calls Tryd.prog 31 #[.string (mkS p)] W fun e w' => PartsR W w' e (splitF p)) := fun h W => by
    have := refparts_calls W (mkS p) (by rw [mkS_size]; have := path_len h; omega)
    rw [mkS_list] at this
    rw [splitF, if_pos h]; exact this
  rw [mkS_list] at HRP
  have HSP := Lib.hid fun W => namesplit_calls W p hlp.out
  have HDE := Lib.hid fun W => depth_calls W p hlp.out
  have HNM := Lib.hid fun W => names_calls W (mkS p)
  have HDF : Hid (depthF p = if (pathF p).1 = 0 then ((splitF p).length : Int) else -1) := by
    rw [Hid, depthF, splitF]
    by_cases h : (pathF p).1 = 0
    · simp [h]
    · simp [h]
  have hll : (splitF p).length ≤ 16 := by
    rw [splitF]
    split
    · rename_i h; exact (fit_parts h).2.1
    · simp
  have HE0 : Hid ((pathF p).1 ≠ 0 → splitF p = []) := fun h => if_neg h
  obtain ⟨⟨z, zz⟩, hz⟩ : ∃ y, pathF p = y := ⟨_, rfl⟩
  rw [hz] at HRP HRS HSP HDF HE0
  unfold spotV at HRP
  simp only at HRS HSP HDF HE0
  clear hz
  have hlx : ∀ n₁ n' : Nat, 1 ≤ n' → ∀ (w' : World) (B : Nat), n₁ ≤ w'.heap.size → w'.cell? ⟨B, 0, none⟩ = some (.string (mkS p)) → B < w'.heap.size → SeqStopsK Fence.wide n' Tryd.prog 50 #[.pointer (some ⟨B, 0, none⟩)] (fun x : PN (splitF p) => lencs x.1) (KH n₁) (fun xs => xs = (idx 0 (splitF p)).attach) (fun pre => pre <+: (idx 0 (splitF p)).attach) (idx 0 (splitF p)).attach.length w' := fun n₁ n' hn' w' B hn1 hb hB => names_stops (fun x : PN (splitF p) => x.1) (idx 0 (splitF p)).attach n' hn' B p hlp.out n₁ w' hn1 hb hB (List.attach_map_subtype_val _)
  have HSEQ := Lib.hid hlx
  clear hlx
  generalize splitF p = L at *
  generalize depthF p = dp at *
  generalize mkS p = xp at *
  have hf0 : ∀ W, Sem.run Tryd.prog (Instr.field 26 (.agg #[.int .i64 z, .int .i64 zz]) 0) W = .ok (.int .i64 z) W := fun _ => rfl
  have HWK := Lib.hid fun W => wakes4_calls W
  refine callsIn_of_wp_marks Tryd.func10 rfl trivial ?_ rfl
  simp only [Tryd.ntmps10, List.size_toArray, List.length_cons, List.length_nil, Nat.reduceAdd, Nat.reduceSub, Array.replicate_succ, Array.replicate_zero, List.push_toArray, List.append_toArray, List.nil_append, List.cons_append]
  have hbx0 := Boxed.new w 4 (.bool false)
  gi_wp2_with (refine ⟨trivial, ?_⟩; gi_at_call 13; refine (callsIn_wide.2 (HWK.out _)).mono ?_; rintro e w1 ⟨rfl, hc1⟩; refine Hid.out ?_)
  refine Lib.hid ?_
  have hb1 : Boxed w1 w.heap.size 4 (.bool false) := hc1.heap hbx0 (fun x => x)
  have hB1 : Below w.heap.size w w1 := ((Below.refl _ w).alloc (Nat.le_refl _) _).trans ((Chg.below hc1).mono (by simp))
  clear hc1 hbx0
  gi_wp2_with (refine ⟨trivial, ?_⟩; gi_at_call 14; refine (callsIn_wide.2 (HPp.out _)).mono ?_; rintro e w2 ⟨rfl, rfl⟩; refine Hid.out ?_)
  refine Lib.hid ?_
  gi_wp2_with (refine ⟨trivial, ?_⟩; gi_at_call 18; refine (callsIn_wide.2 (HRP.out _)).mono ?_; rintro e w3 ⟨rfl, hc3⟩; refine Hid.out ?_)
  refine Lib.hid ?_
  have hb3 : Boxed w3 w.heap.size 4 (.bool false) := hc3.heap hb1 (fun x => x)
  have hB3 : Below w.heap.size w w3 := hB1.trans ((Chg.below hc3).mono hB1.size)
  have hz3 : w.heap.size < w3.heap.size := hb3.lt
  clear hc3 hb1 hB1
  have hbw := Boxed.new w3 30 (.slice none 0 0)
  have hb4 := hb3.alloc (.cells #[.slice none 0 0] 30)
  have hB4 := hB3.alloc (by omega) (.cells #[.slice none 0 0] 30)
  clear hb3 hB3
  by_cases h0 : z = 0
  · have hzb : (z == 0) = true := by rw [h0]; rfl
    have hzn : (z != 0) = false := by rw [h0]; rfl
    have HDP : Hid (dp = (L.length : Int)) := by rw [Hid, HDF.out, if_pos h0]
    have HRSx := Lib.hid (HRS.out h0)
    have cw := hbw.cell
    have fw := hbw.frozen
    clear h0
    gi_wp2_with (refine ⟨trivial, ?_⟩; gi_at_call 31; refine (callsIn_wide.2 (HRSx.out _)).mono ?_; rintro e w4 ⟨A, nn, c, rfl, hl4, ho4, hc4⟩; refine Hid.out ?_)
    refine Lib.hid ?_
    have hbw4 : Boxed w4 w3.heap.size 30 (.slice none 0 0) := hc4.heap hbw (fun x => x)
    have hb5 : Boxed w4 w.heap.size 4 (.bool false) := hc4.heap hb4 (fun x => x)
    have hB5 : Below w.heap.size w w4 := hB4.trans ((Chg.below hc4).mono hB4.size)
    have HLN := Lib.hid hl4
    have ho4' : OwnS w4 w.heap.size (.slice A nn c) nn L := OwnS.mono ho4 (by simp; omega)
    have cw4 := hbw4.cell
    have fw4 := hbw4.frozen
    have hbS : Boxed (w4.setCell ⟨w3.heap.size, 0, none⟩ (.slice A nn c)) w.heap.size 4 (.bool false) := hb5.other (by omega) _
    have hwS : Boxed (w4.setCell ⟨w3.heap.size, 0, none⟩ (.slice A nn c)) w3.heap.size 30 (.slice A nn c) := hbw4.set _
    have HOS : Hid (OwnS (w4.setCell ⟨w3.heap.size, 0, none⟩ (.slice A nn c)) w.heap.size (.slice A nn c) nn L) := World.ownsRow.kept ho4' (grownBy_setCell' w4 w3.heap.size _) (.inr (hbw4.not_row (by decide) ho4').symm)
    have hBS : Below w.heap.size w (w4.setCell ⟨w3.heap.size, 0, none⟩ (.slice A nn c)) := hB5.setCell (p := ⟨w3.heap.size, 0, none⟩) (by show w.heap.size ≤ w3.heap.size; omega) _
    have hdpn : dp = (nn : Int) := by rw [HDP.out, HLN.out]
    subst hdpn
    clear hl4 ho4 hc4 hb4 hB4 hb5 hB5 ho4' hbw HDP HDF HRS HRSx hzb hbw4
    gi_wp2
    have hz5 : w.heap.size ≤ (w4.setCell ⟨w3.heap.size, 0, none⟩ (.slice A nn c)).heap.size := hBS.size
    have hnn16 : nn ≤ 16 := by rw [← HLN.out]; exact hll
    gi_loopw [5] (fun i wr => ∃ k : Nat, k ≤ 2 ∧ i = .int .i64 (k : Int) ∧ Boxed wr w.heap.size 4 (.bool false) ∧ Boxed wr w3.heap.size 30 (.slice A nn c) ∧ Hid (OwnS wr w.heap.size (.slice A nn c) nn L) ∧ Below w.heap.size w wr) (fun i _ => 2 - (intOf i).toNat)
    case atStart => exact ⟨0, by omega, rfl, hbS, hwS, HOS.out, hBS⟩
    case round =>
      clear hbS hwS HOS hBS
      obtain ⟨k, hk, rfl, b2, b4, HO, hB⟩ := hrel
      generalize wr = wo at *
      have c2 := b2.cell
      have f2 := b2.frozen
      have c4 := b4.cell
      have hwz := hB.size
      by_cases hk2 : k < 2
      · have hki : (k : Int) < 2 := by omega
        gi_wp2_with (refine ⟨trivial, ?_⟩; gi_at_call 32; refine (callsIn_wide.2 (HSP.out _)).mono ?_; rintro e w5 ⟨A1, m1, c1, rfl, hl5, ho5, hc5⟩; refine Hid.out ?_)
        refine Lib.hid ?_
        obtain rfl : m1 = nn := by rw [← hl5]; exact HLN.out
        have b5 : Boxed w5 w3.heap.size 30 (.slice A m1 c) := hc5.heap b4 (fun x => x)
        have c5 := b5.cell
        have HB5 : Hid (Below wo.heap.size wo w5) := Chg.below hc5
        have HO5 := Lib.hid ho5
        have HTX := Lib.hid (texts_calls w5 A1 m1 c1 L A m1 c L (ho5.sl hl5) ((OwnS.chg HO.out hc5).sl hl5) (by omega) (by omega))
        have hdt : decide (L = L) = true := decide_eq_true rfl
        rw [hdt] at HTX
        clear hc5 hl5 ho5
        gi_wp2_with (refine ⟨trivial, ?_⟩; gi_at_call 21; refine (callsIn_wide.2 HTX.out).mono ?_; rintro e w6 ⟨rfl, hc6⟩; refine Hid.out ?_)
        refine Lib.hid ?_
        have HB6 : Hid (Below wo.heap.size wo w6) := HB5.out.trans ((Chg.below hc6).mono HB5.out.size)
        have HO6 : Hid (w6.ownsRow wo.heap.size 9 1 (.slice A1 m1 c1) m1 (L.map strv)) := OwnS.chg HO5.out hc6
        clear hc6 HO5 HTX b5 c5
        gi_wp2
        gi_loopw [46] (fun i wr => ∃ (j : Nat) (xs : List Value), j ≤ m1 ∧ i = .int .i64 (j : Int) ∧ Hid (wr.ownsRow wo.heap.size 9 1 (.slice A1 m1 c1) m1 xs) ∧ Hid (Below wo.heap.size wo wr)) (fun i _ => m1 - (intOf i).toNat)
        case atStart => exact ⟨0, _, Nat.zero_le _, rfl, HO6.out, HB6.out⟩
        case round =>
          obtain ⟨j, xs, hj, rfl, HOX, HBX⟩ := hrel
          by_cases hjm : j < m1
          · have hji : (j : Int) < (m1 : Int) := by omega
            obtain ⟨g, rfl, hg1, hg2, hput⟩ := own_put HOX.out (by omega)
            obtain ⟨⟨u, hu, -⟩, hfz, hset⟩ := hput j (by omega)
            have HSET := Lib.hid (hset (.string ⟨#[33]⟩))
            have HBS := Lib.hid (HBX.out.setCell (p := ⟨g, j, none⟩) hg1 (.string ⟨#[33]⟩))
            clear hput hset
            gi_wp2
            go_roundw
            case rel => exact ⟨j + 1, _, by omega, by go_num, HSET.out, HBS.out⟩
            case measure => simp only [intOf]; omega
          · have hji : ¬ (j : Int) < (m1 : Int) := by omega
            have HOA := Lib.hid (World.ownsRow.alloc HOX.out (.cells #[.string ⟨#[33]⟩, .string ⟨#[33]⟩] 9))
            have src7 : Hid (Src Tryd.prog 1 30 (.slice (some ⟨wr.heap.size, 0, none⟩) 2 2) 2 [.string ⟨#[33]⟩, .string ⟨#[33]⟩] (wr.alloc (.cells #[.string ⟨#[33]⟩, .string ⟨#[33]⟩] 9))) := Src.ofStrs (sl2 wr [33] [33])
            have hge : wo.heap.size ≤ wr.heap.size := HBX.out.size
            gi_wp2_with (gi_at_builtin; (refine wpListIn_app rfl (.tmp 53) (.tmp 54) 30 30 rfl wo.heap.size 9 (.string ⟨#[]⟩) 1 16 infoStr1 Tryd.underlying30 rfl (by decide) (.slice A1 m1 c1) (.slice (some ⟨wr.heap.size, 0, none⟩) 2 2) m1 2 xs [.string ⟨#[33]⟩, .string ⟨#[33]⟩] rfl rfl HOA.out src7.out ?b1 ?b2 ?b3 ?_; (case b1 => omega); (case b2 => unfold maxLen; omega); (case b3 => simp; omega); intro v8 w8 hown8 hg8; refine Hid.out ?_))
            refine Lib.hid ?_
            obtain ⟨A8, c8, rfl⟩ := ownsRow_form hown8
            have HB8 : Hid (Below wo.heap.size wo w8) := (HBX.out.alloc hge _).trans ((Below.refl _ _).grown hg8 (by simp; omega) (fun q hq => (World.ownsRow.lt HOA.out q hq).1))
            clear hown8 hg8
            have hlt2 : ¬ ((m1 : Int) + 2 < 2) := by omega
            gi_wp2
            go_roundw
            case rel => exact ⟨k + 1, by omega, by go_num, Boxed.below b2 (Nat.le_refl _) HB8.out, Boxed.below b4 (Nat.le_refl _) HB8.out, HO.out.below (Nat.le_refl _) HB8.out, hB.trans (HB8.out.mono hwz)⟩
            case measure => simp only [intOf]; omega
      · have hki : ¬ (k : Int) < 2 := by omega
        gi_wp2_with (refine ⟨trivial, ?_⟩; gi_at_call 34; refine (callsIn_wide.2 (HNM.out _)).mono ?_; rintro e w6 ⟨rfl, rfl⟩; refine Hid.out ?_)
        refine Lib.hid ?_
        have F6 : npF w xp w.heap.size w3.heap.size wo.heap.size nn c A L [] (wo.alloc (.cells #[.string xp] 9)) := ⟨b2.alloc _, b4.alloc _, World.ownsRow.alloc HO.out _, Boxed.new _ _ _, by simp, hB.alloc hwz _⟩
        obtain ⟨B4, hB4e⟩ : ∃ b, w3.heap.size = b := ⟨_, rfl⟩
        rw [hB4e] at F6 ⊢
        obtain ⟨BP, hBPe⟩ : ∃ b, wo.heap.size = b := ⟨_, rfl⟩
        rw [hBPe] at F6 ⊢
        generalize wo.alloc (.cells #[.string xp] 9) = w7 at *
        clear b2 b4 HO hB c2 f2 c4 hwz hB4e hBPe
        gi_wp2
        refine wpIn_loop (npI w xp z w.heap.size B4 BP nn c A L) (fun a _ => 2 - (intOf (a.tmps.getD 10 undef)).toNat) (npI_intro _ 0 [] (by omega) rfl rfl rfl rfl rfl rfl rfl rfl List.nodup_nil F6) ?_
        clear F6
        rintro a W ⟨i, Ds, u, hi, rfl, hnd, F⟩
        by_cases hi2 : i < 2
        · have i1 : (i : Int) < 2 := by omega
          have hWw : w.heap.size ≤ W.heap.size := F.2.2.2.2.2.size
          have hDs : ∀ D ∈ Ds, D < W.heap.size := fun D hD => (Array.getElem?_eq_some_iff.1 (F.2.2.2.2.1 D hD).2).1
          gi_wp2
          have F1 := F.alloc (.cells #[.int .i64 0] 3)
          have hsz1 : (W.alloc (.cells #[.int .i64 0] 3)).heap.size = W.heap.size + 1 := World.size_alloc _ _
          refine wpIn_rangeFunc_ownF rfl h1 (gf := 50) (lb := #[.pointer (some ⟨BP, 0, none⟩)]) rfl trivial (enters_of Tryd.func50 (by kernel_rfl) rfl)
            (HSEQ.out (W.heap.size + 1) (n - 1) (by omega) _ BP (Nat.le_of_eq hsz1.symm) F1.2.2.2.1.cell F1.2.2.2.1.lt) kh_t kh_b (Below.refl _ _) (fun _ => rfl)
            (fun pre W' => Boxed W' W.heap.size 3 (.int .i64 (pre.length : Int)) ∧ npF w xp w.heap.size B4 BP nn c A L Ds W' ∧ pre.map (·.1) <+: idx 0 L)
            (fun c' pre W' => c' = .ret ∧ ¬ (pre.map (·.1) <+: idx 0 L))
            ?own1A (fun c' => ?own2A) ⟨Boxed.new _ _ _, F1, by simp⟩ ?frameA ?assignA ?bodyA ?doneA ?stopA
          case own1A =>
            rintro pre X Y row ⟨hb, hf, hp⟩ hg hr
            exact ⟨boxed_kept hb hg hr, npF_own (β := Unit) (by omega) (fun D hD => by have := hDs D hD; omega) () X Y row hf hg hr, hp⟩
          case own2A => intro pre X Y row hs hg hr; exact hs
          case assignA =>
            intro l x W K hK
            gi_wp2
            exact hK
          case bodyA =>
            rintro l pre x W2 ⟨b0, F2, hpre⟩ hlen
            have c0 := b0.cell
            have f0 := b0.frozen
            have c2 := F2.1.cell
            have f2 := F2.1.frozen
            have c4 := F2.2.1.cell
            obtain ⟨hx0, hx1⟩ := pre_next x.2 hpre
            rw [List.length_map] at hx0 hx1
            obtain ⟨g1, g2, g3⟩ := idx_get _ _ _ x.2
            obtain ⟨⟨kx, lx⟩, hxm⟩ := x
            simp only [Nat.sub_zero] at g1 g2 g3 hx0 hx1
            obtain ⟨m, hm⟩ : ∃ m, pre.length = m := ⟨_, rfl⟩
            rw [hm] at hx0 hx1 hlen b0 c0
            by_cases hkm : kx = m
            · subst hkm
              have hpn := hx0 rfl
              have hkn : kx < nn := by rw [← HLN.out]; exact g1
              have i2 : ¬ ((nn : Int) ≤ (kx : Int)) := by omega
              have i3 : (kx : Int) < (nn : Int) := by omega
              obtain ⟨bq, oq, hA, hcq⟩ := (F2.2.2.1.sl HLN.out).addr (by rw [HLN.out]; omega)
              have hcm := hcq kx g1
              rw [← g3, strv_text] at hcm
              subst hA
              clear hcq g3 hx0 hx1 hpre
              generalize mkS lx = sx at *
              have hnx : kx + 1 ≤ 9223372036854775807 := by omega
              gi_wp2
              refine ⟨KeepsOthers.setCell _ _ _, kh_set (by omega) _ _, ?_, F2.set _ _ b0 hWw, by rw [List.map_append]; exact hpn⟩
              have h0 := b0.set (.int .i64 ((kx : Int) + 1))
              rw [List.length_append, hm]
              exact h0
            · have hne : ((kx : Int) != (m : Int)) = true := by rw [bne_iff_ne]; omega
              have hbad := hx1 hkm
              clear hx0 hx1 hkm g3 hpre
              gi_wp2
              exact ⟨KeepsOthers.setCell _ _ _, rfl, by rw [List.map_append]; exact hbad⟩
          case stopA =>
            rintro D cc pre W3 hD hpre ⟨rfl, hbad⟩ hK
            exfalso
            apply hbad
            have h := hpre.map (fun x : PN L => x.1)
            rwa [List.attach_map_subtype_val] at h
          case doneA =>
            rintro D xs W3 hD rfl ⟨b0, F3, -⟩ hK
            rw [List.length_attach, idx_len, HLN.out] at b0
            have c0 := b0.cell
            have c4 := F3.2.1.cell
            have hDW : D < W3.heap.size := (Array.getElem?_eq_some_iff.1 hK).1
            have hDn : W.heap.size < D := by omega
            have F3' := F3.more (by omega) hK
            have hnd' : (D :: Ds).Nodup := List.nodup_cons.2 ⟨fun h => by have := hDs D h; omega, hnd⟩
            have hDs' : ∀ D' ∈ D :: Ds, D' < W3.heap.size := fun D' hD' => (Array.getElem?_eq_some_iff.1 (F3'.2.2.2.2.1 D' hD').2).1
            have hw3 : w.heap.size ≤ W3.heap.size := F3'.2.2.2.2.2.size
            clear hK F3
            gi_wp2
            refine wpIn_rangeFunc_ownF rfl h1 (gf := 50) (lb := #[.pointer (some ⟨BP, 0, none⟩)]) rfl trivial (enters_of Tryd.func50 (by kernel_rfl) rfl)
              (HSEQ.out W3.heap.size (n - 1) (by omega) _ BP (Nat.le_refl _) F3'.2.2.2.1.cell F3'.2.2.2.1.lt) kh_t kh_b (Below.refl _ _) (fun _ => rfl)
              (fun pre W' => npF w xp w.heap.size B4 BP nn c A L (D :: Ds) W')
              (fun c' pre W' => c' = .exit 8 ∧ npF w xp w.heap.size B4 BP nn c A L (D :: Ds) W')
              (npF_own hw3 hDs') (fun c' => ?own4A) F3' ?frame2A ?assign2A ?body2A ?done2A ?stop2A
            case own4A =>
              rintro pre X Y row ⟨hc, hf⟩ hg hr
              exact ⟨hc, npF_own (β := Unit) hw3 hDs' () X Y row hf hg hr⟩
            case assign2A =>
              intro l x W K hK
              gi_wp2
              exact hK
            case body2A =>
              rintro l pre x W4 F4 hlen
              gi_wp2
              exact ⟨KeepsOthers.refl _, rfl, F4⟩
            case done2A =>
              rintro D2 xs W4 hD2 rfl F4 hK2
              gi_wp2
              refine ⟨npI_intro _ (i + 1) (D2 :: D :: Ds) (by omega) rfl rfl rfl rfl rfl rfl rfl (congrArg (Value.int .i64) (by omega)) (List.nodup_cons.2 ⟨fun h => by have := hDs' D2 h; omega, hnd'⟩) (F4.more (by omega) hK2), ?_⟩
              show 2 - ((i : Int) + 1).toNat < 2 - (i : Int).toNat
              omega
            case stop2A =>
              rintro D2 cc pre W4 hD2 hpre ⟨rfl, F4⟩ hK2
              gi_wp2
              refine ⟨npI_intro _ (i + 1) (D2 :: D :: Ds) (by omega) rfl rfl rfl rfl rfl rfl rfl (congrArg (Value.int .i64) (by omega)) (List.nodup_cons.2 ⟨fun h => by have := hDs' D2 h; omega, hnd'⟩) (F4.more (by omega) hK2), ?_⟩
              show 2 - ((i : Int) + 1).toNat < 2 - (i : Int).toNat
              omega
        · have hi3 : i = 2 := by omega
          subst hi3
          have c4 := F.2.1.cell
          gi_wp2_with (refine ⟨trivial, ?_⟩; gi_at_call 33; refine (callsIn_wide.2 (HDE.out _)).mono ?_; rintro e w8 ⟨rfl, hc8⟩; refine Hid.out ?_)
          refine Lib.hid ?_
          have F8 := F.below (Nat.le_refl _) F.2.2.2.2.2.size (Chg.below hc8)
          clear hc8 F
          gi_wp2_with (refine ⟨trivial, ?_⟩; gi_at_call 13; refine (callsIn_wide.2 (HWK.out _)).mono ?_; rintro e w9 ⟨rfl, hc9⟩; refine Hid.out ?_)
          refine Lib.hid ?_
          have F9 := F8.below (Nat.le_refl _) F8.2.2.2.2.2.size (Chg.below hc9)
          clear hc9 F8
          have c2 := F9.1.cell
          have f2 := F9.1.frozen
          gi_wp2
          have hw9 := F9.2.2.2.2.2.size
          exact leaves_all w.heap.size 4 (.bool true) w.heap.size w (Nat.le_refl _) (fun W' hb' hB' => ⟨.bool true, by simp [results, Tryd.f10, go_sem, hb'.cell], rfl, hB'⟩) Ds _ hnd (fun D hD => ⟨(F9.2.2.2.2.1 D hD).1, (KeepsOthers.setCell w9 ⟨w.heap.size, 0, none⟩ (.bool true)).same D _ (F9.2.2.2.2.1 D hD).2 rfl⟩) (F9.1.set _) (F9.2.2.2.2.2.setCell (p := ⟨w.heap.size, 0, none⟩) (Nat.le_refl _) _)
  · have hzb : (z == 0) = false := by simpa using h0
    have hzn : (z != 0) = true := by simpa using h0
    have HDP : Hid (dp = -1) := by rw [Hid, HDF.out, if_neg h0]
    have HLE := HE0.out h0
    obtain ⟨A, hAe⟩ : ∃ A : Option Addr, A = none := ⟨_, rfl⟩
    obtain ⟨nn, hne⟩ : ∃ nn : Nat, nn = 0 := ⟨_, rfl⟩
    obtain ⟨c, hce⟩ : ∃ c : Nat, c = 0 := ⟨_, rfl⟩
    have HLN : Hid (L.length = nn) := by rw [Hid, HLE, hne]; rfl
    have hbS : Boxed (w3.alloc (.cells #[.slice none 0 0] 30)) w.heap.size 4 (.bool false) := hb4
    have hwS : Boxed (w3.alloc (.cells #[.slice none 0 0] 30)) w3.heap.size 30 (.slice A nn c) := by rw [hAe, hne, hce]; exact hbw
    have HOS : Hid (OwnS (w3.alloc (.cells #[.slice none 0 0] 30)) w.heap.size (.slice A nn c) nn L) := by rw [hAe, hne, hce, HLE]; exact OwnS.nil _ _
    have hBS : Below w.heap.size w (w3.alloc (.cells #[.slice none 0 0] 30)) := hB4
    have hdpn : dp = -1 := HDP.out
    subst hdpn
    clear h0 hb4 hB4 hbw HDP HDF HRS hzb HLE hAe hne hce
    gi_wp2
    have hz5 : w.heap.size ≤ (w3.alloc (.cells #[.slice none 0 0] 30)).heap.size := hBS.size
    have hnn16 : nn ≤ 16 := by rw [← HLN.out]; exact hll
    gi_loopw [5] (fun i wr => ∃ k : Nat, k ≤ 2 ∧ i = .int .i64 (k : Int) ∧ Boxed wr w.heap.size 4 (.bool false) ∧ Boxed wr w3.heap.size 30 (.slice A nn c) ∧ Hid (OwnS wr w.heap.size (.slice A nn c) nn L) ∧ Below w.heap.size w wr) (fun i _ => 2 - (intOf i).toNat)
    case atStart => exact ⟨0, by omega, rfl, hbS, hwS, HOS.out, hBS⟩
    case round =>
      clear hbS hwS HOS hBS
      obtain ⟨k, hk, rfl, b2, b4, HO, hB⟩ := hrel
      generalize wr = wo at *
      have c2 := b2.cell
      have f2 := b2.frozen
      have c4 := b4.cell
      have hwz := hB.size
      by_cases hk2 : k < 2
      · have hki : (k : Int) < 2 := by omega
        gi_wp2_with (refine ⟨trivial, ?_⟩; gi_at_call 32; refine (callsIn_wide.2 (HSP.out _)).mono ?_; rintro e w5 ⟨A1, m1, c1, rfl, hl5, ho5, hc5⟩; refine Hid.out ?_)
        refine Lib.hid ?_
        obtain rfl : m1 = nn := by rw [← hl5]; exact HLN.out
        have b5 : Boxed w5 w3.heap.size 30 (.slice A m1 c) := hc5.heap b4 (fun x => x)
        have c5 := b5.cell
        have HB5 : Hid (Below wo.heap.size wo w5) := Chg.below hc5
        have HO5 := Lib.hid ho5
        have HTX := Lib.hid (texts_calls w5 A1 m1 c1 L A m1 c L (ho5.sl hl5) ((OwnS.chg HO.out hc5).sl hl5) (by omega) (by omega))
        have hdt : decide (L = L) = true := decide_eq_true rfl
        rw [hdt] at HTX
        clear hc5 hl5 ho5
        gi_wp2_with (refine ⟨trivial, ?_⟩; gi_at_call 21; refine (callsIn_wide.2 HTX.out).mono ?_; rintro e w6 ⟨rfl, hc6⟩; refine Hid.out ?_)
        refine Lib.hid ?_
        have HB6 : Hid (Below wo.heap.size wo w6) := HB5.out.trans ((Chg.below hc6).mono HB5.out.size)
        have HO6 : Hid (w6.ownsRow wo.heap.size 9 1 (.slice A1 m1 c1) m1 (L.map strv)) := OwnS.chg HO5.out hc6
        clear hc6 HO5 HTX b5 c5
        gi_wp2
        gi_loopw [46] (fun i wr => ∃ (j : Nat) (xs : List Value), j ≤ m1 ∧ i = .int .i64 (j : Int) ∧ Hid (wr.ownsRow wo.heap.size 9 1 (.slice A1 m1 c1) m1 xs) ∧ Hid (Below wo.heap.size wo wr)) (fun i _ => m1 - (intOf i).toNat)
        case atStart => exact ⟨0, _, Nat.zero_le _, rfl, HO6.out, HB6.out⟩
        case round =>
          obtain ⟨j, xs, hj, rfl, HOX, HBX⟩ := hrel
          by_cases hjm : j < m1
          · have hji : (j : Int) < (m1 : Int) := by omega
            obtain ⟨g, rfl, hg1, hg2, hput⟩ := own_put HOX.out (by omega)
            obtain ⟨⟨u, hu, -⟩, hfz, hset⟩ := hput j (by omega)
            have HSET := Lib.hid (hset (.string ⟨#[33]⟩))
            have HBS := Lib.hid (HBX.out.setCell (p := ⟨g, j, none⟩) hg1 (.string ⟨#[33]⟩))
            clear hput hset
            gi_wp2
            go_roundw
            case rel => exact ⟨j + 1, _, by omega, by go_num, HSET.out, HBS.out⟩
            case measure => simp only [intOf]; omega
          · have hji : ¬ (j : Int) < (m1 : Int) := by omega
            have HOA := Lib.hid (World.ownsRow.alloc HOX.out (.cells #[.string ⟨#[33]⟩, .string ⟨#[33]⟩] 9))
            have src7 : Hid (Src Tryd.prog 1 30 (.slice (some ⟨wr.heap.size, 0, none⟩) 2 2) 2 [.string ⟨#[33]⟩, .string ⟨#[33]⟩] (wr.alloc (.cells #[.string ⟨#[33]⟩, .string ⟨#[33]⟩] 9))) := Src.ofStrs (sl2 wr [33] [33])
            have hge : wo.heap.size ≤ wr.heap.size := HBX.out.size
            gi_wp2_with (gi_at_builtin; (refine wpListIn_app rfl (.tmp 53) (.tmp 54) 30 30 rfl wo.heap.size 9 (.string ⟨#[]⟩) 1 16 infoStr1 Tryd.underlying30 rfl (by decide) (.slice A1 m1 c1) (.slice (some ⟨wr.heap.size, 0, none⟩) 2 2) m1 2 xs [.string ⟨#[33]⟩, .string ⟨#[33]⟩] rfl rfl HOA.out src7.out ?b1 ?b2 ?b3 ?_; (case b1 => omega); (case b2 => unfold maxLen; omega); (case b3 => simp; omega); intro v8 w8 hown8 hg8; refine Hid.out ?_))
            refine Lib.hid ?_
            obtain ⟨A8, c8, rfl⟩ := ownsRow_form hown8
            have HB8 : Hid (Below wo.heap.size wo w8) := (HBX.out.alloc hge _).trans ((Below.refl _ _).grown hg8 (by simp; omega) (fun q hq => (World.ownsRow.lt HOA.out q hq).1))
            clear hown8 hg8
            have hlt2 : ¬ ((m1 : Int) + 2 < 2) := by omega
            gi_wp2
            go_roundw
            case rel => exact ⟨k + 1, by omega, by go_num, Boxed.below b2 (Nat.le_refl _) HB8.out, Boxed.below b4 (Nat.le_refl _) HB8.out, HO.out.below (Nat.le_refl _) HB8.out, hB.trans (HB8.out.mono hwz)⟩
            case measure => simp only [intOf]; omega
      · have hki : ¬ (k : Int) < 2 := by omega
        gi_wp2_with (refine ⟨trivial, ?_⟩; gi_at_call 34; refine (callsIn_wide.2 (HNM.out _)).mono ?_; rintro e w6 ⟨rfl, rfl⟩; refine Hid.out ?_)
        refine Lib.hid ?_
        have F6 : npF w xp w.heap.size w3.heap.size wo.heap.size nn c A L [] (wo.alloc (.cells #[.string xp] 9)) := ⟨b2.alloc _, b4.alloc _, World.ownsRow.alloc HO.out _, Boxed.new _ _ _, by simp, hB.alloc hwz _⟩
        obtain ⟨B4, hB4e⟩ : ∃ b, w3.heap.size = b := ⟨_, rfl⟩
        rw [hB4e] at F6 ⊢
        obtain ⟨BP, hBPe⟩ : ∃ b, wo.heap.size = b := ⟨_, rfl⟩
        rw [hBPe] at F6 ⊢
        generalize wo.alloc (.cells #[.string xp] 9) = w7 at *
        clear b2 b4 HO hB c2 f2 c4 hwz hB4e hBPe
        gi_wp2
        refine wpIn_loop (npI w xp z w.heap.size B4 BP nn c A L) (fun a _ => 2 - (intOf (a.tmps.getD 10 undef)).toNat) (npI_intro _ 0 [] (by omega) rfl rfl rfl rfl rfl rfl rfl rfl List.nodup_nil F6) ?_
        clear F6
        rintro a W ⟨i, Ds, u, hi, rfl, hnd, F⟩
        by_cases hi2 : i < 2
        · have i1 : (i : Int) < 2 := by omega
          have hWw : w.heap.size ≤ W.heap.size := F.2.2.2.2.2.size
          have hDs : ∀ D ∈ Ds, D < W.heap.size := fun D hD => (Array.getElem?_eq_some_iff.1 (F.2.2.2.2.1 D hD).2).1
          gi_wp2
          have F1 := F.alloc (.cells #[.int .i64 0] 3)
          have hsz1 : (W.alloc (.cells #[.int .i64 0] 3)).heap.size = W.heap.size + 1 := World.size_alloc _ _
          refine wpIn_rangeFunc_ownF rfl h1 (gf := 50) (lb := #[.pointer (some ⟨BP, 0, none⟩)]) rfl trivial (enters_of Tryd.func50 (by kernel_rfl) rfl)
            (HSEQ.out (W.heap.size + 1) (n - 1) (by omega) _ BP (Nat.le_of_eq hsz1.symm) F1.2.2.2.1.cell F1.2.2.2.1.lt) kh_t kh_b (Below.refl _ _) (fun _ => rfl)
            (fun pre W' => Boxed W' W.heap.size 3 (.int .i64 (pre.length : Int)) ∧ npF w xp w.heap.size B4 BP nn c A L Ds W' ∧ pre.map (·.1) <+: idx 0 L)
            (fun c' pre W' => c' = .ret ∧ ¬ (pre.map (·.1) <+: idx 0 L))
            ?own1B (fun c' => ?own2B) ⟨Boxed.new _ _ _, F1, by simp⟩ ?frameB ?assignB ?bodyB ?doneB ?stopB
          case own1B =>
            rintro pre X Y row ⟨hb, hf, hp⟩ hg hr
            exact ⟨boxed_kept hb hg hr, npF_own (β := Unit) (by omega) (fun D hD => by have := hDs D hD; omega) () X Y row hf hg hr, hp⟩
          case own2B => intro pre X Y row hs hg hr; exact hs
          case assignB =>
            intro l x W K hK
            gi_wp2
            exact hK
          case bodyB =>
            rintro l pre x W2 ⟨b0, F2, hpre⟩ hlen
            have c0 := b0.cell
            have f0 := b0.frozen
            have c2 := F2.1.cell
            have f2 := F2.1.frozen
            have c4 := F2.2.1.cell
            obtain ⟨hx0, hx1⟩ := pre_next x.2 hpre
            rw [List.length_map] at hx0 hx1
            obtain ⟨g1, g2, g3⟩ := idx_get _ _ _ x.2
            obtain ⟨⟨kx, lx⟩, hxm⟩ := x
            simp only [Nat.sub_zero] at g1 g2 g3 hx0 hx1
            obtain ⟨m, hm⟩ : ∃ m, pre.length = m := ⟨_, rfl⟩
            rw [hm] at hx0 hx1 hlen b0 c0
            by_cases hkm : kx = m
            · subst hkm
              have hpn := hx0 rfl
              have hkn : kx < nn := by rw [← HLN.out]; exact g1
              have i2 : ¬ ((nn : Int) ≤ (kx : Int)) := by omega
              have i3 : (kx : Int) < (nn : Int) := by omega
              obtain ⟨bq, oq, hA, hcq⟩ := (F2.2.2.1.sl HLN.out).addr (by rw [HLN.out]; omega)
              have hcm := hcq kx g1
              rw [← g3, strv_text] at hcm
              subst hA
              clear hcq g3 hx0 hx1 hpre
              generalize mkS lx = sx at *
              have hnx : kx + 1 ≤ 9223372036854775807 := by omega
              gi_wp2
              refine ⟨KeepsOthers.setCell _ _ _, kh_set (by omega) _ _, ?_, F2.set _ _ b0 hWw, by rw [List.map_append]; exact hpn⟩
              have h0 := b0.set (.int .i64 ((kx : Int) + 1))
              rw [List.length_append, hm]
              exact h0
            · have hne : ((kx : Int) != (m : Int)) = true := by rw [bne_iff_ne]; omega
              have hbad := hx1 hkm
              clear hx0 hx1 hkm g3 hpre
              gi_wp2
              exact ⟨KeepsOthers.setCell _ _ _, rfl, by rw [List.map_append]; exact hbad⟩
          case stopB =>
            rintro D cc pre W3 hD hpre ⟨rfl, hbad⟩ hK
            exfalso
            apply hbad
            have h := hpre.map (fun x : PN L => x.1)
            rwa [List.attach_map_subtype_val] at h
          case doneB =>
            rintro D xs W3 hD rfl ⟨b0, F3, -⟩ hK
            rw [List.length_attach, idx_len, HLN.out] at b0
            have c0 := b0.cell
            have c4 := F3.2.1.cell
            have hDW : D < W3.heap.size := (Array.getElem?_eq_some_iff.1 hK).1
            have hDn : W.heap.size < D := by omega
            have F3' := F3.more (by omega) hK
            have hnd' : (D :: Ds).Nodup := List.nodup_cons.2 ⟨fun h => by have := hDs D h; omega, hnd⟩
            have hDs' : ∀ D' ∈ D :: Ds, D' < W3.heap.size := fun D' hD' => (Array.getElem?_eq_some_iff.1 (F3'.2.2.2.2.1 D' hD').2).1
            have hw3 : w.heap.size ≤ W3.heap.size := F3'.2.2.2.2.2.size
            clear hK F3
            gi_wp2
            refine wpIn_rangeFunc_ownF rfl h1 (gf := 50) (lb := #[.pointer (some ⟨BP, 0, none⟩)]) rfl trivial (enters_of Tryd.func50 (by kernel_rfl) rfl)
              (HSEQ.out W3.heap.size (n - 1) (by omega) _ BP (Nat.le_refl _) F3'.2.2.2.1.cell F3'.2.2.2.1.lt) kh_t kh_b (Below.refl _ _) (fun _ => rfl)
              (fun pre W' => npF w xp w.heap.size B4 BP nn c A L (D :: Ds) W')
              (fun c' pre W' => c' = .exit 8 ∧ npF w xp w.heap.size B4 BP nn c A L (D :: Ds) W')
              (npF_own hw3 hDs') (fun c' => ?own4B) F3' ?frame2B ?assign2B ?body2B ?done2B ?stop2B
            case own4B =>
              rintro pre X Y row ⟨hc, hf⟩ hg hr
              exact ⟨hc, npF_own (β := Unit) hw3 hDs' () X Y row hf hg hr⟩
            case assign2B =>
              intro l x W K hK
              gi_wp2
              exact hK
            case body2B =>
              rintro l pre x W4 F4 hlen
              gi_wp2
              exact ⟨KeepsOthers.refl _, rfl, F4⟩
            case done2B =>
              rintro D2 xs W4 hD2 rfl F4 hK2
              gi_wp2
              refine ⟨npI_intro _ (i + 1) (D2 :: D :: Ds) (by omega) rfl rfl rfl rfl rfl rfl rfl (congrArg (Value.int .i64) (by omega)) (List.nodup_cons.2 ⟨fun h => by have := hDs' D2 h; omega, hnd'⟩) (F4.more (by omega) hK2), ?_⟩
              show 2 - ((i : Int) + 1).toNat < 2 - (i : Int).toNat
              omega
            case stop2B =>
              rintro D2 cc pre W4 hD2 hpre ⟨rfl, F4⟩ hK2
              gi_wp2
              refine ⟨npI_intro _ (i + 1) (D2 :: D :: Ds) (by omega) rfl rfl rfl rfl rfl rfl rfl (congrArg (Value.int .i64) (by omega)) (List.nodup_cons.2 ⟨fun h => by have := hDs' D2 h; omega, hnd'⟩) (F4.more (by omega) hK2), ?_⟩
              show 2 - ((i : Int) + 1).toNat < 2 - (i : Int).toNat
              omega
        · have hi3 : i = 2 := by omega
          subst hi3
          have c4 := F.2.1.cell
          gi_wp2_with (refine ⟨trivial, ?_⟩; gi_at_call 33; refine (callsIn_wide.2 (HDE.out _)).mono ?_; rintro e w8 ⟨rfl, hc8⟩; refine Hid.out ?_)
          refine Lib.hid ?_
          have F8 := F.below (Nat.le_refl _) F.2.2.2.2.2.size (Chg.below hc8)
          clear hc8 F
          gi_wp2_with (refine ⟨trivial, ?_⟩; gi_at_call 13; refine (callsIn_wide.2 (HWK.out _)).mono ?_; rintro e w9 ⟨rfl, hc9⟩; refine Hid.out ?_)
          refine Lib.hid ?_
          have F9 := F8.below (Nat.le_refl _) F8.2.2.2.2.2.size (Chg.below hc9)
          clear hc9 F8
          have c2 := F9.1.cell
          have f2 := F9.1.frozen
          gi_wp2
          have hw9 := F9.2.2.2.2.2.size
          exact leaves_all w.heap.size 4 (.bool true) w.heap.size w (Nat.le_refl _) (fun W' hb' hB' => ⟨.bool true, by simp [results, Tryd.f10, go_sem, hb'.cell], rfl, hB'⟩) Ds _ hnd (fun D hD => ⟨(F9.2.2.2.2.1 D hD).1, (KeepsOthers.setCell w9 ⟨w.heap.size, 0, none⟩ (.bool true)).same D _ (F9.2.2.2.2.1 D hD).2 rfl⟩) (F9.1.set _) (F9.2.2.2.2.2.setCell (p := ⟨w.heap.size, 0, none⟩) (Nat.le_refl _) _)
theorem nameParts_walk (w : World) (s1 : ByteArray) (hs1 : s1.size ≤ 140737488351232) :
    Calls Tryd.prog 10 #[.string s1] w fun e w' => e = .returned (.bool true) ∧ Below w.heap.size w w' :=
  callsIn_wide.1 (nameParts_core 3 (Nat.le_refl _) w s1 hs1)
end Go.Proofs.YtkjbbidnpnecjaaDoor
