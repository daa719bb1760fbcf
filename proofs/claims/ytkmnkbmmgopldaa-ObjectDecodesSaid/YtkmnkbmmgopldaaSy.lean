/-
  The reference's Id; says: does an object answer what it must?
-/
import Derived.Test.YtkmnkbmmgopldaaCp
import Derived.Test.YtkmnkbmmgopldaaRef1a
namespace Go.Proofs.Ytkmnkbmmgopldaa
open Go.RowKit
set_option linter.unusedVariables false
set_option linter.unusedSimpArgs false
set_option maxRecDepth 100000

theorem refid_calls (w : World) (A : Option Addr) (n c : Nat) (xs : List UInt8) (h : Bytes w (.slice A n c) xs) (hl : xs.length = n) (hx : n ≤ 140737488355328) :
    Calls Try.prog 26 #[.slice A n c] w fun e w' => e = .returned (.int .u64 (idF xs : Int)) ∧ w = w' := by
  have HF : Hid (idF xs = if hashF xs = 0 then 1 else hashF xs) := by
    rw [Hid, idF]
    split <;> omega
  go_enter Try.func26, Try.ntmps26
  go_wp2_with fail
  refine (refhash_calls w A n c xs h hl hx).mono ?_
  rintro e w1 ⟨rfl, rfl⟩
  clear h hl
  generalize hashF xs = q at *
  by_cases h1 : q = 0
  · subst h1
    go_wp2
    go_ret
    exact ⟨by rw [HF.out]; rfl, rfl⟩
  · have h2 : ((q : Int) != 0) = true := by simp; omega
    go_wp2
    go_ret
    exact ⟨by rw [HF.out, if_neg h1]; rfl, rfl⟩
theorem slOwn {w : World} {base n c : Nat} {A : Option Addr} {L : List Nat} (h : w.ownsRow base 24 1 (.slice A n c) n (L.map u64v)) (hl : L.length = n) : Sl u64v w (.slice A n c) L := by
  subst hl; exact Holds.ofOwn h
theorem store_rows {w w' : World} {base g i : Nat} {v : Value} (h : Chg No w w') (hb : w.heap.size ≤ base) (hg : base ≤ g) : Chg No w (w'.setCell ⟨g, i, none⟩ v) := h.setCell (.inl (Nat.le_trans hb hg)) _


set_option maxHeartbeats 6400000 in
theorem says_ok (w : World) (o : Value) (kd : Nat) (bs : List UInt8) (hbl : bs.length ≤ 1000000) (he : Encodes w o 0 bs)
    (hck : ∀ W, Chg No w W → Calls Try.prog 14 #[o] W fun e w' => e = .returned (.int .i64 0) ∧ Chg No W w')
    (hkd : ∀ W, Calls Try.prog 23 #[o] W fun e w' => e = .returned (.int .i64 (kd : Nat)) ∧ W = w')
    (L : List Nat) (hll : L.length ≤ 1000) (hlk : LinksIs w o L) (Aw : Option Addr) (nw cw : Nat) (hw : Bytes w (.slice Aw nw cw) bs) (hwl : (bs : List UInt8).length = nw) (Al : Option Addr) (nl cl : Nat) (hL : Sl u64v w (.slice Al nl cl) L) :
    Calls Try.prog 32 #[o, .int .i64 (kd : Nat), .slice Aw nw cw, .int .i64 0, .slice Al nl cl] w fun e w' => e = .returned (.bool true) ∧ Chg No w w' := by
  have HSM : Hid (∀ W, Chg No w W → Calls Try.prog 24 #[o, o] W fun e w' => e = .returned (.bool true) ∧ Chg No W w') := by
    intro W hW
    have := same_calls W o o 0 0 bs bs (he.no hW) (he.no hW)
    simp only [decide_true, Bool.and_true] at this
    exact this
  have HOF : Hid (∀ W, Chg No w W → Calls Try.prog 30 #[o] W fun e w' => e = .returned (.tuple #[.int .u64 ((idF bs : Nat) : Int), .int .i64 0]) ∧ Chg No W w') := by
    intro W hW
    have := of_calls W o 0 bs (he.no hW) (by omega)
    rw [if_pos rfl] at this
    exact this
  have HEN := Lib.hid he
  have HCK := Lib.hid hck
  have HKD := Lib.hid hkd
  obtain ⟨n5, hn5⟩ : ∃ n5, L.length = n5 := ⟨_, rfl⟩
  have hl5 : n5 ≤ 1000 := by omega
  have HN5 := Lib.hid hn5
  unfold LinksIs at hlk
  rw [hn5] at hlk
  have HLK := Lib.hid hlk
  have HW := Lib.hid hw
  have HWL := Lib.hid hwl
  have HL := Lib.hid hL
  have HLL := Lib.hid hL.len
  have hnw : nw ≤ 1000000 := by omega
  have hnl : nl ≤ 1000 := by have := hL.len; omega
  clear he hck hkd hlk hw hwl hL hn5 hll
  go_enter Try.func32, Try.ntmps32
  go_wp2_with fail
  refine (HCK.out _ (Chg.refl _ _)).mono ?_
  rintro e w1 ⟨rfl, hc1⟩
  have HC1 := Lib.hid hc1
  clear hc1
  go_wp2_with fail
  refine (HKD.out _).mono ?_
  rintro e w' ⟨rfl, rfl⟩
  go_wp2_with fail
  refine (HSM.out _ HC1.out).mono ?_
  rintro e w2 ⟨rfl, hc2⟩
  have HC2 := Lib.hid (HC1.out.no hc2)
  clear hc2 HC1 HSM
  go_wp2
  go_loopw [11] (fun i wr => ∃ r : Nat, r ≤ 2 ∧ i = .int .i64 (r : Int) ∧ Hid (Chg No w wr)) (fun i _ => 2 - (intOf i).toNat)
  case atStart => exact ⟨0, by omega, rfl, HC2.out⟩
  case round =>
    obtain ⟨r, hr, rfl, HC⟩ := hrel
    generalize wr = wo at *
    by_cases hlt : r < 2
    · skip
      go_wp2_with fail
      refine (HEN.out wo HC.out).mono ?_
      rintro e w3 ⟨v3, rfl, ho3, hc3⟩
      obtain ⟨A3, n3, c3, rfl, HL3, HO3⟩ := ho3.form
      have HC3 := Lib.hid (HC.out.no hc3)
      have hn3 : n3 ≤ 1000000 := by have := HL3.out; omega
      have HEQ : Hid (Calls Try.prog 22 #[.slice A3 n3 c3, .slice Aw nw cw] w3 fun e w' => e = .returned (.bool true) ∧ w3 = w') := by
        have := equal_calls w3 A3 n3 c3 bs Aw nw cw bs HO3.out.bytes (HW.out.no HC3.out)
        rw [decide_eq_true rfl] at this
        exact this.mono fun _ _ h => ⟨h.1, h.2.symm⟩
      have HO : Hid (w3.ownsRow wo.heap.size 5 1 (.slice A3 n3 c3) n3 (u8s bs)) := by have := HO3.out.n HL3.out; exact this
      have hsz3 : wo.heap.size ≤ w3.heap.size := hc3.size
      clear ho3 hc3 HO3
      have hwr : w.heap.size ≤ wo.heap.size := HC.out.size
      go_wp2_with fail
      refine HEQ.out.mono ?_
      rintro e w' ⟨rfl, rfl⟩
      clear HEQ
      go_wp2
      go_loopw [57] (fun j wr => ∃ (i : Nat) (cs : List Value), i ≤ n3 ∧ j = .int .i64 (i : Int) ∧ wo.heap.size ≤ wr.heap.size ∧ Hid (wr.ownsRow wo.heap.size 5 1 (.slice A3 n3 c3) n3 cs) ∧ Hid (Chg No w wr)) (fun j _ => n3 - (intOf j).toNat)
      case atStart => exact ⟨0, _, Nat.zero_le _, rfl, hsz3, HO.out, HC3.out⟩
      case round =>
        obtain ⟨i, cs, hi, rfl, hszj, HOj, HCj⟩ := hrel
        by_cases hin : i < n3
        · obtain ⟨g3, rfl, hg3, -, hput⟩ := own_put HOj.out (by omega)
          obtain ⟨⟨u, hu, -⟩, hf, hset⟩ := hput i (by omega)
          have hicap : (i : Int) < (n3 : Int) := by omega
          go_wp2
          go_roundw
          case rel => exact ⟨i + 1, _, by omega, by simp, by rw [World.size_setCell]; exact hszj, hset _, store_rows HCj.out hwr hg3⟩
          case measure => simp [intOf]; omega
        · have hin2 : ¬ (i : Int) < (n3 : Int) := by omega
          clear HO HC3
          have own8 := Lib.hid (World.ownsRow.alloc HOj.out (.cells #[.int .u8 170, .int .u8 170] 5))
          have hwj : wo.heap.size ≤ wr.heap.size := by
            rcases HOj.out.2 with ⟨he, -⟩ | ⟨g, cap, cur, he, hg, hh, -⟩
            · exact hszj
            · have := (Array.getElem?_eq_some_iff.1 hh).1; omega
          have src8 : Hid (Src Try.prog 1 38 (.slice (some ⟨wr.heap.size, 0, none⟩) 2 2) 2 [.int .u8 170, .int .u8 170] (wr.alloc (.cells #[.int .u8 170, .int .u8 170] 5))) := Src.two Try.underlying38 _ _ _ (Chg.refl _ _) rfl (by simp [Value.oneCell'])
          go_wp2_with (at_builtin; (refine wpList_app2 rfl (.tmp 64) (.tmp 65) 38 38 rfl wo.heap.size 5 (.int .u8 0) 1 1 infoU8 Try.underlying38 rfl (by decide) (.slice A3 n3 c3) (.slice (some ⟨wr.heap.size, 0, none⟩) 2 2) n3 2 (cs) ([.int .u8 170, .int .u8 170]) rfl rfl ?own ?src ?b1 ?b2 ?b3 ?_; (case own => exact own8.out); (case src => exact src8.out); (case b1 => omega); (case b2 => unfold maxLen; omega); (case b3 => (simp only [World.size_alloc]; omega)); intro v8 w8 hown8 hg8 hfrom8; refine Hid.out ?_))
          refine Lib.hid ?_
          obtain ⟨A8, c8, rfl⟩ := ownsRow_form hown8
          have HC8 : Hid (Chg No w w8) := (HCj.out.alloc _).grown hg8 (fun q hq => .inl (Nat.le_trans hwr (World.ownsRow.lt HOj.out q hq).1))
          clear hown8 hg8 hfrom8 own8 src8
          have h2 : ¬ ((n3 + 2 : Nat) : Int) < 2 := by omega
          go_wp2
          go_roundw
          case rel => exact ⟨r + 1, by omega, by simp, HC8.out⟩
          case measure => simp [intOf]; omega
    · have hr2 : ¬ (r : Int) < 2 := by omega
      clear HEN HCK HKD
      go_wp2_with fail
      refine (HOF.out wo HC.out).mono ?_
      rintro e w4 ⟨rfl, hc4⟩
      have HC4 := Lib.hid (HC.out.no hc4)
      clear hc4 HOF HC
      have HRI : Hid (Calls Try.prog 26 #[.slice Aw nw cw] w4 fun e w' => e = .returned (.int .u64 (idF bs : Int)) ∧ w4 = w') := refid_calls w4 Aw nw cw bs (HW.out.no HC4.out) HWL.out (by omega)
      generalize idF bs = q at *
      go_wp2_with fail
      refine HRI.out.mono ?_
      rintro e w' ⟨rfl, rfl⟩
      clear HRI
      go_wp2_with fail
      refine (HLK.out w4 HC4.out).mono ?_
      rintro e w5 ⟨A5, c5, rfl, ho5, hc5⟩
      have HC5 := Lib.hid (HC4.out.no hc5)
      have HO5 := Lib.hid ho5
      clear ho5 hc5
      have HI5 : Hid (Calls Try.prog 43 #[.slice A5 n5 c5, .slice Al nl cl] w5 fun e w' => e = .returned (.bool true) ∧ Chg No w5 w') := by
        have := ids_calls w5 A5 n5 c5 L Al nl cl L (slOwn HO5.out HN5.out) (HL.out.no HC5.out) (by omega)
        rw [decide_eq_true rfl] at this
        exact this
      have HO5' : Hid (w5.ownsRow w4.heap.size 24 1 (.slice A5 n5 c5) n5 (L.map u64v)) := HO5.out
      have hw4 : w.heap.size ≤ w4.heap.size := HC4.out.size
      go_wp2_with fail
      refine HI5.out.mono ?_
      rintro e w6 ⟨rfl, hc6⟩
      have HC6 := Lib.hid (HC5.out.no hc6)
      have HO6 := Lib.hid (ownsRow_chg HO5'.out hc6 (fun _ _ x => x))
      clear hc6 HI5 HO5 HO5'
      go_wp2
      go_loopw [106] (fun j wr => ∃ (i : Nat) (cs : List Value), i ≤ n5 ∧ j = .int .i64 (i : Int) ∧ Hid (wr.ownsRow w4.heap.size 24 1 (.slice A5 n5 c5) n5 cs) ∧ Hid (Chg No w wr)) (fun j _ => n5 - (intOf j).toNat)
      case atStart => exact ⟨0, _, Nat.zero_le _, rfl, HO6.out, HC6.out⟩
      case round =>
        obtain ⟨i, cs, hi, rfl, HOj, HCj⟩ := hrel
        by_cases hin : i < n5
        · obtain ⟨g3, rfl, hg3, -, hput⟩ := own_put HOj.out (by omega)
          obtain ⟨⟨u, hu, -⟩, hf, hset⟩ := hput i (by omega)
          have hicap : (i : Int) < (n5 : Nat) := by omega
          go_wp2
          go_roundw
          case rel => exact ⟨i + 1, _, by omega, by simp, hset _, store_rows HCj.out hw4 hg3⟩
          case measure => simp [intOf]; omega
        · have hin2 : ¬ (i : Int) < (n5 : Nat) := by omega
          clear HOj HO6 HC6 HC5 HC4
          go_wp2_with fail
          refine (HLK.out wr HCj.out).mono ?_
          rintro e w7 ⟨A7, c7, rfl, ho7, hc7⟩
          have HC7 := Lib.hid (HCj.out.no hc7)
          have HI7 : Hid (Calls Try.prog 43 #[.slice A7 n5 c7, .slice Al nl cl] w7 fun e w' => e = .returned (.bool true) ∧ Chg No w7 w') := by
            have := ids_calls w7 A7 n5 c7 L Al nl cl L (slOwn ho7 HN5.out) (HL.out.no HC7.out) (by omega)
            rw [decide_eq_true rfl] at this
            exact this
          clear ho7 hc7
          go_wp2_with fail
          refine HI7.out.mono ?_
          rintro e w8 ⟨rfl, hc8⟩
          go_wp2
          go_ret
          exact ⟨rfl, HC7.out.no hc8⟩

set_option maxHeartbeats 6400000 in
theorem says_no (w : World) (o : Value) (kd : Nat) (k : Int) (hk : k ≠ 0) (he : Encodes w o k [])
    (hck : ∀ W, Chg No w W → Calls Try.prog 14 #[o] W fun e w' => e = .returned (.int .i64 k) ∧ Chg No W w')
    (hkd : ∀ W, Calls Try.prog 23 #[o] W fun e w' => e = .returned (.int .i64 (kd : Nat)) ∧ W = w')
    (hlk : LinksIs w o []) (Aw : Option Addr) (nw cw : Nat) (hw : Bytes w (.slice Aw nw cw) []) (hwl : ([] : List UInt8).length = nw) (Al : Option Addr) (nl cl : Nat)  :
    Calls Try.prog 32 #[o, .int .i64 (kd : Nat), .slice Aw nw cw, .int .i64 k, .slice Al nl cl] w fun e w' => e = .returned (.bool true) ∧ Chg No w w' := by
  have HSM : Hid (∀ W, Chg No w W → Calls Try.prog 24 #[o, o] W fun e w' => e = .returned (.bool false) ∧ Chg No W w') := by
    intro W hW
    have := same_calls W o o k k [] [] (he.no hW) (he.no hW)
    rw [show (k == 0) = false by simpa using hk, Bool.false_and, Bool.false_and] at this
    exact this
  have HOF : Hid (∀ W, Chg No w W → Calls Try.prog 30 #[o] W fun e w' => e = .returned (.tuple #[.int .u64 ((0 : Nat) : Int), .int .i64 k]) ∧ Chg No W w') := by
    intro W hW
    have := of_calls W o k [] (he.no hW) (by simp)
    rw [if_neg hk] at this
    exact this
  have HEN := Lib.hid he
  have HCK := Lib.hid hck
  have HKD := Lib.hid hkd
  unfold LinksIs at hlk
  rw [List.length_nil] at hlk
  have HLK := Lib.hid hlk
  have HW := Lib.hid hw
  have HWL := Lib.hid hwl
  have hkb : (k == 0) = false := by simpa using hk
  have hkn : (k != 0) = true := by simpa using hk
  have hnw : nw = 0 := by simpa using hwl.symm
  subst hnw
  have HL : Hid (Sl u64v w (.slice none 0 0) []) := Holds.nil w
  clear he hck hkd hlk hw hwl
  go_enter Try.func32, Try.ntmps32
  go_wp2_with fail
  refine (HCK.out _ (Chg.refl _ _)).mono ?_
  rintro e w1 ⟨rfl, hc1⟩
  have HC1 := Lib.hid hc1
  clear hc1
  go_wp2_with fail
  refine (HKD.out _).mono ?_
  rintro e w' ⟨rfl, rfl⟩
  go_wp2_with fail
  refine (HSM.out _ HC1.out).mono ?_
  rintro e w2 ⟨rfl, hc2⟩
  have HC2 := Lib.hid (HC1.out.no hc2)
  clear hc2 HC1 HSM
  go_wp2
  go_loopw [11] (fun i wr => ∃ r : Nat, r ≤ 2 ∧ i = .int .i64 (r : Int) ∧ Hid (Chg No w wr)) (fun i _ => 2 - (intOf i).toNat)
  case atStart => exact ⟨0, by omega, rfl, HC2.out⟩
  case round =>
    obtain ⟨r, hr, rfl, HC⟩ := hrel
    generalize wr = wo at *
    by_cases hlt : r < 2
    · skip
      go_wp2_with fail
      refine (HEN.out wo HC.out).mono ?_
      rintro e w3 ⟨v3, rfl, ho3, hc3⟩
      obtain ⟨A3, n3, c3, rfl, HL3, HO3⟩ := ho3.form
      have HC3 := Lib.hid (HC.out.no hc3)
      have hn3 : n3 ≤ 1000000 := by have := HL3.out; simp at this; omega
      have HEQ : Hid (Calls Try.prog 22 #[.slice A3 n3 c3, .slice Aw 0 cw] w3 fun e w' => e = .returned (.bool true) ∧ w3 = w') := by
        have := equal_calls w3 A3 n3 c3 [] Aw 0 cw [] HO3.out.bytes (HW.out.no HC3.out)
        rw [decide_eq_true rfl] at this
        exact this.mono fun _ _ h => ⟨h.1, h.2.symm⟩
      have HO : Hid (w3.ownsRow wo.heap.size 5 1 (.slice A3 n3 c3) n3 (u8s [])) := by have := HO3.out.n HL3.out; exact this
      have hsz3 : wo.heap.size ≤ w3.heap.size := hc3.size
      clear ho3 hc3 HO3
      have hwr : w.heap.size ≤ wo.heap.size := HC.out.size
      go_wp2_with fail
      refine HEQ.out.mono ?_
      rintro e w' ⟨rfl, rfl⟩
      clear HEQ
      go_wp2
      go_loopw [57] (fun j wr => ∃ (i : Nat) (cs : List Value), i ≤ n3 ∧ j = .int .i64 (i : Int) ∧ wo.heap.size ≤ wr.heap.size ∧ Hid (wr.ownsRow wo.heap.size 5 1 (.slice A3 n3 c3) n3 cs) ∧ Hid (Chg No w wr)) (fun j _ => n3 - (intOf j).toNat)
      case atStart => exact ⟨0, _, Nat.zero_le _, rfl, hsz3, HO.out, HC3.out⟩
      case round =>
        obtain ⟨i, cs, hi, rfl, hszj, HOj, HCj⟩ := hrel
        by_cases hin : i < n3
        · obtain ⟨g3, rfl, hg3, -, hput⟩ := own_put HOj.out (by omega)
          obtain ⟨⟨u, hu, -⟩, hf, hset⟩ := hput i (by omega)
          have hicap : (i : Int) < (n3 : Int) := by omega
          go_wp2
          go_roundw
          case rel => exact ⟨i + 1, _, by omega, by simp, by rw [World.size_setCell]; exact hszj, hset _, store_rows HCj.out hwr hg3⟩
          case measure => simp [intOf]; omega
        · have hin2 : ¬ (i : Int) < (n3 : Int) := by omega
          clear HO HC3
          have own8 := Lib.hid (World.ownsRow.alloc HOj.out (.cells #[.int .u8 170, .int .u8 170] 5))
          have hwj : wo.heap.size ≤ wr.heap.size := by
            rcases HOj.out.2 with ⟨he, -⟩ | ⟨g, cap, cur, he, hg, hh, -⟩
            · exact hszj
            · have := (Array.getElem?_eq_some_iff.1 hh).1; omega
          have src8 : Hid (Src Try.prog 1 38 (.slice (some ⟨wr.heap.size, 0, none⟩) 2 2) 2 [.int .u8 170, .int .u8 170] (wr.alloc (.cells #[.int .u8 170, .int .u8 170] 5))) := Src.two Try.underlying38 _ _ _ (Chg.refl _ _) rfl (by simp [Value.oneCell'])
          go_wp2_with (at_builtin; (refine wpList_app2 rfl (.tmp 64) (.tmp 65) 38 38 rfl wo.heap.size 5 (.int .u8 0) 1 1 infoU8 Try.underlying38 rfl (by decide) (.slice A3 n3 c3) (.slice (some ⟨wr.heap.size, 0, none⟩) 2 2) n3 2 (cs) ([.int .u8 170, .int .u8 170]) rfl rfl ?own ?src ?b1 ?b2 ?b3 ?_; (case own => exact own8.out); (case src => exact src8.out); (case b1 => omega); (case b2 => unfold maxLen; omega); (case b3 => (simp only [World.size_alloc]; omega)); intro v8 w8 hown8 hg8 hfrom8; refine Hid.out ?_))
          refine Lib.hid ?_
          obtain ⟨A8, c8, rfl⟩ := ownsRow_form hown8
          have HC8 : Hid (Chg No w w8) := (HCj.out.alloc _).grown hg8 (fun q hq => .inl (Nat.le_trans hwr (World.ownsRow.lt HOj.out q hq).1))
          clear hown8 hg8 hfrom8 own8 src8
          have h2 : ¬ ((n3 + 2 : Nat) : Int) < 2 := by omega
          go_wp2
          go_roundw
          case rel => exact ⟨r + 1, by omega, by simp, HC8.out⟩
          case measure => simp [intOf]; omega
    · have hr2 : ¬ (r : Int) < 2 := by omega
      clear HEN HCK HKD
      go_wp2_with fail
      refine (HOF.out wo HC.out).mono ?_
      rintro e w4 ⟨rfl, hc4⟩
      have HC4 := Lib.hid (HC.out.no hc4)
      clear hc4 HOF HC
      go_wp2_with fail
      refine (HLK.out w4 HC4.out).mono ?_
      rintro e w5 ⟨A5, c5, rfl, ho5, hc5⟩
      have HC5 := Lib.hid (HC4.out.no hc5)
      have HO5 := Lib.hid ho5
      clear ho5 hc5
      have HI5 : Hid (Calls Try.prog 43 #[.slice A5 0 c5, .slice none 0 0] w5 fun e w' => e = .returned (.bool true) ∧ Chg No w5 w') := by
        have := ids_calls w5 A5 0 c5 [] none 0 0 [] (Holds.ofOwn HO5.out) (HL.out.no HC5.out) (by omega)
        rw [decide_eq_true rfl] at this
        exact this
      have HO5' : Hid (w5.ownsRow w4.heap.size 24 1 (.slice A5 0 c5) 0 []) := HO5.out
      have hw4 : w.heap.size ≤ w4.heap.size := HC4.out.size
      go_wp2_with fail
      refine HI5.out.mono ?_
      rintro e w6 ⟨rfl, hc6⟩
      have HC6 := Lib.hid (HC5.out.no hc6)
      have HO6 := Lib.hid (ownsRow_chg HO5'.out hc6 (fun _ _ x => x))
      clear hc6 HI5 HO5 HO5'
      go_wp2
      go_loopw [106] (fun j wr => ∃ (i : Nat) (cs : List Value), i ≤ 0 ∧ j = .int .i64 (i : Int) ∧ Hid (wr.ownsRow w4.heap.size 24 1 (.slice A5 0 c5) 0 cs) ∧ Hid (Chg No w wr)) (fun j _ => 0 - (intOf j).toNat)
      case atStart => exact ⟨0, _, Nat.zero_le _, rfl, HO6.out, HC6.out⟩
      case round =>
        obtain ⟨i, cs, hi, rfl, HOj, HCj⟩ := hrel
        by_cases hin : i < 0
        · exact absurd hin (Nat.not_lt_zero _)
        · have hin2 : ¬ (i : Int) < (0 : Nat) := by omega
          clear HOj HO6 HC6 HC5 HC4
          go_wp2_with fail
          refine (HLK.out wr HCj.out).mono ?_
          rintro e w7 ⟨A7, c7, rfl, ho7, hc7⟩
          have HC7 := Lib.hid (HCj.out.no hc7)
          have HI7 : Hid (Calls Try.prog 43 #[.slice A7 0 c7, .slice none 0 0] w7 fun e w' => e = .returned (.bool true) ∧ Chg No w7 w') := by
            have := ids_calls w7 A7 0 c7 [] none 0 0 [] (Holds.ofOwn ho7) (HL.out.no HC7.out) (by omega)
            rw [decide_eq_true rfl] at this
            exact this
          clear ho7 hc7
          go_wp2_with fail
          refine HI7.out.mono ?_
          rintro e w8 ⟨rfl, hc8⟩
          go_wp2
          go_ret
          exact ⟨rfl, HC7.out.no hc8⟩
end Go.Proofs.Ytkmnkbmmgopldaa
