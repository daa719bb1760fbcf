/-
  The reference's Unquote.
-/
import Derived.Test.YtcomcoolmabmgaaDoorQ12
namespace Go.Proofs.YtcomcoolmabmgaaDoor
open Go.RowKit
set_option linter.unusedVariables false
set_option linter.unusedSimpArgs false

/-- What the reference reads behind the first quote, right or not. -/
def rdF : List UInt8 → List UInt8
  | c :: d :: u =>
    if c ≠ 92 then c :: rdF (d :: u)
    else if d = 120 ∧ 3 ≤ u.length then match u with
      | a :: b :: v => UInt8.ofNat (dg a.toNat % 16 * 16 + dg b.toNat % 16) :: rdF v
      | _ => []
    else (if d = 110 then 10 else d) :: rdF u
  | _ => []
theorem rd_plain (c : UInt8) (u : List UInt8) (h : c ≠ 92) (hu : u ≠ []) : rdF (c :: u) = c :: rdF u := by
  cases u with
  | nil => exact absurd rfl hu
  | cons d u => rw [rdF.eq_def]; simp only; rw [if_pos h]
theorem rd_two (d : UInt8) (u : List UInt8) (h : ¬ (d = 120 ∧ 3 ≤ u.length)) : rdF (92 :: d :: u) = (if d = 110 then 10 else d) :: rdF u := by
  rw [rdF.eq_def]
  simp only
  rw [if_neg (by decide), if_neg h]
theorem rd_x (a b : UInt8) (v : List UInt8) (h : 1 ≤ v.length) : rdF (92 :: 120 :: a :: b :: v) = UInt8.ofNat (dg a.toNat % 16 * 16 + dg b.toNat % 16) :: rdF v := by
  rw [rdF.eq_def]
  simp only
  rw [if_neg (by decide), if_pos (by refine ⟨by first | rfl | trivial, ?_⟩; simp only [List.length_cons]; omega)]
theorem rd_hex (b : UInt8) (u : List UInt8) (hu : u ≠ []) : rdF (92 :: 120 :: hx (b.toNat / 16) :: hx (b.toNat % 16) :: u) = b :: rdF u := by
  have hb : b.toNat < 256 := b.toNat_lt
  rw [rd_x _ _ _ (List.length_pos_iff.2 hu), dg_hx _ (by omega), dg_hx _ (by omega)]
  have e : b.toNat / 16 % 16 * 16 + b.toNat % 16 % 16 = b.toNat := by omega
  rw [e, u8_of _ b rfl]
theorem rd_hexs (bs u : List UInt8) (hu : u ≠ []) : rdF (hexs bs ++ u) = bs ++ rdF u := by
  induction bs with
  | nil => simp [hexs]
  | cons b t ih =>
    have e : hexs (b :: t) ++ u = 92 :: 120 :: hx (b.toNat / 16) :: hx (b.toNat % 16) :: (hexs t ++ u) := rfl
    rw [e, rd_hex _ _ (by simp [hu]), ih]
    simp
theorem rd_bytes (bs u : List UInt8) (h : ∀ b ∈ bs, b ≠ 92) (hu : u ≠ []) : rdF (bs ++ u) = bs ++ rdF u := by
  induction bs with
  | nil => simp
  | cons b t ih => rw [List.cons_append, rd_plain b _ (h b (by simp)) (by simp [hu]), ih (fun x hx => h x (by simp [hx])), List.cons_append]
theorem rd_piece (l u : List UInt8) (h : l ≠ []) (hu : u ≠ []) : rdF (quoteP ((decL l).1, brk l, l.take (decL l).2) ++ u) = l.take (decL l).2 ++ rdF u := by
  unfold quoteP
  simp only
  split
  · rename_i h1
    rw [small_piece l h (by omega)]
    rcases h1 with h1 | h1 <;> rw [h1]
    · exact rd_two 34 u (by simp)
    · exact rd_two 92 u (by simp)
  · split
    · rename_i h1 h2
      rw [small_piece l h (by omega), h2]
      exact rd_two 110 u (by simp)
    · split
      · exact rd_hexs _ u hu
      · rename_i h1 h2 h3
        apply rd_bytes _ _ _ hu
        rcases Nat.lt_or_ge (decL l).1 128 with hr | hr
        · rw [small_piece l h hr]
          intro b hb
          simp only [List.mem_singleton] at hb
          subst hb
          intro he
          have := congrArg UInt8.toNat he
          rw [UInt8.toNat_ofNat'] at this
          have e92 : (92 : UInt8).toNat = 92 := rfl
          omega
        · exact fun b hb => (big_piece l h hr b hb).2
theorem rd_quote : ∀ (n : Nat) (l : List UInt8), l.length ≤ n → rdF ((pcs l).flatMap quoteP ++ [34]) = l := by
  intro n
  induction n with
  | zero =>
    intro l hl
    have : l = [] := List.eq_nil_of_length_eq_zero (by omega)
    subst this
    simp [pcs_nil, rdF]
  | succ n ih =>
    intro l hl
    by_cases h : l = []
    · subst h
      simp [pcs_nil, rdF]
    · obtain ⟨f1, f2, f3⟩ := decL_facts l h
      rw [pcs_cons l h, List.flatMap_cons, List.append_assoc, rd_piece l _ h (by simp), ih _ (by rw [List.length_drop]; omega), List.take_append_drop]
/-- What the reference tells is what Unquote tells. -/
theorem runq_eq (l : List UInt8) : (if quoteF (rdF (l.drop 1)) = l then some (rdF (l.drop 1)) else none) = unqF l := by
  split
  · rename_i h
    conv => rhs; rw [← h]
    rw [unq_quote]
  · rename_i h
    cases hu : unqF l with
    | none => rfl
    | some t =>
      have hq := unq_some hu
      have : rdF (l.drop 1) = t := by
        rw [← hq, quoteF_parts]
        exact rd_quote t.length t (Nat.le_refl _)
      rw [this] at h
      exact absurd hq h

set_option maxRecDepth 100000 in
set_option maxHeartbeats 3200000 in
theorem runquote_calls (w : World) (s : ByteArray) (hs : s.size ≤ 35184372088000) :
    Calls Tryd.prog 47 #[.string s] w fun e w' => e = plainlyR (unqF s.data.toList) ∧ Chg No w w' := by
  have HS := Lib.hid (size_list s)
  by_cases h2 : s.size < 2
  · have HU : Hid (unqF s.data.toList = none) := by rw [Hid, unqF, plainlyF, if_pos (by rw [HS.out]; exact h2)]
    have hi : (s.size : Int) < 2 := by omega
    go_enter Tryd.func47, Tryd.ntmps47
    go_wp2
    go_ret2
    exact ⟨by rw [HU.out]; rfl, Chg.refl _ _⟩
  · have hi : ¬ ((s.size : Int) < 2) := by omega
    go_enter Tryd.func47, Tryd.ntmps47
    go_wp2
    go_loopw [4, 5] (fun v a wr => ∃ (at' : Nat) (A : Option Addr) (n c : Nat) (ys : List UInt8), 1 ≤ at' ∧ at' ≤ s.size ∧ a = .int .i64 (at' : Int) ∧ v = .slice A n c ∧ n ≤ at' ∧ Hid (rdF (s.data.toList.drop 1) = ys ++ rdF (s.data.toList.drop at')) ∧ Hid (ys.length = n) ∧ Hid (OwnB wr w.heap.size (.slice A n c) ys) ∧ w.heap.size ≤ wr.heap.size ∧ Hid (Chg No w wr)) (fun _ a _ => s.size + 4 - (intOf a).toNat)
    case atStart => exact ⟨1, none, 0, 0, [], Nat.le_refl _, by omega, rfl, rfl, by omega, by simp [Hid], rfl, World.ownsRow_nil _ _ _ _, Nat.le_refl _, Chg.refl _ _⟩
    case round =>
      obtain ⟨at', A, n, c, ys, h1at, hat, rfl, rfl, hn, HP, HL, HO, hsz, HC⟩ := hrel
      by_cases hlt : at' + 1 < s.size
      · have i1 : (at' : Int) < (s.size : Int) - 1 := by omega
        have hlt0 : at' < s.size := by omega
        obtain ⟨x, hx⟩ : ∃ x, s[at'] = x := ⟨_, rfl⟩
        have HD : Hid (s.data.toList.drop at' = x :: s.data.toList.drop (at' + 1)) := by
          rw [Hid, List.drop_eq_getElem_cons (by rw [HS.out]; omega), ← hx]; rfl
        by_cases h92 : x = 92
        case neg =>
          have hb92 : ((x.toNat : Int) != 92) = true := bne_iff_ne.2 (fun h => h92 (UInt8.toNat_inj.1 (Int.ofNat.inj h)))
          have HP1 : Hid (rdF (s.data.toList.drop 1) = (ys ++ [x]) ++ rdF (s.data.toList.drop (at' + 1))) := by
            rw [Hid, HP.out, HD.out, rd_plain x _ h92 (List.ne_nil_of_length_pos (by rw [List.length_drop, HS.out]; omega))]
            simp
          clear HP HD h92
          go_wp2_with (at_builtin; (refine wpList_app _ rfl (.tmp 19) (.tmp 23) 57 57 rfl w.heap.size 5 (.int .u8 0) 1 1 infoU8 Tryd.underlying57 rfl (by decide) (.slice A n c) (.slice (some ⟨wr.heap.size, 0, none⟩) 1 1) n 1 (u8s ys) [.int .u8 (x.toNat : Int)] rfl rfl ?own ?src ?b1 ?b2 ?b3 ?_; (case own => exact OwnB.n (HO.out.alloc _) HL.out); (case src => exact Src.one Tryd.underlying57 _ rfl); (case b1 => omega); (case b2 => unfold maxLen; omega); (case b3 => simp; omega); intro v' w' hown hg; refine Hid.out ?_))
          refine Lib.hid ?_
          have hX : OwnB w' w.heap.size v' (ys ++ [x]) := .of hown (by rw [u8s_append]; try rfl)
          obtain ⟨A', n', c', rfl, HL', HO'⟩ := hX.form
          have hn' : n' = n + 1 := by have h1 := HL'.out; have h2 := HL.out; rw [List.length_append] at h1; simp only [List.length_cons, List.length_nil] at h1; omega
          have HC1 : Hid (Chg No w w') := (HC.out.alloc _).grown hg (fun k hk => .inl (HO.out.block k hk).1)
          clear hX hown hg
          go_wp2
          go_roundw
          case rel => exact ⟨at' + 1, A', n', c', ys ++ [x], by omega, by omega, by go_num, rfl, by omega, HP1.out, HL'.out, HO'.out, HC1.out.size, HC1.out⟩
          case measure => simp only [intOf]; omega
        subst h92
        have hib1 : ((at' : Int) + 1).toNat < s.size := by omega
        have hi10 : 0 ≤ (at' : Int) + 1 := by omega
        have hi11 : (at' : Int) + 1 < (s.size : Int) := by omega
        obtain ⟨d, hd⟩ : ∃ x, s[at' + 1] = x := ⟨_, rfl⟩
        have hd' : s[((at' : Int) + 1).toNat]'hib1 = d := by
          have hi1 : ((at' : Int) + 1).toNat = at' + 1 := by omega
          simp only [hi1]; exact hd
        have HDD : Hid (s.data.toList.drop at' = 92 :: d :: s.data.toList.drop (at' + 2)) := by
          rw [Hid, HD.out, List.drop_eq_getElem_cons (by rw [HS.out]; omega), ← hd]; rfl
        clear HD
        by_cases hxx : d = 120 ∧ at' + 4 < s.size
        · obtain ⟨hd1, hx4⟩ := hxx
          subst hd1
          have i3 : (at' : Int) + 3 < (s.size : Int) - 1 := by omega
          have hib2 : ((at' : Int) + 2).toNat < s.size := by omega
          have hib3 : ((at' : Int) + 3).toNat < s.size := by omega
          have hlt2 : at' + 2 < s.size := by omega
          have hlt3 : at' + 3 < s.size := by omega
          obtain ⟨a, ha⟩ : ∃ x, s[at' + 2] = x := ⟨_, rfl⟩
          obtain ⟨b, hb⟩ : ∃ x, s[at' + 3] = x := ⟨_, rfl⟩
          have ha' : s[((at' : Int) + 2).toNat]'hib2 = a := by
            have hi2 : ((at' : Int) + 2).toNat = at' + 2 := by omega
            simp only [hi2]; exact ha
          have hb' : s[((at' : Int) + 3).toNat]'hib3 = b := by
            have hi3 : ((at' : Int) + 3).toNat = at' + 3 := by omega
            simp only [hi3]; exact hb
          have HP1 : Hid (rdF (s.data.toList.drop 1) = (ys ++ [UInt8.ofNat (dg a.toNat % 16 * 16 + dg b.toNat % 16)]) ++ rdF (s.data.toList.drop (at' + 4))) := by
            have e1 : s.data.toList.drop (at' + 2) = a :: b :: s.data.toList.drop (at' + 4) := by
              rw [List.drop_eq_getElem_cons (by rw [HS.out]; omega), List.drop_eq_getElem_cons (by rw [HS.out]; omega), ← ha, ← hb]
              rfl
            rw [Hid, HP.out, HDD.out, e1, rd_x a b _ (by rw [List.length_drop, HS.out]; omega)]
            simp
          have HVa : Hid (∀ w1, Calls Tryd.prog 63 #[.int .u8 (a.toNat : Int)] w1 fun e w' => e = .returned (.int .u8 ((dg a.toNat : Nat) : Int)) ∧ w1 = w') := fun w1 => value_calls w1 _ a.toNat_lt
          have HVb : Hid (∀ w1, Calls Tryd.prog 63 #[.int .u8 (b.toNat : Int)] w1 fun e w' => e = .returned (.int .u8 ((dg b.toNat : Nat) : Int)) ∧ w1 = w') := fun w1 => value_calls w1 _ b.toNat_lt
          have hw2 : IntKind.i64.wrap ((at' : Int) + 2) = ((at' + 2 : Nat) : Int) := by rw [IntKind.wrap_i64]; omega
          have hw3 : IntKind.i64.wrap ((at' : Int) + 3) = ((at' + 3 : Nat) : Int) := by rw [IntKind.wrap_i64]; omega
          obtain ⟨q2, hq2⟩ : ∃ q, at' + 2 = q := ⟨_, rfl⟩
          obtain ⟨q3, hq3⟩ : ∃ q, at' + 3 = q := ⟨_, rfl⟩
          simp only [hq2] at hw2 hlt2 ha
          simp only [hq3] at hw3 hlt3 hb
          have j20 : 0 ≤ (q2 : Int) := by omega
          have j21 : (q2 : Int) < (s.size : Int) := by omega
          have j30 : 0 ≤ (q3 : Int) := by omega
          have j31 : (q3 : Int) < (s.size : Int) := by omega
          clear ha' hb' hib2 hib3
          have ht1 : ((dg a.toNat : Nat) : Int).tmod 16 = ((dg a.toNat % 16 : Nat) : Int) := u8_rem _
          have ht2 : ((dg b.toNat : Nat) : Int).tmod 16 = ((dg b.toNat % 16 : Nat) : Int) := u8_rem _
          clear HP HDD
          generalize dg a.toNat = da at *
          generalize dg b.toNat = db at *
          obtain ⟨pa, hpa⟩ : ∃ x, da % 16 = x := ⟨_, rfl⟩
          obtain ⟨pb, hpb⟩ : ∃ x, db % 16 = x := ⟨_, rfl⟩
          rw [hpa] at ht1
          rw [hpb] at ht2
          obtain ⟨pm, hpm⟩ : ∃ x, pa * 16 = x := ⟨_, rfl⟩
          obtain ⟨y, hy⟩ : ∃ y : UInt8, UInt8.ofNat (pm + pb) = y := ⟨_, rfl⟩
          have hm1 : IntKind.u8.wrap ((pa : Int) * 16) = (pm : Int) := by rw [IntKind.wrap_u8]; omega
          have hm2 : IntKind.u8.wrap ((pm : Int) + (pb : Int)) = (y.toNat : Int) := by
            rw [IntKind.wrap_u8, ← hy, UInt8.toNat_ofNat']; omega
          rw [hpa, hpb, hpm, hy] at HP1
          clear hpa hpb hpm hy
          go_wp2
          refine wp_region_held_drew (S := fun _ => True) (by kernel_rfl) trivial (fun hSw => ?_)
          refine wpAnyH_take (i := 0) (oi := { dst := some 41, op := Go.Op.move (Go.Operand.tmp 4), type := 57, pos := "ref.go:96", after := #[], guard := none }) (v := ?_) rfl (by kernel_rfl) (by kernel_rfl) (by kernel_rfl) (fun _ _ _ h => h) (Or.inl ⟨by rfl, ?_⟩) hSw ?_
          rotate_left
          · (intro W hW; (try dsimp only at hW); go_simp; try with_reducible rfl)
          try simp only [Act.put, List.setIfInBounds_toArray, List.set_cons_zero, List.set_cons_succ]
          refine wpAnyH_take (i := 1) (oi := { dst := some 42, op := Go.Op.move (Go.Operand.tmp 0), type := 9, pos := "ref.go:96", after := #[], guard := none }) (v := ?_) rfl (by kernel_rfl) (by kernel_rfl) (by kernel_rfl) (fun _ _ _ h => h) (Or.inl ⟨by rfl, ?_⟩) hSw ?_
          rotate_left
          · (intro W hW; (try dsimp only at hW); go_simp; try with_reducible rfl)
          try simp only [Act.put, List.setIfInBounds_toArray, List.set_cons_zero, List.set_cons_succ]
          refine wpAnyH_take (i := 2) (oi := { dst := some 43, op := Go.Op.move (Go.Operand.tmp 5), type := 3, pos := "ref.go:96", after := #[], guard := none }) (v := ?_) rfl (by kernel_rfl) (by kernel_rfl) (by kernel_rfl) (fun _ _ _ h => h) (Or.inl ⟨by rfl, ?_⟩) hSw ?_
          rotate_left
          · (intro W hW; (try dsimp only at hW); go_simp; try with_reducible rfl)
          try simp only [Act.put, List.setIfInBounds_toArray, List.set_cons_zero, List.set_cons_succ]
          refine wpAnyH_take (i := 8) (oi := { dst := some 49, op := Go.Op.move (Go.Operand.tmp 0), type := 9, pos := "ref.go:96", after := #[], guard := none }) (v := ?_) rfl (by kernel_rfl) (by kernel_rfl) (by kernel_rfl) (fun _ _ _ h => h) (Or.inl ⟨by rfl, ?_⟩) hSw ?_
          rotate_left
          · (intro W hW; (try dsimp only at hW); go_simp; try with_reducible rfl)
          try simp only [Act.put, List.setIfInBounds_toArray, List.set_cons_zero, List.set_cons_succ]
          refine wpAnyH_take (i := 9) (oi := { dst := some 50, op := Go.Op.move (Go.Operand.tmp 5), type := 3, pos := "ref.go:96", after := #[], guard := none }) (v := ?_) rfl (by kernel_rfl) (by kernel_rfl) (by kernel_rfl) (fun _ _ _ h => h) (Or.inl ⟨by rfl, ?_⟩) hSw ?_
          rotate_left
          · (intro W hW; (try dsimp only at hW); go_simp; try with_reducible rfl)
          try simp only [Act.put, List.setIfInBounds_toArray, List.set_cons_zero, List.set_cons_succ]
          refine wpAnyH_take (i := 3) (oi := { dst := some 44, op := Go.Op.binOp Go.BinOp.add 3 (Go.Operand.tmp 43) (Go.Operand.const (Go.Value.int Go.IntKind.i64 2)) 3, type := 3, pos := "ref.go:96", after := #[{ on := 2, ground := Go.Ground.data }], guard := none }) (v := ?_) rfl (by kernel_rfl) (by kernel_rfl) (by kernel_rfl) (fun _ _ _ h => h) (Or.inl ⟨by rfl, ?_⟩) hSw ?_
          rotate_left
          · (intro W hW; (try dsimp only at hW); go_simp; try with_reducible rfl)
          try simp only [Act.put, List.setIfInBounds_toArray, List.set_cons_zero, List.set_cons_succ]
          refine wpAnyH_take (i := 10) (oi := { dst := some 51, op := Go.Op.binOp Go.BinOp.add 3 (Go.Operand.tmp 50) (Go.Operand.const (Go.Value.int Go.IntKind.i64 3)) 3, type := 3, pos := "ref.go:96", after := #[{ on := 9, ground := Go.Ground.data }], guard := none }) (v := ?_) rfl (by kernel_rfl) (by kernel_rfl) (by kernel_rfl) (fun _ _ _ h => h) (Or.inl ⟨by rfl, ?_⟩) hSw ?_
          rotate_left
          · (intro W hW; (try dsimp only at hW); go_simp; try with_reducible rfl)
          try simp only [Act.put, List.setIfInBounds_toArray, List.set_cons_zero, List.set_cons_succ]
          refine wpAnyH_take (i := 4) (oi := { dst := some 45, op := Go.Op.index 9 (Go.Operand.tmp 42) (Go.Operand.tmp 44), type := 5, pos := "ref.go:96", after := #[{ on := 1, ground := Go.Ground.data }, { on := 3, ground := Go.Ground.data }], guard := none }) (v := ?_) rfl (by kernel_rfl) (by kernel_rfl) (by kernel_rfl) (fun _ _ _ h => h) (Or.inl ⟨by rfl, ?_⟩) hSw ?_
          rotate_left
          · (intro W hW; (try dsimp only at hW); go_simp; try with_reducible rfl)
          try simp only [Act.put, List.setIfInBounds_toArray, List.set_cons_zero, List.set_cons_succ]
          refine wpAnyH_take (i := 11) (oi := { dst := some 52, op := Go.Op.index 9 (Go.Operand.tmp 49) (Go.Operand.tmp 51), type := 5, pos := "ref.go:96", after := #[{ on := 8, ground := Go.Ground.data }, { on := 10, ground := Go.Ground.data }], guard := none }) (v := ?_) rfl (by kernel_rfl) (by kernel_rfl) (by kernel_rfl) (fun _ _ _ h => h) (Or.inl ⟨by rfl, ?_⟩) hSw ?_
          rotate_left
          · (intro W hW; (try dsimp only at hW); go_simp; try with_reducible rfl)
          try simp only [Act.put, List.setIfInBounds_toArray, List.set_cons_zero, List.set_cons_succ]
          refine wpAnyH_ready (rs := [5]) (by kernel_rfl) (by simp) ?_
          refine AllReadyH.cons (o := { dst := some 46, op := Go.Op.call { callee := Go.Callee.value (Go.Operand.func 63), args := #[Go.Operand.tmp 45], argTypes := #[5] }, type := 5, pos := "ref.go:96", after := #[{ on := 4, ground := Go.Ground.data }], guard := none }) rfl (fun K hK => ?_) AllReadyH.nil
          rw [if_pos (by rfl)]
          go_simp
          refine (HVa.out _).mono ?_
          rintro e w'' ⟨rfl, rfl⟩
          refine hK.out _ _ trivial (fun hSw => ?_)
          clear hK
          try simp only [Act.put, List.setIfInBounds_toArray, List.set_cons_zero, List.set_cons_succ]
          refine wpAnyH_take (i := 6) (oi := { dst := some 47, op := Go.Op.binOp Go.BinOp.rem 5 (Go.Operand.tmp 46) (Go.Operand.const (Go.Value.int Go.IntKind.u8 16)) 5, type := 5, pos := "ref.go:96", after := #[{ on := 5, ground := Go.Ground.data }], guard := none }) (v := ?_) rfl (by kernel_rfl) (by kernel_rfl) (by kernel_rfl) (fun _ _ _ h => h) (Or.inl ⟨by rfl, ?_⟩) hSw ?_
          rotate_left
          · (intro W hW; (try dsimp only at hW); go_simp; try with_reducible rfl)
          try simp only [Act.put, List.setIfInBounds_toArray, List.set_cons_zero, List.set_cons_succ]
          refine wpAnyH_take (i := 7) (oi := { dst := some 48, op := Go.Op.binOp Go.BinOp.mul 5 (Go.Operand.tmp 47) (Go.Operand.const (Go.Value.int Go.IntKind.u8 16)) 5, type := 5, pos := "ref.go:96", after := #[{ on := 6, ground := Go.Ground.data }], guard := none }) (v := ?_) rfl (by kernel_rfl) (by kernel_rfl) (by kernel_rfl) (fun _ _ _ h => h) (Or.inl ⟨by rfl, ?_⟩) hSw ?_
          rotate_left
          · (intro W hW; (try dsimp only at hW); go_simp; try with_reducible rfl)
          try simp only [Act.put, List.setIfInBounds_toArray, List.set_cons_zero, List.set_cons_succ]
          refine wpAnyH_ready (rs := [12]) (by kernel_rfl) (by simp) ?_
          refine AllReadyH.cons (o := { dst := some 53, op := Go.Op.call { callee := Go.Callee.value (Go.Operand.func 63), args := #[Go.Operand.tmp 52], argTypes := #[5] }, type := 5, pos := "ref.go:96", after := #[{ on := 11, ground := Go.Ground.data }, { on := 5, ground := Go.Ground.chain }], guard := none }) rfl (fun K hK => ?_) AllReadyH.nil
          rw [if_pos (by rfl)]
          go_simp
          refine (HVb.out _).mono ?_
          rintro e w'' ⟨rfl, rfl⟩
          refine hK.out _ _ trivial (fun hSw => ?_)
          clear hK
          try simp only [Act.put, List.setIfInBounds_toArray, List.set_cons_zero, List.set_cons_succ]
          refine wpAnyH_take (i := 13) (oi := { dst := some 54, op := Go.Op.binOp Go.BinOp.rem 5 (Go.Operand.tmp 53) (Go.Operand.const (Go.Value.int Go.IntKind.u8 16)) 5, type := 5, pos := "ref.go:96", after := #[{ on := 12, ground := Go.Ground.data }], guard := none }) (v := ?_) rfl (by kernel_rfl) (by kernel_rfl) (by kernel_rfl) (fun _ _ _ h => h) (Or.inl ⟨by rfl, ?_⟩) hSw ?_
          rotate_left
          · (intro W hW; (try dsimp only at hW); go_simp; try with_reducible rfl)
          try simp only [Act.put, List.setIfInBounds_toArray, List.set_cons_zero, List.set_cons_succ]
          refine wpAnyH_take (i := 14) (oi := { dst := some 55, op := Go.Op.binOp Go.BinOp.add 5 (Go.Operand.tmp 48) (Go.Operand.tmp 54) 5, type := 5, pos := "ref.go:96", after := #[{ on := 7, ground := Go.Ground.data }, { on := 13, ground := Go.Ground.data }], guard := none }) (v := ?_) rfl (by kernel_rfl) (by kernel_rfl) (by kernel_rfl) (fun _ _ _ h => h) (Or.inl ⟨by rfl, ?_⟩) hSw ?_
          rotate_left
          · (intro W hW; (try dsimp only at hW); go_simp; try with_reducible rfl)
          try simp only [Act.put, List.setIfInBounds_toArray, List.set_cons_zero, List.set_cons_succ]
          refine wpAnyH_ready (rs := [15]) (by kernel_rfl) (by simp) ?_
          refine AllReadyH.cons (o := { dst := some 56, op := Go.Op.buildSlice 57 1 #[(0, Go.Operand.tmp 55)], type := 57, pos := "ref.go:96", after := #[{ on := 14, ground := Go.Ground.data }], guard := none }) rfl (fun K hK => ?_) AllReadyH.nil
          rw [if_pos (by rfl)]
          go_simp
          refine hK.out _ _ trivial (fun hSw => ?_)
          clear hK
          try simp only [Act.put, List.setIfInBounds_toArray, List.set_cons_zero, List.set_cons_succ]
          refine wpAnyH_ready (rs := [16]) (by kernel_rfl) (by simp) ?_
          refine AllReadyH.cons (o := { dst := some 57, op := Go.Op.call { callee := Go.Callee.builtin Go.Builtin.append, args := #[Go.Operand.tmp 41, Go.Operand.tmp 56], argTypes := #[57, 57] }, type := 57, pos := "ref.go:96", after := #[{ on := 0, ground := Go.Ground.data }, { on := 15, ground := Go.Ground.data }, { on := 12, ground := Go.Ground.chain }], guard := none }) rfl (fun K hK => ?_) AllReadyH.nil
          rw [if_pos (by rfl)]
          refine wp_app (.tmp 41) (.tmp 56) 57 57 rfl w.heap.size 5 (.int .u8 0) 1 1 infoU8 Tryd.underlying57 rfl (by decide) (.slice A n c) (.slice (some ⟨wr.heap.size, 0, none⟩) 1 1) n 1 (u8s ys) (u8s [y]) rfl rfl ?_ ?_ ?_ ?_ ?_ ?_
          · (have h0 := HO.out.chg (((Chg.refl No wr).drew).alloc (.cells #[.int .u8 (y.toNat : Int)] 5)) (fun _ _ h => h); unfold OwnB at h0; rw [HL.out] at h0; exact h0)
          · exact Src.one' (w := wr.drew) Tryd.underlying57 _ _ (Chg.refl No _) rfl (u8s_one _)
          · omega
          · unfold maxLen; omega
          · simp; omega
          intro v' w' hown hg
          refine hK.out _ _ trivial (fun hSw => ?_)
          clear hK
          try simp only [Act.put, List.setIfInBounds_toArray, List.set_cons_zero, List.set_cons_succ]
          refine wpAnyH_ready (rs := [17]) (by kernel_rfl) (by simp) ?_
          refine AllReadyH.cons (o := { dst := some 4, op := Go.Op.assign (Go.Operand.tmp 57), type := 57, pos := "ref.go:96", after := #[{ on := 16, ground := Go.Ground.data }, { on := 16, ground := Go.Ground.chain }, { on := 0, ground := Go.Ground.phase }, { on := 1, ground := Go.Ground.phase }, { on := 2, ground := Go.Ground.phase }, { on := 3, ground := Go.Ground.phase }, { on := 4, ground := Go.Ground.phase }, { on := 5, ground := Go.Ground.phase }, { on := 6, ground := Go.Ground.phase }, { on := 7, ground := Go.Ground.phase }, { on := 8, ground := Go.Ground.phase }, { on := 9, ground := Go.Ground.phase }, { on := 10, ground := Go.Ground.phase }, { on := 11, ground := Go.Ground.phase }, { on := 12, ground := Go.Ground.phase }, { on := 13, ground := Go.Ground.phase }, { on := 14, ground := Go.Ground.phase }, { on := 15, ground := Go.Ground.phase }, { on := 16, ground := Go.Ground.phase }], guard := none }) rfl (fun K hK => ?_) AllReadyH.nil
          rw [if_pos (by rfl)]
          go_simp
          refine hK.out _ _ trivial (fun hSw => ?_)
          clear hK
          try simp only [Act.put, List.setIfInBounds_toArray, List.set_cons_zero, List.set_cons_succ]
          refine wpAnyH_done (by kernel_rfl) ?_ _
          have hX : OwnB w' w.heap.size v' (ys ++ [y]) := .of hown (by rw [u8s_append]; try rfl)
          obtain ⟨A', n', c', rfl, HL', HO'⟩ := hX.form
          have hn' : n' = n + 1 := by have h1 := HL'.out; have h2 := HL.out; rw [List.length_append] at h1; simp only [List.length_cons, List.length_nil] at h1; omega
          have HC1 : Hid (Chg No w w') := ((HC.out.drew).alloc _).grown hg (fun k hk => .inl (HO.out.block k hk).1)
          clear hX hown hg
          go_wp2
          go_roundw
          case rel => exact ⟨at' + 4, A', n', c', ys ++ [y], by omega, by omega, by go_num, rfl, by omega, HP1.out, HL'.out, HO'.out, HC1.out.size, HC1.out⟩
          case measure => simp only [intOf]; omega
        · have HP1 : Hid (rdF (s.data.toList.drop 1) = (ys ++ [if d = 110 then 10 else d]) ++ rdF (s.data.toList.drop (at' + 2))) := by
            rw [Hid, HP.out, HDD.out, rd_two d _ (by rw [List.length_drop, HS.out]; intro h; exact hxx ⟨h.1, by omega⟩)]
            simp
          clear HP HDD
          by_cases h120 : d = 120
          · have i3 : ¬ ((at' : Int) + 3 < (s.size : Int) - 1) := by
              have : ¬ (at' + 4 < s.size) := fun h => hxx ⟨h120, h⟩
              omega
            subst h120
            clear hxx
            rw [if_neg (by decide)] at HP1
            go_wp2_with (at_builtin; (refine wpList_app _ rfl (.tmp 62) (.tmp 64) 57 57 rfl w.heap.size 5 (.int .u8 0) 1 1 infoU8 Tryd.underlying57 rfl (by decide) (.slice A n c) (.slice (some ⟨wr.heap.size, 0, none⟩) 1 1) n 1 (u8s ys) [.int .u8 120] rfl rfl ?own ?src ?b1 ?b2 ?b3 ?_; (case own => exact OwnB.n (HO.out.alloc _) HL.out); (case src => exact Src.one Tryd.underlying57 _ rfl); (case b1 => omega); (case b2 => unfold maxLen; omega); (case b3 => simp; omega); intro v' w' hown hg; refine Hid.out ?_))
            refine Lib.hid ?_
            have hX : OwnB w' w.heap.size v' (ys ++ [120]) := .of hown (by rw [u8s_append]; try rfl)
            obtain ⟨A', n', c', rfl, HL', HO'⟩ := hX.form
            have hn' : n' = n + 1 := by have h1 := HL'.out; have h2 := HL.out; rw [List.length_append] at h1; simp only [List.length_cons, List.length_nil] at h1; omega
            have HC1 : Hid (Chg No w w') := (HC.out.alloc _).grown hg (fun k hk => .inl (HO.out.block k hk).1)
            clear hX hown hg
            go_wp2
            go_roundw
            case rel => exact ⟨at' + 2, A', n', c', ys ++ [120], by omega, by omega, by go_num, rfl, by omega, HP1.out, HL'.out, HO'.out, HC1.out.size, HC1.out⟩
            case measure => simp only [intOf]; omega
          have hb120 : ((d.toNat : Int) == 120) = false := beq_eq_false_iff_ne.2 (fun h => h120 (UInt8.toNat_inj.1 (Int.ofNat.inj h)))
          by_cases h110 : d = 110
          · subst h110
            clear hxx
            rw [if_pos rfl] at HP1
            go_wp2_with (at_builtin; (refine wpList_app _ rfl (.tmp 62) (.tmp 64) 57 57 rfl w.heap.size 5 (.int .u8 0) 1 1 infoU8 Tryd.underlying57 rfl (by decide) (.slice A n c) (.slice (some ⟨wr.heap.size, 0, none⟩) 1 1) n 1 (u8s ys) [.int .u8 10] rfl rfl ?own ?src ?b1 ?b2 ?b3 ?_; (case own => exact OwnB.n (HO.out.alloc _) HL.out); (case src => exact Src.one Tryd.underlying57 _ rfl); (case b1 => omega); (case b2 => unfold maxLen; omega); (case b3 => simp; omega); intro v' w' hown hg; refine Hid.out ?_))
            refine Lib.hid ?_
            have hX : OwnB w' w.heap.size v' (ys ++ [10]) := .of hown (by rw [u8s_append]; try rfl)
            obtain ⟨A', n', c', rfl, HL', HO'⟩ := hX.form
            have hn' : n' = n + 1 := by have h1 := HL'.out; have h2 := HL.out; rw [List.length_append] at h1; simp only [List.length_cons, List.length_nil] at h1; omega
            have HC1 : Hid (Chg No w w') := (HC.out.alloc _).grown hg (fun k hk => .inl (HO.out.block k hk).1)
            clear hX hown hg
            go_wp2
            go_roundw
            case rel => exact ⟨at' + 2, A', n', c', ys ++ [10], by omega, by omega, by go_num, rfl, by omega, HP1.out, HL'.out, HO'.out, HC1.out.size, HC1.out⟩
            case measure => simp only [intOf]; omega
          have hb110 : ((d.toNat : Int) == 110) = false := beq_eq_false_iff_ne.2 (fun h => h110 (UInt8.toNat_inj.1 (Int.ofNat.inj h)))
          rw [if_neg h110] at HP1
          clear hxx h120 h110
          go_wp2_with (at_builtin; (refine wpList_app _ rfl (.tmp 62) (.tmp 64) 57 57 rfl w.heap.size 5 (.int .u8 0) 1 1 infoU8 Tryd.underlying57 rfl (by decide) (.slice A n c) (.slice (some ⟨wr.heap.size, 0, none⟩) 1 1) n 1 (u8s ys) [.int .u8 (d.toNat : Int)] rfl rfl ?own ?src ?b1 ?b2 ?b3 ?_; (case own => exact OwnB.n (HO.out.alloc _) HL.out); (case src => exact Src.one Tryd.underlying57 _ rfl); (case b1 => omega); (case b2 => unfold maxLen; omega); (case b3 => simp; omega); intro v' w' hown hg; refine Hid.out ?_))
          refine Lib.hid ?_
          have hX : OwnB w' w.heap.size v' (ys ++ [d]) := .of hown (by rw [u8s_append]; try rfl)
          obtain ⟨A', n', c', rfl, HL', HO'⟩ := hX.form
          have hn' : n' = n + 1 := by have h1 := HL'.out; have h2 := HL.out; rw [List.length_append] at h1; simp only [List.length_cons, List.length_nil] at h1; omega
          have HC1 : Hid (Chg No w w') := (HC.out.alloc _).grown hg (fun k hk => .inl (HO.out.block k hk).1)
          clear hX hown hg
          go_wp2
          go_roundw
          case rel => exact ⟨at' + 2, A', n', c', ys ++ [d], by omega, by omega, by go_num, rfl, by omega, HP1.out, HL'.out, HO'.out, HC1.out.size, HC1.out⟩
          case measure => simp only [intOf]; omega
      · have i1 : ¬ ((at' : Int) < (s.size : Int) - 1) := by omega
        have HE : Hid (rdF (s.data.toList.drop 1) = ys) := by
          rw [Hid, HP.out]
          have hl : (s.data.toList.drop at').length ≤ 1 := by rw [List.length_drop, HS.out]; omega
          match hh : s.data.toList.drop at', hl with
          | [], _ => simp [rdF]
          | [a], _ => simp [rdF]
        have hcv := HO.out.bytes.text (P := Tryd.prog) Tryd.underlying57 Tryd.underlying5 Tryd.underlying9
        clear HP
        go_wp2_with (go_at_call 53; refine Hid.out ?_)
        refine Lib.hid ?_
        refine (rquote_calls wr (mkS ys) (by rw [mkS_size, HL.out]; omega)).mono ?_
        rintro e w2 ⟨rfl, hc2⟩
        have HC2 : Hid (Chg No w w2) := HC.out.no hc2
        have HO2 := HO.out.chg hc2 (fun _ _ x => x)
        have hcv2 := HO2.bytes.text (P := Tryd.prog) Tryd.underlying57 Tryd.underlying5 Tryd.underlying9
        clear hc2 HO2
        simp only [mkS_list]
        have HQ := Lib.hid (runq_eq s.data.toList)
        rw [HE.out] at HQ
        by_cases hq : quoteF ys = s.data.toList
        · have hb : ((mkS (quoteF ys)).toList == s.toList) = true := by rw [beq_iff_eq, Lib.toList_data, Lib.toList_data, mkS_list, hq]
          rw [if_pos hq] at HQ
          clear hq
          go_wp2
          go_ret2
          exact ⟨by rw [← HQ.out]; rfl, HC2.out⟩
        · have hb : ((mkS (quoteF ys)).toList == s.toList) = false := by rw [beq_eq_false_iff_ne, Lib.toList_data, Lib.toList_data, mkS_list]; exact hq
          rw [if_neg hq] at HQ
          clear hq
          go_wp2
          go_ret2
          exact ⟨by rw [← HQ.out]; rfl, HC2.out⟩
end Go.Proofs.YtcomcoolmabmgaaDoor
