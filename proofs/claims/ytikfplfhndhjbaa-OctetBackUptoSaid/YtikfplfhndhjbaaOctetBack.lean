/-
  The walk of OctetBack and of its 'back'.
-/
import Derived.Test.YtikfplfhndhjbaaOctetBackP
import Derived.Test.YtikfplfhndhjbaaLaw01w
import Derived.Test.YtikfplfhndhjbaaRep2
namespace Go.Proofs.Ytikfplfhndhjbaa
open Go.RowKit
set_option linter.unusedVariables false
set_option linter.unusedSimpArgs false

set_option maxRecDepth 100000 in
set_option maxHeartbeats 1600000 in
theorem back_calls (w : World) (A : Option Addr) (n c : Nat) (bs : List UInt8) (hb : Bytes w (.slice A n c) bs) (hl : bs.length = n) (hn : n ≤ 140737488355318)
    (An : Option Addr) (nn cn : Nat) (ns : List Nat) (hns : Sl u64v w (.slice An nn cn) ns) (hnx : ∀ x ∈ ns, x < 18446744073709551616)
    (At : Option Addr) (nt ct : Nat) (ts : List (List UInt8)) (hts : Sl strv w (.slice At nt ct) ts) (hbs : bs = encN ns ++ encT ts) (hnn : nn ≤ 1048576) (hnt : nt ≤ 1048576) :
    Calls Try.prog 37 #[.slice A n c, .slice An nn cn, .slice At nt ct] w fun e w' => e = .returned (.bool true) ∧ Chg No w w' := by
  have HB := Lib.hid hb
  have HL := Lib.hid hl
  have HNS := Lib.hid hns
  have HTS := Lib.hid hts
  have HNX := Lib.hid hnx
  have HLN := Lib.hid hns.len
  have HLT := Lib.hid hts.len
  have HBS := Lib.hid hbs
  clear hb hl hns hts hnx hbs
  go_enter Try.func37, Try.ntmps37
  go_wp2_with fail
  refine (read_calls _ _ _ _ bs HB.out (by omega)).mono ?_
  rintro e w' ⟨w2, v, rfl, rfl, hown, hc⟩
  have hsz : w.heap.size ≤ w2.heap.size := hc.size
  obtain ⟨d, hd, hr⟩ := RdrAt.made hown hc.size
  have HC : Hid (Chg No w (w2.alloc (.cells #[.bool true, v, .int .i64 0] 70))) := hc.alloc _
  have HR : Hid (RdrAt (w2.alloc (.cells #[.bool true, v, .int .i64 0] 70)) w2.heap.size d ⟨bs, 0⟩) := hr
  clear hown hc hr
  generalize hgw : w2.heap.size = g at *
  generalize w2.alloc (.cells #[.bool true, v, .int .i64 0] 70) = w3 at *
  clear hgw
  go_wp2
  go_loopw [18] (fun i wr => ∃ k : Nat, k ≤ nn ∧ i = .int .i64 (k : Int) ∧ Hid (RdrAt wr g d ⟨encN (ns.drop k) ++ encT ts, 0⟩) ∧ Hid (Chg No w wr)) (fun i _ => nn - (intOf i).toNat)
  case atStart => exact ⟨0, by omega, rfl, by rw [List.drop_zero, ← HBS.out]; exact HR.out, HC.out⟩
  case round =>
    clear HR HC
    obtain ⟨k, hk, rfl, HR, HC⟩ := hrel
    have HLen : Hid ((encN (ns.drop k) ++ encT ts).length ≤ 140737488355318) := by
      have h1 := HL.out
      rw [HBS.out] at h1
      have h2 := congrArg List.length (encN_split ns k)
      simp only [Hid, List.length_append] at h1 h2 ⊢
      omega
    by_cases hlt : k < nn
    · obtain ⟨b, o, rfl, hcell⟩ := (HNS.out.no HC.out).addr (by rw [HLN.out]; omega)
      have hc := hcell k (by rw [HLN.out]; exact hlt)
      have hxl := HNX.out _ (List.getElem_mem (show k < ns.length by rw [HLN.out]; exact hlt))
      have hdr : ns.drop k = ns[k]'(by rw [HLN.out]; exact hlt) :: ns.drop (k + 1) := List.drop_eq_getElem_cons (by rw [HLN.out]; exact hlt)
      generalize ns[k]'(by rw [HLN.out]; exact hlt) = x at hc hxl hdr
      rw [hdr, encN_cons] at HR HLen
      have HXL := Lib.hid hxl
      clear hcell hdr hxl
      unfold u64v at hc
      go_wp2_with fail
      refine (uint_calls _ _ d _ HR.out (by have := HLen.out; simp only; omega)).mono ?_
      rintro e w4 ⟨rfl, hr4, hc4⟩
      rw [rUint_whole x HXL.out] at hr4 ⊢
      have HR4 := Lib.hid hr4
      have HC4 : Hid (Chg No w w4) := HC.out.one hc4 (.inl (by omega))
      clear hr4 hc4
      go_wp2_with fail
      refine (word_calls _ _ d _ HR4.out).mono ?_
      rintro e w5 ⟨rfl, hr5, hc5⟩
      rw [rWord_whole x HXL.out] at hr5 ⊢
      have HR5 := Lib.hid hr5
      have HC5 : Hid (Chg No w w5) := HC4.out.one hc5 (.inl (by omega))
      clear hr5 hc5
      go_wp2
      go_roundw
      case rel => exact ⟨k + 1, hlt, by go_num, HR5.out, HC5.out⟩
      case measure => simp [intOf]; omega
    · obtain rfl : nn = k := by omega
      rw [List.drop_of_length_le (by rw [HLN.out]; exact Nat.le_refl _)] at HR HLen
      obtain ⟨wo, hwo⟩ : ∃ wo : World, wo = wr := ⟨_, rfl⟩
      subst hwo
      go_wp2
      go_loopw [35] (fun i wr => ∃ k : Nat, k ≤ nt ∧ i = .int .i64 (k : Int) ∧ Hid (RdrAt wr g d ⟨encT (ts.drop k), 0⟩) ∧ Hid (Chg No w wr)) (fun i _ => nt - (intOf i).toNat)
      case atStart => exact ⟨0, by omega, rfl, by simpa [Hid, encN] using HR.out, HC.out⟩
      case round =>
        clear HR HC
        obtain ⟨k, hk, rfl, HR, HC⟩ := hrel
        have HLen2 : Hid ((encT (ts.drop k)).length ≤ 140737488355318) := by
          have h1 := HLen.out
          have h2 := congrArg List.length (encT_split ts k)
          simp only [Hid, List.length_append] at h1 h2 ⊢
          omega
        by_cases hlt : k < nt
        · obtain ⟨b, o, rfl, hcell⟩ := (HTS.out.no HC.out).addr (by rw [HLT.out]; omega)
          have hc := hcell k (by rw [HLT.out]; exact hlt)
          have hdr : ts.drop k = ts[k]'(by rw [HLT.out]; exact hlt) :: ts.drop (k + 1) := List.drop_eq_getElem_cons (by rw [HLT.out]; exact hlt)
          generalize ts[k]'(by rw [HLT.out]; exact hlt) = s at hc hdr
          rw [hdr, encT_cons] at HR HLen2
          clear hcell hdr
          unfold strv at hc
          have HSL : Hid (s.length ≤ 140737488355318) := by have := HLen2.out; simp only [Hid, List.length_append] at this ⊢; omega
          have hsz8 := mkS_size s
          generalize hms : mkS s = sb at *
          have HMS := Lib.hid hms
          have HS8 := Lib.hid hsz8
          have hsb : sb.size ≤ 140737488355318 := by have := HSL.out; omega
          clear hms hsz8
          go_wp2_with fail
          refine (text_calls _ _ d _ _ (by omega) HR.out (by have := HLen2.out; simp only; omega)).mono ?_
          rintro e w4 ⟨rfl, hr4, hc4⟩
          rw [show ((sb.size : Nat) : Int) = (s.length : Int) by rw [HS8.out], rText_whole s _ (by have := HSL.out; omega), HMS.out] at *
          have HR4 := Lib.hid hr4
          have HC4 : Hid (Chg No w w4) := HC.out.one hc4 (.inl (by omega))
          clear hr4 hc4
          go_wp2
          go_roundw
          case rel => exact ⟨k + 1, hlt, by go_num, HR4.out, HC4.out⟩
          case measure => simp [intOf]; omega
        · obtain rfl : nt = k := by omega
          rw [List.drop_of_length_le (by rw [HLT.out]; exact Nat.le_refl _)] at HR
          go_wp2_with (first | (go_at_call 31; refine (end_calls _ _ d _ HR.out).mono ?_; rintro e w' ⟨rfl, rfl⟩; rw [show rEnd ⟨encT [], 0⟩ = 0 from rfl]) | (go_at_call 22; refine (left_calls _ _ d _ HR.out).mono ?_; rintro e w' ⟨rfl, rfl⟩; rw [show (Rd.mk (encT []) 0).rest.length = 0 from rfl]))
          go_ret
          exact ⟨rfl, HC.out⟩
theorem OwnB.form {w : World} {base : Nat} {v : Value} {xs : List UInt8} (h : OwnB w base v xs) : ∃ A n c, v = .slice A n c ∧ Hid (xs.length = n) ∧ Hid (OwnB w base (.slice A n c) xs) := by
  obtain ⟨A, c, rfl, -, -⟩ := h.bytes.form
  exact ⟨A, _, c, rfl, rfl, h⟩
theorem Bytes.takeN {w : World} {A : Option Addr} {n c k m : Nat} {xs : List UInt8} (h : Bytes w (.slice A n c) xs) (hl : xs.length = n) (hk : k ≤ n) (hkm : k ≤ m) (hmc : m ≤ c) :
    Bytes w (.slice A k m) (xs.take k) := by
  subst hl
  exact h.take hk hkm hmc

theorem rUint_len (r : Rd) : (rUint r).2.rest.length ≤ r.rest.length := by
  unfold rUint
  split
  · exact Nat.le_refl _
  · split
    · exact Nat.le_refl _
    · simp
theorem rWord_len (r : Rd) : (rWord r).2.rest.length ≤ r.rest.length := by
  unfold rWord
  split
  · exact Nat.le_refl _
  · split
    · exact Nat.le_refl _
    · simp
theorem rText_len (m : Int) (r : Rd) : (rText m r).2.rest.length ≤ r.rest.length := by
  unfold rText
  repeat' split
  all_goals simp
set_option maxRecDepth 100000 in
set_option maxHeartbeats 6400000 in
theorem octetBack_core (w : World)
    (An : Option Addr) (nn cn : Nat) (ns : List Nat) (hns : Sl u64v w (.slice An nn cn) ns) (hnx : ∀ x ∈ ns, x < 18446744073709551616)
    (At : Option Addr) (nt ct : Nat) (ts : List (List UInt8)) (hts : Sl strv w (.slice At nt ct) ts) (hnn : nn ≤ 1048576) (hnt : nt ≤ 1048576) (htl : (encT ts).length ≤ 16777216) (cut : Int) (hcut : cut ≤ 9223372036854775807) :
    Calls Try.prog 9 #[.slice An nn cn, .slice At nt ct, .int .i64 cut] w fun e w' => e = .returned (.bool true) ∧ Chg No w w' := by
  have HNS := Lib.hid hns
  have HTS := Lib.hid hts
  have HNX := Lib.hid hnx
  have HLN := Lib.hid hns.len
  have HLT := Lib.hid hts.len
  have HTL := Lib.hid htl
  have HNL := Lib.hid (encN_len ns hnx)
  clear hns hts hnx htl
  go_enter Try.func9, Try.ntmps9
  go_wp2_with fail
  refine (wakes_calls _).mono ?_
  rintro e w1 ⟨rfl, hc1⟩
  have HC1 := Lib.hid hc1
  clear hc1
  go_wp2
  go_loopw [7, 19] (fun v i wr => ∃ (k : Nat) (A : Option Addr) (n c : Nat), k ≤ nn ∧ i = .int .i64 (k : Int) ∧ v = .slice A n c ∧ Hid (Bytes wr (.slice A n c) (encN (ns.take k)) ∧ (encN (ns.take k)).length = n ∧ n ≤ 18874368) ∧ Hid (Chg No w wr)) (fun _ i _ => nn - (intOf i).toNat)
  case atStart => exact ⟨0, none, 0, 0, by omega, rfl, rfl, ⟨Bytes.nil _, rfl, by omega⟩, HC1.out⟩
  case round =>
    obtain ⟨k, A, n, c, hk, rfl, rfl, HB, HC⟩ := hrel
    have hsz : w.heap.size ≤ wr.heap.size := HC.out.size
    by_cases hlt : k < nn
    · obtain ⟨b, o, rfl, hcell⟩ := (HNS.out.no HC.out).addr (by rw [HLN.out]; omega)
      have hc := hcell k (by rw [HLN.out]; exact hlt)
      have hxl := HNX.out _ (List.getElem_mem (show k < ns.length by rw [HLN.out]; exact hlt))
      have HT : Hid (ns.take (k + 1) = ns.take k ++ [ns[k]'(by rw [HLN.out]; exact hlt)]) := List.take_succ_eq_append_getElem (by rw [HLN.out]; exact hlt)
      generalize ns[k]'(by rw [HLN.out]; exact hlt) = x at hc hxl HT
      have HXL := Lib.hid hxl
      have HLeb := Lib.hid (leb_len10 x hxl)
      have HN : Hid ((encN (ns.take (k + 1))).length ≤ 18874368) := by
        have h1 := congrArg List.length (encN_split ns (k + 1))
        have h2 := HNL.out
        have h3 := HLN.out
        simp only [Hid, List.length_append] at h1 ⊢
        omega
      clear hcell hxl
      unfold u64v at hc
      go_wp2_with fail
      refine (putuint_calls _ A n c (encN (ns.take k)) HB.out.1 HB.out.2.1 x _ rfl HXL.out (by have := HB.out.2.2; omega)).mono ?_
      rintro e w4 ⟨v4, rfl, ho4, hc4⟩
      obtain ⟨A4, n4, c4, rfl, HL4, HO4⟩ := ho4.form
      have HC4 : Hid (Chg No w w4) := HC.out.no hc4
      clear ho4 hc4
      go_wp2_with fail
      refine (putword_calls _ A4 n4 c4 _ HO4.out.bytes HL4.out x _ rfl HXL.out (by have h1 := HL4.out; have h2 := HB.out.2; have h3 := HLeb.out; simp only [List.length_append] at h1; omega)).mono ?_
      rintro e w5 ⟨v5, rfl, ho5, hc5⟩
      obtain ⟨A5, n5, c5, rfl, HL5, HO5⟩ := ho5.form
      have HC5 : Hid (Chg No w w5) := HC4.out.no hc5
      clear ho5 hc5
      go_wp2
      go_roundw
      case rel =>
        refine ⟨k + 1, A5, n5, c5, hlt, by go_num, rfl, ?_, HC5.out⟩
        have e1 : encN (ns.take (k + 1)) = encN (ns.take k) ++ leb x ++ wide x := by rw [HT.out, encN_snoc]
        rw [Hid, e1]
        exact ⟨HO5.out.bytes, HL5.out, by have h1 := HN.out; rw [e1] at h1; rw [← HL5.out]; exact h1⟩
      case measure => simp [intOf]; omega
    · obtain rfl : nn = k := by omega
      rw [List.take_of_length_le (by rw [HLN.out]; exact Nat.le_refl _)] at HB
      obtain ⟨wo, hwo⟩ : ∃ wo : World, wo = wr := ⟨_, rfl⟩
      subst hwo
      go_wp2
      go_loopw [7, 31] (fun v i wr => ∃ (k : Nat) (A : Option Addr) (n c : Nat), k ≤ nt ∧ i = .int .i64 (k : Int) ∧ v = .slice A n c ∧ Hid (Bytes wr (.slice A n c) (encN ns ++ encT (ts.take k)) ∧ (encN ns ++ encT (ts.take k)).length = n ∧ n ≤ 35651584) ∧ Hid (Chg No w wr)) (fun _ i _ => nt - (intOf i).toNat)
      case atStart => exact ⟨0, A, n, c, by omega, rfl, rfl, by have h := HB.out; rw [Hid]; simp only [List.take_zero, show encT [] = [] from rfl, List.append_nil]; exact ⟨h.1, h.2.1, by have := h.2.2; omega⟩, HC.out⟩
      case round =>
        clear HB HC
        obtain ⟨k, A, n, c, hk, rfl, rfl, HB, HC⟩ := hrel
        have hsz : w.heap.size ≤ wr.heap.size := HC.out.size
        by_cases hlt : k < nt
        · obtain ⟨b, o, rfl, hcell⟩ := (HTS.out.no HC.out).addr (by rw [HLT.out]; omega)
          have hc := hcell k (by rw [HLT.out]; exact hlt)
          have HT : Hid (ts.take (k + 1) = ts.take k ++ [ts[k]'(by rw [HLT.out]; exact hlt)]) := List.take_succ_eq_append_getElem (by rw [HLT.out]; exact hlt)
          have HN : Hid ((encT (ts.take (k + 1))).length ≤ 16777216) := by
            have h1 := congrArg List.length (encT_split ts (k + 1))
            have h2 := HTL.out
            simp only [Hid, List.length_append] at h1 ⊢
            omega
          generalize ts[k]'(by rw [HLT.out]; exact hlt) = s at hc HT
          clear hcell
          unfold strv at hc
          have hsz8 := mkS_size s
          have HSD : Hid ((mkS s).data.toList = s) := mkS_list s
          generalize hms : mkS s = sb at *
          have HS8 := Lib.hid hsz8
          have e1 : encT (ts.take (k + 1)) = encT (ts.take k) ++ (leb s.length ++ s) := by rw [HT.out, encT_snoc]
          have HE1 := Lib.hid e1
          have HSL : Hid (sb.size ≤ 16777216) := by have h1 := HN.out; rw [e1] at h1; simp only [Hid, List.length_append] at h1 ⊢; omega
          clear hms hsz8 e1
          go_wp2_with fail
          refine (puttext_calls _ A n c _ HB.out.1 HB.out.2.1 sb (by have h1 := HB.out.2.2; have h2 := HSL.out; omega)).mono ?_
          rintro e w4 ⟨v4, rfl, ho4, hc4⟩
          obtain ⟨A4, n4, c4, rfl, HL4, HO4⟩ := ho4.form
          have HC4 : Hid (Chg No w w4) := HC.out.no hc4
          clear ho4 hc4
          rw [HSD.out, HS8.out] at HO4 HL4
          go_wp2
          go_roundw
          case rel =>
            refine ⟨k + 1, A4, n4, c4, hlt, by go_num, rfl, ?_, HC4.out⟩
            have e2 : encN ns ++ encT (ts.take (k + 1)) = encN ns ++ encT (ts.take k) ++ (leb s.length ++ s) := by rw [HE1.out, ← List.append_assoc]
            rw [Hid, e2]
            refine ⟨HO4.out.bytes, HL4.out, ?_⟩
            have h1 := HL4.out
            rw [← e2, List.length_append] at h1
            have h2 := HN.out
            have h3 := HNL.out
            have h4 := HLN.out
            omega
          case measure => simp [intOf]; omega
        · obtain rfl : nt = k := by omega
          rw [List.take_of_length_le (by rw [HLT.out]; exact Nat.le_refl _)] at HB
          go_wp2_with fail
          refine (wakes_calls _).mono ?_
          rintro e w6 ⟨rfl, hc6⟩
          have HC6 : Hid (Chg No w w6) := HC.out.no hc6
          have HB6 : Hid (Bytes w6 (.slice A n c) (encN ns ++ encT ts) ∧ (encN ns ++ encT ts).length = n ∧ n ≤ 35651584) := ⟨HB.out.1.no hc6, HB.out.2⟩
          clear hc6 HB HC
          go_wp2_with fail
          refine (back_calls _ A n c _ HB6.out.1 HB6.out.2.1 (by have := HB6.out.2.2; omega) An _ cn ns (HNS.out.no HC6.out) HNX.out At _ ct ts (HTS.out.no HC6.out) rfl hnn hnt).mono ?_
          rintro e w7 ⟨rfl, hc7⟩
          have HC7 : Hid (Chg No w w7) := HC6.out.no hc7
          have HB7 : Hid (Bytes w7 (.slice A n c) (encN ns ++ encT ts) ∧ (encN ns ++ encT ts).length = n ∧ n ≤ 35651584) := ⟨HB6.out.1.no hc7, HB6.out.2⟩
          clear hc7 HB6 HC6
          by_cases hz : n = 0
          · subst hz
            go_wp2
            go_ret
            exact ⟨rfl, HC7.out⟩
          · have hne : ((n : Int) == 0) = false := by simp; omega
            have hn0 : 0 < n := by omega
            have hnc : n ≤ c ∧ c ≤ 9223372036854775807 := by
              obtain ⟨_, _, he, h1, h2, _⟩ := HB7.out.1
              simp only [Value.slice.injEq] at he
              unfold maxLen at h2
              have h3 := HB7.out.2.1
              omega
            obtain ⟨hnc, hcm⟩ := hnc
            have hnl : n ≤ 35651584 := HB7.out.2.2
            clear hz
            obtain ⟨i, hi, hidx⟩ : ∃ i : Nat, i < n ∧ (cut < 0 ∧ i = 0 ∨ 0 ≤ cut ∧ cut % (n : Int) = (i : Int)) := by
              by_cases h : cut < 0
              · exact ⟨0, hn0, .inl ⟨h, rfl⟩⟩
              · have h1 := Int.emod_nonneg cut (show (n : Int) ≠ 0 by omega)
                have h2 := Int.emod_lt_of_pos cut (show (0 : Int) < (n : Int) by omega)
                exact ⟨(cut % (n : Int)).toNat, by omega, .inr ⟨by omega, by omega⟩⟩
            rcases hidx with ⟨hneg, rfl⟩ | ⟨hpos, hidx⟩
            · go_wp2_with fail
              have HBT := HB7.out.1.takeN HB7.out.2.1 (k := 0) (m := c) (by omega) (by omega) (Nat.le_refl _)
              refine (read_calls _ _ _ _ _ HBT (by omega)).mono ?_
              rintro e w' ⟨w8, v, rfl, rfl, hown, hc⟩
              have hsz : w.heap.size ≤ w8.heap.size := by have h1 := HC7.out.size; have h2 := hc.size; omega
              obtain ⟨d, hd, hr⟩ := RdrAt.made hown hc.size
              have hd' : w.heap.size ≤ d := by have h1 := HC7.out.size; omega
              have HC : Hid (Chg No w (w8.alloc (.cells #[.bool true, v, .int .i64 0] 70))) := (HC7.out.no hc).alloc _
              have HR : Hid (∃ r, RdrAt (w8.alloc (.cells #[.bool true, v, .int .i64 0] 70)) w8.heap.size d r ∧ Cut r (encN ns ++ encT ts) ∧ r.rest.length ≤ 35651584) :=
                ⟨_, hr, Cut.start (by rw [HB7.out.2.1]; omega), by simp only [List.length_take]; omega⟩
              clear hown hc hr hd HBT HB7 HC7 hne hn0
              generalize hgw : w8.heap.size = g at *
              generalize w8.alloc (.cells #[.bool true, v, .int .i64 0] 70) = w9 at *
              clear hgw
              go_wp2
              go_loopw [63] (fun i wr => ∃ k : Nat, k ≤ nn ∧ i = .int .i64 (k : Int) ∧ Hid (∃ r, RdrAt wr g d r ∧ Cut r (encN (ns.drop k) ++ encT ts) ∧ r.rest.length ≤ 35651584) ∧ Hid (Chg No w wr)) (fun i _ => nn - (intOf i).toNat)
              case atStart => exact ⟨0, by omega, rfl, HR.out, HC.out⟩
              case round =>
                clear HR HC
                obtain ⟨k, hk, rfl, HR, HC⟩ := hrel
                by_cases hlt : k < nn
                · obtain ⟨r, hr, hct, hrl⟩ := HR.out
                  have hdr : ns.drop k = ns[k]'(by rw [HLN.out]; exact hlt) :: ns.drop (k + 1) := List.drop_eq_getElem_cons (by rw [HLN.out]; exact hlt)
                  have hxl := HNX.out _ (List.getElem_mem (show k < ns.length by rw [HLN.out]; exact hlt))
                  generalize ns[k]'(by rw [HLN.out]; exact hlt) = x at hdr hxl
                  rw [hdr, encN_cons] at hct
                  have HCT := Lib.hid hct
                  have HXL := Lib.hid hxl
                  have HRL := Lib.hid hrl
                  have HR0 := Lib.hid hr
                  clear hct hdr hxl hrl hr HR
                  go_wp2_with fail
                  refine (uint_calls _ _ d _ HR0.out (by have := HRL.out; omega)).mono ?_
                  rintro e w4 ⟨rfl, hr4, hc4⟩
                  have HR4 := Lib.hid hr4
                  have HCT4 := Lib.hid (Cut.uint HXL.out HCT.out)
                  have HRL4 : Hid ((rUint r).2.rest.length ≤ 35651584) := Nat.le_trans (rUint_len r) HRL.out
                  have HC4 : Hid (Chg No w w4) := HC.out.one hc4 (.inl (by omega))
                  clear hr4 hc4
                  go_wp2_with fail
                  refine (word_calls _ _ d _ HR4.out).mono ?_
                  rintro e w5 ⟨rfl, hr5, hc5⟩
                  have HR5 := Lib.hid hr5
                  have HCT5 := Lib.hid (Cut.word HXL.out HCT4.out)
                  have HRL5 : Hid ((rWord (rUint r).2).2.rest.length ≤ 35651584) := Nat.le_trans (rWord_len _) HRL4.out
                  have HC5 : Hid (Chg No w w5) := HC4.out.one hc5 (.inl (by omega))
                  clear hr5 hc5
                  go_wp2
                  go_roundw
                  case rel => exact ⟨k + 1, hlt, by go_num, ⟨_, HR5.out, HCT5.out, HRL5.out⟩, HC5.out⟩
                  case measure => simp [intOf]; omega
                · obtain rfl : nn = k := by omega
                  rw [List.drop_of_length_le (by rw [HLN.out]; exact Nat.le_refl _)] at HR
                  obtain ⟨wo, hwo⟩ : ∃ wo : World, wo = wr := ⟨_, rfl⟩
                  subst hwo
                  go_wp2
                  go_loopw [72] (fun i wr => ∃ k : Nat, k ≤ nt ∧ i = .int .i64 (k : Int) ∧ Hid (∃ r, RdrAt wr g d r ∧ Cut r (encT (ts.drop k)) ∧ r.rest.length ≤ 35651584) ∧ Hid (Chg No w wr)) (fun i _ => nt - (intOf i).toNat)
                  case atStart => exact ⟨0, by omega, rfl, HR.out, HC.out⟩
                  case round =>
                    clear HR HC
                    obtain ⟨k, hk, rfl, HR, HC⟩ := hrel
                    by_cases hlt : k < nt
                    · obtain ⟨r, hr, hct, hrl⟩ := HR.out
                      obtain ⟨b, o, rfl, hcell⟩ := (HTS.out.no HC.out).addr (by rw [HLT.out]; omega)
                      have hc := hcell k (by rw [HLT.out]; exact hlt)
                      have hdr : ts.drop k = ts[k]'(by rw [HLT.out]; exact hlt) :: ts.drop (k + 1) := List.drop_eq_getElem_cons (by rw [HLT.out]; exact hlt)
                      have hts1 := congrArg List.length (encT_split ts k)
                      have hTL := HTL.out
                      generalize ts[k]'(by rw [HLT.out]; exact hlt) = s at hc hdr
                      rw [hdr, encT_cons] at hct hts1
                      have HSL : Hid (s.length ≤ 16777216) := by simp only [Hid, List.length_append] at hts1 ⊢; omega
                      unfold strv at hc
                      have hsz8 := mkS_size s
                      generalize hms : mkS s = sb at *
                      have HS8 := Lib.hid hsz8
                      have HCT := Lib.hid hct
                      have HRL := Lib.hid hrl
                      have HR0 := Lib.hid hr
                      have hsb : sb.size ≤ 16777216 := by have := HSL.out; omega
                      clear hct hdr hrl hr HR hcell hts1 hTL hms hsz8
                      go_wp2_with fail
                      refine (text_calls _ _ d _ _ (by omega) HR0.out (by have := HRL.out; omega)).mono ?_
                      rintro e w4 ⟨rfl, hr4, hc4⟩
                      have HR4 := Lib.hid hr4
                      have HCT4 : Hid (Cut (rText (sb.size : Int) r).2 (encT (ts.drop (k + 1)))) := by rw [Hid, HS8.out]; exact Cut.text (by have := HSL.out; omega) HCT.out
                      have HRL4 : Hid ((rText (sb.size : Int) r).2.rest.length ≤ 35651584) := Nat.le_trans (rText_len _ r) HRL.out
                      have HC4 : Hid (Chg No w w4) := HC.out.one hc4 (.inl (by omega))
                      clear hr4 hc4
                      go_wp2
                      go_roundw
                      case rel => exact ⟨k + 1, hlt, by go_num, ⟨_, HR4.out, HCT4.out, HRL4.out⟩, HC4.out⟩
                      case measure => simp [intOf]; omega
                    · obtain rfl : nt = k := by omega
                      rw [List.drop_of_length_le (by rw [HLT.out]; exact Nat.le_refl _)] at HR
                      obtain ⟨r, hr, hct, -⟩ := HR.out
                      have he := Cut.end_ hct
                      have hend : rEnd r = 110 := by simp [rEnd, he]
                      have HE := Lib.hid he
                      have HEND := Lib.hid hend
                      clear hct he hend HR
                      go_wp2_with (first | (go_at_call 21; refine (err_calls _ _ d _ hr).mono ?_; rintro e w' ⟨rfl, rfl⟩; rw [HE.out]) | (go_at_call 31; refine (end_calls _ _ d _ hr).mono ?_; rintro e w' ⟨rfl, rfl⟩; rw [HEND.out]))
                      go_ret
                      exact ⟨rfl, HC.out⟩
            · go_wp2_with fail
              have HBT := HB7.out.1.takeN HB7.out.2.1 (k := i) (m := c) (by omega) (by omega) (Nat.le_refl _)
              refine (read_calls _ _ _ _ _ HBT (by omega)).mono ?_
              rintro e w' ⟨w8, v, rfl, rfl, hown, hc⟩
              have hsz : w.heap.size ≤ w8.heap.size := by have h1 := HC7.out.size; have h2 := hc.size; omega
              obtain ⟨d, hd, hr⟩ := RdrAt.made hown hc.size
              have hd' : w.heap.size ≤ d := by have h1 := HC7.out.size; omega
              have HC : Hid (Chg No w (w8.alloc (.cells #[.bool true, v, .int .i64 0] 70))) := (HC7.out.no hc).alloc _
              have HR : Hid (∃ r, RdrAt (w8.alloc (.cells #[.bool true, v, .int .i64 0] 70)) w8.heap.size d r ∧ Cut r (encN ns ++ encT ts) ∧ r.rest.length ≤ 35651584) :=
                ⟨_, hr, Cut.start (by rw [HB7.out.2.1]; omega), by simp only [List.length_take]; omega⟩
              clear hown hc hr hd HBT HB7 HC7 hne hn0
              generalize hgw : w8.heap.size = g at *
              generalize w8.alloc (.cells #[.bool true, v, .int .i64 0] 70) = w9 at *
              clear hgw
              go_wp2
              go_loopw [63] (fun i wr => ∃ k : Nat, k ≤ nn ∧ i = .int .i64 (k : Int) ∧ Hid (∃ r, RdrAt wr g d r ∧ Cut r (encN (ns.drop k) ++ encT ts) ∧ r.rest.length ≤ 35651584) ∧ Hid (Chg No w wr)) (fun i _ => nn - (intOf i).toNat)
              case atStart => exact ⟨0, by omega, rfl, HR.out, HC.out⟩
              case round =>
                clear HR HC
                obtain ⟨k, hk, rfl, HR, HC⟩ := hrel
                by_cases hlt : k < nn
                · obtain ⟨r, hr, hct, hrl⟩ := HR.out
                  have hdr : ns.drop k = ns[k]'(by rw [HLN.out]; exact hlt) :: ns.drop (k + 1) := List.drop_eq_getElem_cons (by rw [HLN.out]; exact hlt)
                  have hxl := HNX.out _ (List.getElem_mem (show k < ns.length by rw [HLN.out]; exact hlt))
                  generalize ns[k]'(by rw [HLN.out]; exact hlt) = x at hdr hxl
                  rw [hdr, encN_cons] at hct
                  have HCT := Lib.hid hct
                  have HXL := Lib.hid hxl
                  have HRL := Lib.hid hrl
                  have HR0 := Lib.hid hr
                  clear hct hdr hxl hrl hr HR
                  go_wp2_with fail
                  refine (uint_calls _ _ d _ HR0.out (by have := HRL.out; omega)).mono ?_
                  rintro e w4 ⟨rfl, hr4, hc4⟩
                  have HR4 := Lib.hid hr4
                  have HCT4 := Lib.hid (Cut.uint HXL.out HCT.out)
                  have HRL4 : Hid ((rUint r).2.rest.length ≤ 35651584) := Nat.le_trans (rUint_len r) HRL.out
                  have HC4 : Hid (Chg No w w4) := HC.out.one hc4 (.inl (by omega))
                  clear hr4 hc4
                  go_wp2_with fail
                  refine (word_calls _ _ d _ HR4.out).mono ?_
                  rintro e w5 ⟨rfl, hr5, hc5⟩
                  have HR5 := Lib.hid hr5
                  have HCT5 := Lib.hid (Cut.word HXL.out HCT4.out)
                  have HRL5 : Hid ((rWord (rUint r).2).2.rest.length ≤ 35651584) := Nat.le_trans (rWord_len _) HRL4.out
                  have HC5 : Hid (Chg No w w5) := HC4.out.one hc5 (.inl (by omega))
                  clear hr5 hc5
                  go_wp2
                  go_roundw
                  case rel => exact ⟨k + 1, hlt, by go_num, ⟨_, HR5.out, HCT5.out, HRL5.out⟩, HC5.out⟩
                  case measure => simp [intOf]; omega
                · obtain rfl : nn = k := by omega
                  rw [List.drop_of_length_le (by rw [HLN.out]; exact Nat.le_refl _)] at HR
                  obtain ⟨wo, hwo⟩ : ∃ wo : World, wo = wr := ⟨_, rfl⟩
                  subst hwo
                  go_wp2
                  go_loopw [72] (fun i wr => ∃ k : Nat, k ≤ nt ∧ i = .int .i64 (k : Int) ∧ Hid (∃ r, RdrAt wr g d r ∧ Cut r (encT (ts.drop k)) ∧ r.rest.length ≤ 35651584) ∧ Hid (Chg No w wr)) (fun i _ => nt - (intOf i).toNat)
                  case atStart => exact ⟨0, by omega, rfl, HR.out, HC.out⟩
                  case round =>
                    clear HR HC
                    obtain ⟨k, hk, rfl, HR, HC⟩ := hrel
                    by_cases hlt : k < nt
                    · obtain ⟨r, hr, hct, hrl⟩ := HR.out
                      obtain ⟨b, o, rfl, hcell⟩ := (HTS.out.no HC.out).addr (by rw [HLT.out]; omega)
                      have hc := hcell k (by rw [HLT.out]; exact hlt)
                      have hdr : ts.drop k = ts[k]'(by rw [HLT.out]; exact hlt) :: ts.drop (k + 1) := List.drop_eq_getElem_cons (by rw [HLT.out]; exact hlt)
                      have hts1 := congrArg List.length (encT_split ts k)
                      have hTL := HTL.out
                      generalize ts[k]'(by rw [HLT.out]; exact hlt) = s at hc hdr
                      rw [hdr, encT_cons] at hct hts1
                      have HSL : Hid (s.length ≤ 16777216) := by simp only [Hid, List.length_append] at hts1 ⊢; omega
                      unfold strv at hc
                      have hsz8 := mkS_size s
                      generalize hms : mkS s = sb at *
                      have HS8 := Lib.hid hsz8
                      have HCT := Lib.hid hct
                      have HRL := Lib.hid hrl
                      have HR0 := Lib.hid hr
                      have hsb : sb.size ≤ 16777216 := by have := HSL.out; omega
                      clear hct hdr hrl hr HR hcell hts1 hTL hms hsz8
                      go_wp2_with fail
                      refine (text_calls _ _ d _ _ (by omega) HR0.out (by have := HRL.out; omega)).mono ?_
                      rintro e w4 ⟨rfl, hr4, hc4⟩
                      have HR4 := Lib.hid hr4
                      have HCT4 : Hid (Cut (rText (sb.size : Int) r).2 (encT (ts.drop (k + 1)))) := by rw [Hid, HS8.out]; exact Cut.text (by have := HSL.out; omega) HCT.out
                      have HRL4 : Hid ((rText (sb.size : Int) r).2.rest.length ≤ 35651584) := Nat.le_trans (rText_len _ r) HRL.out
                      have HC4 : Hid (Chg No w w4) := HC.out.one hc4 (.inl (by omega))
                      clear hr4 hc4
                      go_wp2
                      go_roundw
                      case rel => exact ⟨k + 1, hlt, by go_num, ⟨_, HR4.out, HCT4.out, HRL4.out⟩, HC4.out⟩
                      case measure => simp [intOf]; omega
                    · obtain rfl : nt = k := by omega
                      rw [List.drop_of_length_le (by rw [HLT.out]; exact Nat.le_refl _)] at HR
                      obtain ⟨r, hr, hct, -⟩ := HR.out
                      have he := Cut.end_ hct
                      have hend : rEnd r = 110 := by simp [rEnd, he]
                      have HE := Lib.hid he
                      have HEND := Lib.hid hend
                      clear hct he hend HR
                      go_wp2_with (first | (go_at_call 21; refine (err_calls _ _ d _ hr).mono ?_; rintro e w' ⟨rfl, rfl⟩; rw [HE.out]) | (go_at_call 31; refine (end_calls _ _ d _ hr).mono ?_; rintro e w' ⟨rfl, rfl⟩; rw [HEND.out]))
                      go_ret
                      exact ⟨rfl, HC.out⟩
end Go.Proofs.Ytikfplfhndhjbaa
