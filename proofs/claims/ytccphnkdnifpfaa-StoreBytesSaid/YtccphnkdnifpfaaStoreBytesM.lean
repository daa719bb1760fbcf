/-
  StoreBytes, StoreBytesClose: in one text.
-/
import Derived.Test.YtccphnkdnifpfaaBa9
import Derived.Test.YtccphnkdnifpfaaRows
import Derived.Test.YtccphnkdnifpfaaBa1
namespace Go.Proofs.Ytccphnkdnifpfaa
set_option linter.unnecessarySimpa false
open Go.RowKit Go.Shelf
set_option linter.unusedVariables false
set_option linter.unusedSimpArgs false
set_option maxRecDepth 100000

set_option maxHeartbeats 12800000 in
theorem storeBytes_core (w : World) (L : Option Addr) (n c : Nat) (ls : List (List UInt8)) (hL : Sl2 w (.slice L n c) ls) (hl : ls.length = n) (hn24 : n * 24 ≤ 140737488351232) (hsz : ∀ l ∈ ls, l.length ≤ 140737488351232) :
    Calls Try.prog 3 #[.slice L n c] w fun e w' => e = .returned (.bool true) ∧ Chg No w w' := by
  have HL := Lib.hid hl
  have HSL := Lib.hid hL
  have HSZ := Lib.hid hsz
  clear hL hl hsz
  go_enter Try.func3, Try.ntmps3
  go_wp2_with fail
  refine (swakes_calls w).mono ?_
  rintro e w1 ⟨rfl, hc1⟩
  have HC1 := Lib.hid hc1
  have hs1 := hc1.size
  clear hc1
  go_wp2_with fail
  refine (new_calls w1).mono ?_
  rintro e w2 ⟨rfl, hD, hc⟩
  have HMO := Lib.hid (made_open w1 w2 hc hD (by have := hD.cells; have h1 := (Array.getElem?_eq_some_iff.1 hD.1).1; omega))
  clear hD hc
  generalize hd : w1.heap.size + 1 = d at *
  generalize hm : w1.heap.size = m at *
  go_wp2_with fail
  refine HMO.out.mono ?_
  rintro e w3 ⟨s, mp, j, S, rfl, hS, hc3⟩
  have HC3 := Lib.hid (HC1.out.no hc3)
  have HS3 := Lib.hid hS
  clear hS hc3 HMO
  go_wp2_with fail
  refine (swakes_calls w3).mono ?_
  rintro e w4 ⟨rfl, hc4⟩
  have HC4 := Lib.hid (HC3.out.no hc4)
  have HS4 := Lib.hid (HS3.out.no hc4)
  clear hc4 hd hm
  go_wp2
  go_loopw [44] (fun i wr => ∃ (k : Nat) (ps : List (List UInt8)) (S : Nat → Prop) (nw : Nat) (th : Bool), k ≤ n ∧ k ≤ 40 ∧ i = .int .i64 (k : Int) ∧ nw ≤ 200 * k ∧ Hid (ps.length ≤ k) ∧ Hid ((encF ps).length ≤ 4200 * k) ∧ Hid (∀ r ∈ ps, ∃ c ∈ ls.take k, r = 98 :: c) ∧ Hid (∀ r ∈ ps, r.length ≤ 4097) ∧ Hid (SD wr S m s mp j d m nw th ps) ∧ Hid (Chg No w wr))
    (fun i _ => n - (intOf i).toNat)
  case atStart => exact ⟨0, [], S, 0, false, by omega, by omega, rfl, by omega, Nat.le_refl _, by simp [Hid, encF], fun r h => (by cases h), fun r h => (by cases h), HS4.out, HC4.out⟩
  case round =>
    obtain ⟨k, ps, S', nw, th, hk, hk40, rfl, hnw, HPL, HPE, HPA, HPR, HSr, HC⟩ := hrel
    have hwr := HC.out.size
    rcases Nat.lt_or_ge k n with hlt | hge
    · have i1 : (k : Int) < (n : Int) := by omega
      have hkl : k < ls.length := by have := HL.out; omega
      obtain ⟨lb, lo, rfl, hget⟩ := HSL.out.get (by omega)
      obtain ⟨A2, q2, c2, hcell, hby, HQ2⟩ := hget k hkl
      have hcell := HC.out.cell hcell (fun x => x)
      have HBP := Lib.hid hby
      have hq2 : q2 ≤ 140737488351232 := by have := HSZ.out _ (List.getElem_mem hkl); have := HQ2.out; omega
      have HTK : Hid (ls.take (k + 1) = ls.take k ++ [ls[k]]) := by rw [Hid, List.take_succ_eq_append_getElem]
      obtain ⟨p, hp⟩ : ∃ p, ls[k] = p := ⟨_, rfl⟩
      rw [hp] at HBP HQ2 HTK
      clear hp hby hget
      by_cases h40 : k = 40
      · obtain rfl := h40
        go_wp2
        go_ret
        exact ⟨rfl, HC.out⟩
      · have i2 : ((k : Int) == 40) = false := by rw [beq_eq_false_iff_ne]; omega
        by_cases hbig : 4096 < q2
        · have i3 : (4096 : Int) < (q2 : Int) := by omega
          go_wp2
          go_ret
          exact ⟨rfl, HC.out⟩
        · have i3 : ¬ (4096 : Int) < (q2 : Int) := by omega
          go_wp2_with (at_builtin; (refine wpList_app2 rfl (.tmp 58) (.tmp 59) 30 30 rfl wr.heap.size 5 (.int .u8 0) 1 1 infoU8 Try.underlying30 rfl (by decide) (.slice (some ⟨wr.heap.size, 0, none⟩) 0 0) (.slice A2 q2 c2) 0 q2 (u8s []) (u8s p) rfl rfl ?own ?src ?b1 ?b2 ?b3 ?_; (case own => exact OwnB.n (OwnB.lit wr [] (by decide)) rfl); (case src => exact Src.ofBytes Try.underlying30 (HBP.out.no (HC.out.alloc _)) HQ2.out); (case b1 => omega); (case b2 => unfold maxLen; omega); (case b3 => simp); intro vb w6 hown hg hfrom; refine Hid.out ?_))
          refine Lib.hid ?_
          obtain ⟨hob, hc6⟩ := scopy_own hown hg
          obtain ⟨AB, nb, cb, rfl, HLB, HOB⟩ := hob.form
          have hnb : nb = q2 := by have := HLB.out; have := HQ2.out; omega
          subst hnb
          have HCw := Lib.hid (HC.out.no hc6)
          have HS6 := Lib.hid (HSr.out.no hc6)
          have HRL : Hid ((98 :: p).length ≤ 4097) := by
            show _ ≤ _
            have := HQ2.out
            simp only [List.length_cons]
            omega
          have HE : Hid (Encodes w6 (blobV (.slice AB nb cb)) 0 (98 :: p)) := by
            show Encodes _ _ _ _
            exact enc_blob _ _ _ _ p HOB.out.bytes HLB.out (by have := HQ2.out; omega)
          have HDC := Lib.hid (dec_blob p (by have := HQ2.out; omega))
          have HRE := Lib.hid (recF_len (98 :: p) (by have := HRL.out; omega))
          have HN6 : Hid ((encF ps).length ≤ 4194304) := by show _ ≤ _; have := HPE.out; omega
          obtain ⟨ir, hir⟩ : ∃ i, i = idF (98 :: p) := ⟨_, rfl⟩
          have HIR := Lib.hid hir
          clear hob hown hg hfrom hc6 hcell hir
          cases hfq : findI ir (ps.map idF) with
          | none =>
            have HFQ := Lib.hid hfq
            have HP := Lib.hid (put_new w6 S' m s mp j d m nw th ps HS6.out _ (98 :: p) (by have := HRL.out; omega) HE.out (by rw [← HIR.out]; exact HFQ.out) (by have := HPE.out; have := HRE.out.1; have := HRL.out; omega) (by have := HPL.out; omega) (by omega))
            rw [← HIR.out] at HP
            clear hfq
            go_wp2_with fail
            refine HP.out.mono ?_
            rintro e w7 ⟨rfl, hS7, hc7⟩
            have HS7 := Lib.hid hS7
            have hltS := HS6.out.lt
            have HCw0 : Hid (Chg No w w7) := HCw.out.newer hc7 (fun i hi => by have := (hltS i hi).1; omega)
            clear hltS
            have HCw := HCw0
            have HC7 : Hid (Chg No w7 w7) := Chg.refl _ _
            have HN7 : Hid ((encF (ps ++ [98 :: p])).length ≤ 4200 * (k + 1)) := by
              show _ ≤ _
              rw [encF_snoc, List.length_append]
              have := HPE.out; have := HRE.out.1; have := HRL.out
              omega
            have HE7 := HN7
            have HN7 : Hid ((encF (ps ++ [98 :: p])).length ≤ 4194304) := by show _ ≤ _; have := HE7.out; omega
            have HF7 : Hid (findI ir ((ps ++ [98 :: p]).map idF) = some ps.length) := by
              rw [Hid, List.map_append, List.map_cons, List.map_nil, ← HIR.out, findI_snoc HFQ.out, List.length_map]
            have HG7 : Hid ((ps ++ [98 :: p]).getD ps.length [] = 98 :: p) := getD_snoc _ _
            have hnw7 : nw + ((recF (98 :: p)).length + 31) / 32 ≤ 200 * (k + 1) := by
              have := HRE.out.1; have := HRL.out
              omega
            have HGET := Lib.hid (get_some w7 _ m s mp j d m _ _ _ HS7.out HN7.out ir _ HF7.out (by rw [HG7.out]; have := HRL.out; omega) (.blob p) (by rw [HG7.out]; exact HDC.out))
            have HALL : Hid (∀ r ∈ ps ++ [98 :: p], ∃ c ∈ ls.take (k + 1), r = 98 :: c) := fun r hr => by
              rw [HTK.out]
              rcases List.mem_append.1 hr with h | h
              · obtain ⟨c, h1, h2⟩ := HPA.out r h
                exact ⟨c, List.mem_append.2 (.inl h1), h2⟩
              · exact ⟨p, by simp, by simpa using h⟩
            have HROW : Hid (∀ r ∈ ps ++ [98 :: p], r.length ≤ 4097) := fun r hr => by
              rcases List.mem_append.1 hr with h | h
              · exact HPR.out r h
              · rw [show r = 98 :: p by simpa using h]; exact HRL.out
            have HPL7 : Hid ((ps ++ [98 :: p]).length ≤ k + 1) := by show _ ≤ _; rw [List.length_append]; have := HPL.out; simp; omega
            generalize nw + ((recF (98 :: p)).length + 31) / 32 = nw7 at *
            generalize hps7 : ps ++ [98 :: p] = ps7 at *
            generalize ps.length = q7 at *
            generalize hS'7 : Grow S' w6 w7 = S7 at *
            clear hS7 hc7 HP hps7 hS'7 HS6 HSr HPE HE HOB
            go_wp2_with fail
            refine HGET.out.mono ?_
            rintro e w8 ⟨⟨v8, b8, rfl, ⟨s8, rfl, ho8⟩, hb8⟩, hc8⟩
            obtain ⟨A8, n8, c8, rfl, HL8, HO8⟩ := ho8.form
            have HS8 := Lib.hid (HS7.out.no hc8)
            have HC8 := Lib.hid (HC7.out.no hc8)
            have fb := fun w v => ta_blob_blob w v
            have fc := fun w v => ta_blob_commit w v
            clear ho8 hc8 HGET hb8
            unfold blobV
            have XB := (Chg.refl No w8).alloc (.cells #[.slice A8 n8 c8] 36)
            have hbx8 := Boxed.new w8 36 (.slice A8 n8 c8)
            have HX8 := Lib.hid ((XB.alloc (.cells #[.int .u64 0, .slice none 0 0, .string ⟨#[]⟩, .int .i64 0, .string ⟨#[]⟩] 44)))
            have HBX8 := Lib.hid (hbx8.alloc (.cells #[.int .u64 0, .slice none 0 0, .string ⟨#[]⟩, .int .i64 0, .string ⟨#[]⟩] 44))
            have HBY := Lib.hid (sbytes_calls _ _ _ s mp j d m _ _ _ (HS8.out.no HX8.out) HN7.out ir)
            clear XB hbx8
            go_wp2_with fail
            refine HBY.out.mono ?_
            rintro e w9 ⟨hr, hc9⟩
            rw [BytesR, HF7.out] at hr
            obtain ⟨v9, rfl, ho9⟩ := hr
            rw [HG7.out] at ho9
            obtain ⟨A9, n9, c9, rfl, HL9, HO9⟩ := ho9.form
            have HC89 := Lib.hid (HX8.out.no hc9)
            have HBX9 : Hid (Boxed w9 w8.heap.size 36 (.slice A8 n8 c8)) := hc9.heap HBX8.out (fun x => x)
            have HS9 := Lib.hid (HS8.out.no HC89.out)
            have HWR := Lib.hid (swrites_calls _ _ _ _ _ _ _ _ _ _ _ HS9.out)
            clear ho9 hc9 HBY HX8 HBX8
            go_wp2_with fail
            refine HWR.out.mono ?_
            rintro e w10 ⟨rfl, hc10⟩
            have HC10 := Lib.hid hc10
            clear hc10 HWR
            go_wp2_with (at_builtin; (refine wpList_app2 rfl (.tmp 112) (.tmp 113) 30 30 rfl w10.heap.size 5 (.int .u8 0) 1 1 infoU8 Try.underlying30 rfl (by decide) (.slice (some ⟨w10.heap.size, 0, none⟩) 0 0) (.slice A2 nb c2) 0 nb (u8s []) (u8s p) rfl rfl ?own ?src ?b1 ?b2 ?b3 ?_; (case own => exact OwnB.n (OwnB.lit w10 [] (by decide)) rfl); (case src => exact Src.ofBytes Try.underlying30 (HBP.out.no (((HCw.out.no (HC8.out.no HC89.out)).no HC10.out).alloc _)) HQ2.out); (case b1 => omega); (case b2 => unfold maxLen; omega); (case b3 => simp); intro vb w11 hown hg hfrom; refine Hid.out ?_))
            refine Lib.hid ?_
            obtain ⟨hob, hc11⟩ := scopy_own hown hg
            obtain ⟨AB2, nb2, cb2, rfl, HLB2, HOB2⟩ := hob.form
            have hnb2 : nb2 = nb := by have := HLB2.out; have := HQ2.out; omega
            subst hnb2
            have HC91 := Lib.hid (HC10.out.no hc11)
            have HE2 : Hid (Encodes w11 (blobV (.slice AB2 nb2 cb2)) 0 (98 :: p)) := by
              show Encodes _ _ _ _
              exact enc_blob _ _ _ _ p HOB2.out.bytes HLB2.out (by have := HQ2.out; omega)
            have HS11 := Lib.hid (HS9.out.no HC91.out)
            have HP2 := Lib.hid (put_there w11 _ _ s mp j d m _ _ _ HS11.out HN7.out _ (98 :: p) (by have := HRL.out; omega) HE2.out _ (by rw [← HIR.out]; exact HF7.out))
            rw [if_pos HG7.out, ← HIR.out] at HP2
            clear hob hown hg hfrom hc11 HE2
            go_wp2_with fail
            refine HP2.out.mono ?_
            rintro e w12 ⟨rfl, hc12⟩
            have HC92 := Lib.hid (HC91.out.no hc12)
            have HS12 := Lib.hid (HS11.out.no hc12)
            have HC12 := Lib.hid ((HC8.out.no HC89.out).no HC92.out)
            have cb := (show Boxed w12 w8.heap.size 36 (.slice A8 n8 c8) from HC92.out.heap HBX9.out (fun x => x)).cell
            have ht1 := (HO8.out.bytes.no (HC89.out.no HC92.out)).text (P := Try.prog) (src := 30) (dst := 9) Try.underlying30 Try.underlying5 Try.underlying9
            have ht2 := (HBP.out.no (HCw.out.no HC12.out)).text (P := Try.prog) (src := 30) (dst := 9) Try.underlying30 Try.underlying5 Try.underlying9
            have hne : ((mkS p).toList != (mkS p).toList) = false := by simp
            have HID : Hid (Calls Try.prog 15 #[.slice A9 n9 c9] w12 fun e w' => e = .returned (.int .u64 (ir : Int)) ∧ w' = w12) := by
              rw [HIR.out]
              exact id_calls w12 A9 n9 c9 _ (HO9.out.bytes.no HC92.out) HL9.out (by have := HL9.out; have := HRL.out; omega)
            have HWR2 := Lib.hid (swrites_calls _ _ _ _ _ _ _ _ _ _ _ HS12.out)
            clear hc12 HP2 HS11 HS9 HC10 HC91 HBX9
            go_wp2_with (first | (go_at_call 15; refine HID.out.mono ?_; rintro e w' ⟨rfl, rfl⟩) | (go_at_call 14; refine HWR2.out.mono ?_; rintro e w13 ⟨rfl, hc13⟩))
            go_roundw
            case rel => exact ⟨k + 1, ps7, S7, nw7, true, by omega, by omega, by go_num, hnw7, HPL7.out, HE7.out, HALL.out, HROW.out, HS12.out.no hc13, (HCw.out.no HC12.out).no hc13⟩
            case measure => simp only [intOf]; omega
          | some q =>
            have HFQ := Lib.hid hfq
            have hqlen : q < ps.length := by obtain ⟨h, -⟩ := findI_some hfq; rwa [List.length_map] at h
            have HPT := Lib.hid (put_there w6 S' m s mp j d m nw th ps HS6.out HN6.out _ (98 :: p) (by have := HRL.out; omega) HE.out q (by rw [← HIR.out]; exact HFQ.out))
            rw [← HIR.out] at HPT
            clear hfq
            by_cases hsame : ps.getD q [] = 98 :: p
            · rw [if_pos hsame] at HPT
              have HG7 := Lib.hid hsame
              clear hsame
              go_wp2_with fail
              refine HPT.out.mono ?_
              rintro e w7 ⟨rfl, hc7⟩
              have HS7 := Lib.hid (HS6.out.no hc7)
              have HCw0 := Lib.hid (HCw.out.no hc7)
              have HCw := HCw0
              have HC7 : Hid (Chg No w7 w7) := Chg.refl _ _
              have HN7 := HN6
              have HF7 := HFQ
              have HGET := Lib.hid (get_some w7 _ m s mp j d m _ _ _ HS7.out HN7.out ir _ HF7.out (by rw [HG7.out]; have := HRL.out; omega) (.blob p) (by rw [HG7.out]; exact HDC.out))
              have HALL : Hid (∀ r ∈ ps, ∃ c ∈ ls.take (k + 1), r = 98 :: c) := fun r hr => by
                rw [HTK.out]
                obtain ⟨c, h1, h2⟩ := HPA.out r hr
                exact ⟨c, List.mem_append.2 (.inl h1), h2⟩
              have HE7 : Hid ((encF ps).length ≤ 4200 * (k + 1)) := by show _ ≤ _; have := HPE.out; omega
              have HPL7 : Hid (ps.length ≤ k + 1) := by show _ ≤ _; have := HPL.out; omega
              clear hc7 HPT HS6 HSr HPE HE HOB hqlen
              go_wp2_with fail
              refine HGET.out.mono ?_
              rintro e w8 ⟨⟨v8, b8, rfl, ⟨s8, rfl, ho8⟩, hb8⟩, hc8⟩
              obtain ⟨A8, n8, c8, rfl, HL8, HO8⟩ := ho8.form
              have HS8 := Lib.hid (HS7.out.no hc8)
              have HC8 := Lib.hid (HC7.out.no hc8)
              have fb := fun w v => ta_blob_blob w v
              have fc := fun w v => ta_blob_commit w v
              clear ho8 hc8 HGET hb8
              unfold blobV
              have XB := (Chg.refl No w8).alloc (.cells #[.slice A8 n8 c8] 36)
              have hbx8 := Boxed.new w8 36 (.slice A8 n8 c8)
              have HX8 := Lib.hid ((XB.alloc (.cells #[.int .u64 0, .slice none 0 0, .string ⟨#[]⟩, .int .i64 0, .string ⟨#[]⟩] 44)))
              have HBX8 := Lib.hid (hbx8.alloc (.cells #[.int .u64 0, .slice none 0 0, .string ⟨#[]⟩, .int .i64 0, .string ⟨#[]⟩] 44))
              have HBY := Lib.hid (sbytes_calls _ _ _ s mp j d m _ _ _ (HS8.out.no HX8.out) HN7.out ir)
              clear XB hbx8
              go_wp2_with fail
              refine HBY.out.mono ?_
              rintro e w9 ⟨hr, hc9⟩
              rw [BytesR, HF7.out] at hr
              obtain ⟨v9, rfl, ho9⟩ := hr
              rw [HG7.out] at ho9
              obtain ⟨A9, n9, c9, rfl, HL9, HO9⟩ := ho9.form
              have HC89 := Lib.hid (HX8.out.no hc9)
              have HBX9 : Hid (Boxed w9 w8.heap.size 36 (.slice A8 n8 c8)) := hc9.heap HBX8.out (fun x => x)
              have HS9 := Lib.hid (HS8.out.no HC89.out)
              have HWR := Lib.hid (swrites_calls _ _ _ _ _ _ _ _ _ _ _ HS9.out)
              clear ho9 hc9 HBY HX8 HBX8
              go_wp2_with fail
              refine HWR.out.mono ?_
              rintro e w10 ⟨rfl, hc10⟩
              have HC10 := Lib.hid hc10
              clear hc10 HWR
              go_wp2_with (at_builtin; (refine wpList_app2 rfl (.tmp 112) (.tmp 113) 30 30 rfl w10.heap.size 5 (.int .u8 0) 1 1 infoU8 Try.underlying30 rfl (by decide) (.slice (some ⟨w10.heap.size, 0, none⟩) 0 0) (.slice A2 nb c2) 0 nb (u8s []) (u8s p) rfl rfl ?own ?src ?b1 ?b2 ?b3 ?_; (case own => exact OwnB.n (OwnB.lit w10 [] (by decide)) rfl); (case src => exact Src.ofBytes Try.underlying30 (HBP.out.no (((HCw.out.no (HC8.out.no HC89.out)).no HC10.out).alloc _)) HQ2.out); (case b1 => omega); (case b2 => unfold maxLen; omega); (case b3 => simp); intro vb w11 hown hg hfrom; refine Hid.out ?_))
              refine Lib.hid ?_
              obtain ⟨hob, hc11⟩ := scopy_own hown hg
              obtain ⟨AB2, nb2, cb2, rfl, HLB2, HOB2⟩ := hob.form
              have hnb2 : nb2 = nb := by have := HLB2.out; have := HQ2.out; omega
              subst hnb2
              have HC91 := Lib.hid (HC10.out.no hc11)
              have HE2 : Hid (Encodes w11 (blobV (.slice AB2 nb2 cb2)) 0 (98 :: p)) := by
                show Encodes _ _ _ _
                exact enc_blob _ _ _ _ p HOB2.out.bytes HLB2.out (by have := HQ2.out; omega)
              have HS11 := Lib.hid (HS9.out.no HC91.out)
              have HP2 := Lib.hid (put_there w11 _ _ s mp j d m _ _ _ HS11.out HN7.out _ (98 :: p) (by have := HRL.out; omega) HE2.out _ (by rw [← HIR.out]; exact HF7.out))
              rw [if_pos HG7.out, ← HIR.out] at HP2
              clear hob hown hg hfrom hc11 HE2
              go_wp2_with fail
              refine HP2.out.mono ?_
              rintro e w12 ⟨rfl, hc12⟩
              have HC92 := Lib.hid (HC91.out.no hc12)
              have HS12 := Lib.hid (HS11.out.no hc12)
              have HC12 := Lib.hid ((HC8.out.no HC89.out).no HC92.out)
              have cb := (show Boxed w12 w8.heap.size 36 (.slice A8 n8 c8) from HC92.out.heap HBX9.out (fun x => x)).cell
              have ht1 := (HO8.out.bytes.no (HC89.out.no HC92.out)).text (P := Try.prog) (src := 30) (dst := 9) Try.underlying30 Try.underlying5 Try.underlying9
              have ht2 := (HBP.out.no (HCw.out.no HC12.out)).text (P := Try.prog) (src := 30) (dst := 9) Try.underlying30 Try.underlying5 Try.underlying9
              have hne : ((mkS p).toList != (mkS p).toList) = false := by simp
              have HID : Hid (Calls Try.prog 15 #[.slice A9 n9 c9] w12 fun e w' => e = .returned (.int .u64 (ir : Int)) ∧ w' = w12) := by
                rw [HIR.out]
                exact id_calls w12 A9 n9 c9 _ (HO9.out.bytes.no HC92.out) HL9.out (by have := HL9.out; have := HRL.out; omega)
              have HWR2 := Lib.hid (swrites_calls _ _ _ _ _ _ _ _ _ _ _ HS12.out)
              clear hc12 HP2 HS11 HS9 HC10 HC91 HBX9
              go_wp2_with (first | (go_at_call 15; refine HID.out.mono ?_; rintro e w' ⟨rfl, rfl⟩) | (go_at_call 14; refine HWR2.out.mono ?_; rintro e w13 ⟨rfl, hc13⟩))
              go_roundw
              case rel => exact ⟨k + 1, ps, S', nw, th, by omega, by omega, by go_num, (by omega), HPL7.out, HE7.out, HALL.out, HPR.out, HS12.out.no hc13, (HCw.out.no HC12.out).no hc13⟩
              case measure => simp only [intOf]; omega
            · rw [if_neg hsame] at HPT
              obtain ⟨cx, hcx, hcr⟩ := HPA.out _ (getD_mem ps q hqlen)
              have HUN : Hid (unlike p (ls.take k) = true) := unlike_mem p hcx (fun h => hsame (by rw [hcr, h]))
              clear hsame hcx hcr
              go_wp2_with fail
              refine HPT.out.mono ?_
              rintro e w7 ⟨rfl, hc7⟩
              have HC7 := Lib.hid (HCw.out.no hc7)
              clear hc7 HPT HS6 HSr HPE HE HOB hqlen
              have hkn : k ≤ c := by
                obtain ⟨vs, -, ⟨_, _, he, h2, -⟩, -⟩ := HSL.out
                simp only [Value.slice.injEq] at he
                obtain ⟨-, -, rfl⟩ := he
                have := HL.out
                omega
              go_wp2
              go_loopw [10, 72] (fun t i wr => ∃ z : Nat, z ≤ k ∧ i = .int .i64 (z : Int) ∧ t = .bool (unlike p (ls.take z)) ∧ wr = w7) (fun _ i _ => k - (intOf i).toNat)
              case atStart => exact ⟨0, Nat.zero_le _, rfl, rfl, rfl⟩
              case round =>
                obtain ⟨z, hz, rfl, rfl, rfl⟩ := hrel
                rcases Nat.lt_or_ge z k with hlz | hgz
                · have j1 : (z : Int) < (k : Int) := by omega
                  have hzl : z < ls.length := by omega
                  obtain ⟨lb', lo', hee, hget⟩ := HSL.out.get (by omega)
                  cases hee
                  obtain ⟨A5, q5, c5, hcell5, hby5, HQ5⟩ := hget z hzl
                  have hcell5 := HC7.out.cell hcell5 (fun x => x)
                  have ht1 := (hby5.no HC7.out).text (P := Try.prog) (src := 30) (dst := 9) Try.underlying30 Try.underlying5 Try.underlying9
                  have ht2 := (HBP.out.no HC7.out).text (P := Try.prog) (src := 30) (dst := 9) Try.underlying30 Try.underlying5 Try.underlying9
                  have HT5 : Hid (unlike p (ls.take (z + 1)) = (unlike p (ls.take z) || decide (ls[z] ≠ p))) := by
                    rw [Hid, List.take_succ_eq_append_getElem hzl, unlike_app, unlike, unlike, Bool.or_false]
                  have hne5 := neS ls[z] p
                  generalize decide (ls[z] ≠ p) = B5 at *
                  generalize ls[z] = x5 at *
                  have HNE5 := Lib.hid hne5
                  clear hget hby5
                  generalize hu : unlike p (ls.take z) = U at *
                  clear hu
                  cases U
                  · go_wp2
                    go_roundw
                    case rel => exact ⟨z + 1, by omega, by go_num, by rw [HT5.out, ← HNE5.out]; first | rfl | simp [bne], by first | rfl | trivial⟩
                    case measure => simp only [intOf]; omega
                  · go_wp2
                    go_roundw
                    case rel => exact ⟨z + 1, by omega, by go_num, by rw [HT5.out, ← HNE5.out]; first | rfl | simp [bne], by first | rfl | trivial⟩
                    case measure => simp only [intOf]; omega
                · have j1 : ¬ (z : Int) < (k : Int) := by omega
                  have hzk : z = k := by omega
                  have HU : Hid (unlike p (ls.take z) = true) := by rw [hzk]; exact HUN.out
                  have hu := HU.out
                  clear hzk
                  rw [hu]
                  clear hu
                  go_wp2
                  go_ret
                  exact ⟨rfl, HC7.out⟩
    · have i1 : ¬ (k : Int) < (n : Int) := by omega
      go_wp2
      go_ret
      exact ⟨rfl, HC.out⟩
theorem storeBytes_walk (w : World) (L : Option Addr) (n c : Nat) (ls : List (List UInt8)) (hL : Sl2 w (.slice L n c) ls) (hl : ls.length = n) (hn24 : n * 24 ≤ 140737488351232 ∧ ∀ l ∈ ls, l.length ≤ 140737488351232) :
    Calls Try.prog 3 #[.slice L n c] w fun e w' => e = .returned (.bool true) ∧ Below w.heap.size w w' :=
  (storeBytes_core w L n c ls hL hl hn24.1 hn24.2).mono fun _ _ h => ⟨h.1, h.2.below⟩
end Go.Proofs.Ytccphnkdnifpfaa

namespace Go.Proofs.Ytccphnkdnifpfaa.storeBytes
set_option linter.unnecessarySimpa false
open Go.Proofs.Ytccphnkdnifpfaa
open Go.ChangeShapes Go.WideShapes Go.ChangeAt Go.RowKit
open Go.ChangeMaps (open_string shut_string)
set_option linter.unusedVariables false
set_option linter.unusedSimpArgs false

set_option maxRecDepth 100000 in
theorem lifted (os : Os) (started : os.Started) (H : Type) (enc : TypeId × Value → H) :
    ReturnsInHanded {} Try.checked os 3 .any (Rows.storeBytesSpec.pre6 enc Try.prog Try.f3 Rows.storeBytesRow.domain false) (Rows.storeBytesSpec.post enc Try.prog Try.f3 false true false false) := by
  refine returnsInHanded_of_change_sized (C := Try.checked) own started (by kernel_rfl) Try.func3
    (ChangeSpec.witness6 (enc := enc) (C := Try.checked) false ⟨#[], #[.slice none 0 0], []⟩ 8 (by kernel_rfl) (by kernel_rfl) (by kernel_rfl) (by kernel_rfl)) ?_
  intro W base args ds gs before hval0 hW hcnd hsz0 _
  have hval : ∀ (j : Nat) t v, Try.f3.params[j]? = some t → args[j]? = some v → Value.okWide Try.prog W .any base t v := hval0
  have hsz : (DataW.weightsEach Try.prog (Try.f3.params.toList ++ Rows.storeBytesSpec.plain.varTypes Try.prog) (ds ++ gs)).all (· ≤ reachBytes) = true := hsz0
  have hW' := hW
  obtain ⟨p, q, hA0, hV, rfl, hfz, hnd⟩ := hW
  have hA : DataW.TrodAll enc Try.prog W 0 (fun _ => true) true Try.f3.params.toList args.toList ds p := hA0
  rw [Try.params3] at hA hval
  rw [Try.params3] at hsz
  obtain ⟨v0, vs0, d0, ds0, p0, q0, hargs, rfl, rfl, h0, r0⟩ := trodAll_cons hA
  obtain ⟨rfl, rfl, rfl⟩ := trodAll_nil r0
  obtain rfl : args = #[v0] := by cases args; simp_all
  obtain ⟨rfl, rfl⟩ := trodVars_none hV
  have k0 := h0
  have lt0 : ∀ x ∈ p0, x.block < W.heap.size := by obtain ⟨m, hm⟩ := k0; exact DataW.trod_lt m _ _ _ hm
  obtain ⟨A0, n0, c0, xs0, rfl, w0, l0, e0, f0⟩ := open_rows Try.underlying22 Try.underlying30 Try.underlying5 (by kernel_rfl) (by kernel_rfl) (hval 0 22 v0 rfl rfl) h0
  have b0 := rows_sized hsz (j := 0) (t := 22) (e := 30) (q := 5) rfl rfl Try.underlying22 Try.underlying30 (by kernel_rfl) (by kernel_rfl) e0 f0
  clear hA0 hval0
  refine (storeBytes_walk W A0 n0 c0 xs0 w0 l0 b0).mono fun e W' ⟨he, bel⟩ => ?_
  subst he
  exact ⟨_, rfl, _, _, _, [], _, [], hW', trodAll_mk1 (shut_bool Try.underlying4 _), (trodAll_cons_mk (Below.trod laidOut (by kernel_rfl) (of_decide_eq_true (by kernel_rfl)) k0 bel lt0) trodAll_mk0), rfl, bel.frame _, fun h => by cases h⟩

theorem over : Rows.storeBytesRow.holds Try.pinned (OpenSpec.ofChange Rows.storeBytesSpec) :=
  OpenClaim.holds_of_wide 3 Try.f3 rfl rfl rfl rfl rfl rfl rfl ⟨rfl, rfl, rfl, rfl, rfl⟩ rfl rfl rfl rfl rfl (by kernel_rfl) Try.func3 (by kernel_rfl)
    (of_decide_eq_true (by kernel_rfl)) (by unfold Func.isWrapper; first | (rw [if_pos (by decide +kernel)]; kernel_rfl) | (rw [if_neg (by decide +kernel)]; exact ⟨rfl, rfl⟩))
    (fun os started H enc _ => lifted os started H enc)

theorem proved : Rows.StoreBytesSaid := over
#print axioms proved
end Go.Proofs.Ytccphnkdnifpfaa.storeBytes

