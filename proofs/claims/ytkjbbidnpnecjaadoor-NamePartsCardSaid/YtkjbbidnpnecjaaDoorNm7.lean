/-
  Names: texts; the sizes of a row of texts that came in; a row of texts cut and read.
-/
import Derived.Test.YtkjbbidnpnecjaaDoorNm6
import Derived.Test.YtkjbbidnpnecjaaDoorOpen
import Derived.BigQuiet
namespace Go.Proofs.YtkjbbidnpnecjaaDoor
open Go.RowKit
set_option linter.unusedVariables false
set_option linter.unusedSimpArgs false
set_option maxRecDepth 100000

theorem weightsAll_mem {H : Type} {P : Program} {e : TypeId} {x : DataW H} : ∀ {l : List (DataW H)}, x ∈ l → ∀ n ∈ x.weights P e, n ∈ DataW.weightsAll P e l
  | d :: r, h, n, hn => by
    simp only [DataW.weightsAll, List.mem_append]
    rcases List.mem_cons.1 h with rfl | h
    · exact .inl hn
    · exact .inr (weightsAll_mem h n hn)
theorem strs_sized {H : Type} {P : Program} {ts : List TypeId} {ds : List (DataW H)} (h : (DataW.weightsEach P ts ds).all (· ≤ reachBytes) = true) {j : Nat} {t e : TypeId} {d : DataW H} {ls : List (List UInt8)}
    (ht : ts[j]? = some t) (hd : ds[j]? = some d) (hu : P.underlying t = some (.slice e)) (hl : ls = [] ∨ ∃ spare, d = .slice (ls.map fun s => .lit (.string s)) spare) : ∀ l ∈ ls, l.length ≤ 140737488351232 := by
  intro l hml
  rcases hl with rfl | ⟨spare, rfl⟩
  · cases hml
  · have h1 : l.length ∈ (DataW.lit (.string l) : DataW H).weights P e := by simp [DataW.weights]
    have h2 : l.length ∈ (DataW.slice (ls.map fun s => (DataW.lit (.string s) : DataW H)) spare).weights P t := by
      simp only [DataW.weights, hu, List.mem_cons, List.mem_append]
      exact .inr (.inl (weightsAll_mem (List.mem_map.2 ⟨l, hml, rfl⟩) _ h1))
    have h3 : l.length ≤ reachBytes := by simpa using List.all_eq_true.1 h _ (DataW.weights_mem_each ht hd _ h2)
    simpa [reachBytes] using h3
theorem Sl.take {w : World} {A : Option Addr} {n c k m : Nat} {l : List (List UInt8)} (h : Sl strv w (.slice A n c) l) (hk : k ≤ n) (hkm : k ≤ m) (hmc : m ≤ c) : Sl strv w (.slice A k m) (l.take k) := by
  have hn := h.len
  have := Holds.take (size := 1) (k := k) (m := m) (show Holds w (.slice A n c) n (l.map strv) by rw [← hn]; rw [← hn] at h; exact h) hk hkm hmc (by simp [hn])
  simpa [Sl, List.map_take, hn, Nat.min_eq_left hk] using this
set_option maxHeartbeats 1600000 in
theorem texts_calls (w : World) (A : Option Addr) (n c : Nat) (xs : List (List UInt8)) (A' : Option Addr) (n' c' : Nat) (ys : List (List UInt8)) (h : Sl strv w (.slice A n c) xs) (h' : Sl strv w (.slice A' n' c') ys) (hn : n ≤ 9223372036854775807) (hn' : n' ≤ 9223372036854775807) :
    Calls Tryd.prog 21 #[.slice A n c, .slice A' n' c'] w fun e w' => e = .returned (.bool (decide (xs = ys))) ∧ Chg No w w' := by
  have HL := Lib.hid h.len
  have HL' := Lib.hid h'.len
  have H := Lib.hid h
  have H' := Lib.hid h'
  clear h h'
  by_cases hnn : n = n'
  · subst hnn
    go_enter Tryd.func21, Tryd.ntmps21
    go_wp2
    go_loopw [13] (fun i wr => ∃ k : Nat, k ≤ n ∧ i = .int .i64 (k : Int) ∧ Hid (xs.take k = ys.take k) ∧ Hid (Chg No w wr)) (fun i _ => n - (intOf i).toNat)
    case atStart => exact ⟨0, Nat.zero_le _, rfl, rfl, Chg.refl _ _⟩
    case round =>
      obtain ⟨k, hk, rfl, HN, HC⟩ := hrel
      by_cases hlt : k < n
      · obtain ⟨b, o, rfl, hcell⟩ := (H.out.no HC.out).addr (by rw [HL.out]; omega)
        obtain ⟨b', o', rfl, hcell'⟩ := (H'.out.no HC.out).addr (by rw [HL'.out]; omega)
        have c0 := hcell k (by rw [HL.out]; exact hlt)
        have d0 := hcell' k (by rw [HL'.out]; exact hlt)
        have hT : xs.take (k + 1) = xs.take k ++ [xs[k]'(by rw [HL.out]; exact hlt)] := by rw [List.take_succ_eq_append_getElem]
        have hT' : ys.take (k + 1) = ys.take k ++ [ys[k]'(by rw [HL'.out]; exact hlt)] := by rw [List.take_succ_eq_append_getElem]
        generalize xs[k]'(by rw [HL.out]; exact hlt) = x at *
        generalize ys[k]'(by rw [HL'.out]; exact hlt) = y at *
        have HT := Lib.hid hT
        have HT' := Lib.hid hT'
        clear hcell hcell' hT hT'
        rw [strv_text] at c0 d0
        by_cases hx : x = y
        · subst hx
          generalize mkS x = sx at *
          go_wp2
          go_quiet (fail)
          go_wp2
          go_roundw
          case rel => exact ⟨k + 1, by omega, by simp, by rw [Hid, HT.out, HT'.out, HN.out], by first | exact HC.out | exact HC.out.drewN _⟩
          case measure => simp [intOf]; omega
        · have HF : Hid (decide (xs = ys) = false) := by
            rw [Hid, decide_eq_false_iff_not]
            rintro rfl
            have := HT.out.symm.trans HT'.out
            rw [List.append_cancel_left_eq, List.singleton_inj] at this
            exact hx this
          have hb : ((mkS x).toList == (mkS y).toList) = false := by rw [Lib.toList_data, Lib.toList_data, mkS_list, mkS_list]; exact beq_eq_false_iff_ne.2 hx
          clear hx
          generalize mkS x = sx at *
          generalize mkS y = sy at *
          go_wp2
          go_quiet (fail)
          go_wp2
          go_ret
          exact ⟨by rw [HF.out]; rfl, by first | exact HC.out | exact HC.out.drewN _⟩
      · have HT : Hid (xs = ys) := by
          have := HN.out
          rwa [List.take_of_length_le (by rw [HL.out]; omega), List.take_of_length_le (by rw [HL'.out]; omega)] at this
        have hlt2 : ¬ (k : Int) < (n : Int) := by omega
        go_wp2
        go_ret
        exact ⟨by rw [HT.out]; simp, HC.out⟩
  · have HF : Hid (decide (xs = ys) = false) := by
      rw [Hid, decide_eq_false_iff_not]
      rintro rfl
      exact hnn (HL.out.symm.trans HL'.out)
    have hb : ¬ (n : Int) = (n' : Int) := by omega
    go_enter Tryd.func21, Tryd.ntmps21
    go_wp2
    go_ret
    exact ⟨by rw [HF.out]; rfl, Chg.refl _ _⟩
end Go.Proofs.YtkjbbidnpnecjaaDoor
