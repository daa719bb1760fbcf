/-
  Bulk, RuleBack, Rq: in one text.
-/
import Derived.Test.YtcomcoolmabmgaaDoorRows
import Derived.Test.YtcomcoolmabmgaaDoorBa11
import Derived.Test.YtcomcoolmabmgaaDoorBa9
namespace Go.Proofs.YtcomcoolmabmgaaDoor.bulks
set_option linter.unnecessarySimpa false

theorem bound {H : Type} {l : List (DataW H)} (hk : Rows.uptoSmall H l = true) : Rows.uptoBulkAll l ≤ 1048576 := by
  unfold Rows.uptoSmall at hk
  exact of_decide_eq_true hk
theorem string_eq {H : Type} (l : List UInt8) : Rows.uptoBulk (DataW.lit (H := H) (.string l)) = l.length + 1 := by unfold Rows.uptoBulk; rfl
theorem pos {H : Type} : ∀ d : DataW H, 0 < Rows.uptoBulk d
  | .lit l => by cases l <;> simp [Rows.uptoBulk]
  | .nil => by simp [Rows.uptoBulk]
  | .ptr _ => by simp [Rows.uptoBulk]
  | .slice _ _ => by simp [Rows.uptoBulk]
  | .agg _ => by simp [Rows.uptoBulk]
  | .iface _ _ => by simp [Rows.uptoBulk]
  | .map _ => by simp [Rows.uptoBulk]
  | .held _ => by simp [Rows.uptoBulk]
theorem all_ge {H : Type} : ∀ l : List (DataW H), l.length ≤ Rows.uptoBulkAll l
  | [] => by simp [Rows.uptoBulkAll]
  | d :: r => by
    have h1 := pos d
    have h2 := all_ge r
    simp only [Rows.uptoBulkAll, List.length_cons]
    omega
theorem all_mem {H : Type} {d : DataW H} : ∀ {l : List (DataW H)}, d ∈ l → Rows.uptoBulk d ≤ Rows.uptoBulkAll l
  | x :: r, h => by
    simp only [Rows.uptoBulkAll]
    rcases List.mem_cons.1 h with rfl | h
    · omega
    · have := all_mem h
      omega
theorem slice_eq {H : Type} (a b : List (DataW H)) : Rows.uptoBulk (.slice a b) = Rows.uptoBulkAll a + Rows.uptoBulkAll b + 1 := by simp [Rows.uptoBulk]
theorem slice_le {H : Type} (a b : List (DataW H)) : a.length + b.length + 1 ≤ Rows.uptoBulk (.slice a b) := by
  have h1 := all_ge a
  have h2 := all_ge b
  rw [slice_eq]
  omega
end Go.Proofs.YtcomcoolmabmgaaDoor.bulks

namespace Go.Proofs.YtcomcoolmabmgaaDoor
set_option linter.unnecessarySimpa false
open Go.RowKit Go.Shelf
set_option linter.unusedVariables false
set_option linter.unusedSimpArgs false
set_option maxRecDepth 100000

theorem printF_cases (xs : List Rul) : ((printF xs).2 = 0 ∧ okR xs = true ∧ xs.length ≤ 64 ∧ (printF xs).1 = catR xs) ∨ ((printF xs).2 ≠ 0 ∧ (printF xs).1 = []) := by
  rw [printF]
  by_cases h : 64 < xs.length
  · rw [if_pos h]; exact .inr ⟨(by show (3 : Int) ≠ 0; decide), rfl⟩
  · rw [if_neg h]
    cases ho : okR xs with
    | true => exact .inl ⟨rfl, rfl, by omega, rfl⟩
    | false => exact .inr ⟨(by show (2 : Int) ≠ 0; decide), rfl⟩
theorem print_small {xs : List Rul} (h : okR xs = true) (hl : xs.length ≤ 64) : (catR xs).length ≤ 108864 := by
  have := cat_len xs (okR_iff.1 h)
  have : xs.length * 1701 ≤ 64 * 1701 := Nat.mul_le_mul_right _ hl
  omega
set_option maxHeartbeats 3200000 in
theorem ruleBack_core (w : World) (A : Option Addr) (n c : Nat) (xs : List Rul) (h : Rs w (.slice A n c) xs) (hn : n * 40 ≤ 140737488355328) (hx : ∀ x ∈ xs, x.2.1.length ≤ 9223372036854775807 ∧ x.2.2.length ≤ 9223372036854775807) :
    Calls Tryd.prog 5 #[.slice A n c] w fun e w' => e = .returned (.bool true) ∧ Chg No w w' := by
  have sg := fun w x y xs ys => spot_guard w x y xs ys
  have se := fun w a b c d => spot_eq w a b c d
  have HWK := Lib.hid fun w => rwakes_calls w
  have HL := Lib.hid h.len
  have H := Lib.hid h
  have HX := Lib.hid hx
  have hn40 : n ≤ 9223372036854775807 := by omega
  clear h hx
  have HPR : Hid (∀ W A' c', Rs W (.slice A' n c') xs → Calls Tryd.prog 16 #[.slice A' n c'] W fun e w' => e = .returned (.tuple #[.string (mkS (printF xs).1), .int .i64 (printF xs).2]) ∧ Chg No W w') := fun W A' c' h => print_calls W A' n c' xs h hn40 HX.out
  have HPC := Lib.hid (printF_cases xs)
  generalize hpf : (printF xs).1 = pf at HPR HPC
  generalize hpe : (printF xs).2 = pe at HPR HPC
  clear hpf hpe
  go_enter Tryd.func5, Tryd.ntmps5
  go_wp2_with fail
  refine (HWK.out _).mono ?_
  rintro e w1 ⟨rfl, hc1⟩
  have HCW : Hid (Chg No w w1) := hc1
  have HA : Hid (Src Tryd.prog 3 23 (.slice A n c) n (xs.flatMap encR) (w1.alloc (.cells #[] 32))) := srcRs ((H.out.no hc1).no ((Chg.refl _ _).alloc _))
  clear hc1
  go_wp2_with (at_builtin; (refine wpList_app _ rfl (.tmp 10) (.tmp 11) 23 23 rfl w1.heap.size 32 (.agg #[.int .i64 0, .string ⟨#[]⟩, .string ⟨#[]⟩]) 3 40 infoR Tryd.underlying23 rfl (by decide) (.slice (some ⟨w1.heap.size, 0, none⟩) 0 0) (.slice A n c) 0 n ([]) (xs.flatMap encR) rfl rfl ?own ?src ?b1 ?b2 ?b3 ?_; (case own => exact World.ownsRow_made w1 #[] 0 (Nat.le_refl _) (Nat.zero_le _) rfl); (case src => exact HA.out); (case b1 => omega); (case b2 => unfold maxLen; omega); (case b3 => rw [World.size_alloc]; omega); intro v8 w8 hown8 hg8; refine Hid.out ?_))
  refine Lib.hid ?_
  rw [Nat.zero_add, List.nil_append] at hown8
  obtain ⟨A8, c8, rfl⟩ := ownsRow_form hown8
  have HR8 := Lib.hid (OwnR.rs (n := n) (base := w1.heap.size) hown8)
  have HC8 : Hid (Chg No w w8) := (HCW.out.alloc (.cells #[] 32)).grown hg8 (fun r hr => .inl (by have : w1.heap.size = r := Option.some.inj hr; have := HCW.out.size; omega))
  clear hown8 hg8 HA
  go_wp2_with fail
  refine (HPR.out _ _ _ HR8.out).mono ?_
  rintro e w9 ⟨rfl, hc9⟩
  have HC9 := Lib.hid (HC8.out.no hc9)
  clear hc9 HPR
  rcases HPC.out with ⟨h0, hok, h64, hc⟩ | ⟨h0, hc⟩
  · subst h0
    subst hc
    have hsm := print_small hok h64
    have b1 : ¬ ((131072 : Int) < ((mkS (catR xs)).size : Int)) := by rw [mkS_size]; omega
    have HRD := Lib.hid fun w => readall_calls w (mkS (catR xs)) (by rw [mkS_size]; omega)
    rw [mkS_list, read_cat (okR_iff.1 hok) h64 (by omega)] at HRD
    clear HPC hok h64
    generalize catR xs = cx at *
    go_wp2_with fail
    refine (HRD.out _).mono ?_
    rintro e w2 ⟨⟨A2, n2, c2, he, ho⟩, hc2⟩
    simp only at he ho
    subst he
    have HC2 := Lib.hid (HC9.out.no hc2)
    have HO2 := Lib.hid ho.rs
    clear ho hc2
    have HR2 := Lib.hid (H.out.no HC2.out)
    have hnn : n2 ≤ 9223372036854775807 := by
      obtain ⟨A9, c9, he9, h1, h2, -⟩ := HO2.out
      simp only [Value.slice.injEq] at he9
      unfold maxLen at h2; omega
    have HSM := Lib.hid fun o => rsame_calls (w2.alloc o) A2 n2 c2 xs A n c xs (HO2.out.no ((Chg.refl No w2).alloc o)) (HR2.out.no ((Chg.refl No w2).alloc o)) hnn
    go_wp2_with fail
    refine (HSM.out _).mono ?_
    rintro e w4 ⟨rfl, hc4⟩
    have HC4 := Lib.hid ((HC2.out.alloc _).no hc4)
    have hd : decide True = true := rfl
    clear hc4
    go_wp2_with fail
    refine (HWK.out _).mono ?_
    rintro e w5 ⟨rfl, hc5⟩
    have HC5 := Lib.hid (HC4.out.no hc5)
    clear hc5
    go_wp2
    go_ret
    exact ⟨by simp, HC5.out⟩
  · have hb : (pe != 0) = true := bne_iff_ne.2 h0
    subst hc
    rw [mkS_nil]
    clear HPC
    go_wp2_with fail
    refine (HWK.out _).mono ?_
    rintro e w5 ⟨rfl, hc5⟩
    have HC5 := Lib.hid (HC9.out.no hc5)
    clear hc5
    go_wp2
    go_ret
    exact ⟨by simp, HC5.out⟩
theorem ruleBack_walk (w : World) (A : Option Addr) (n c : Nat) (xs : List Rul) (h : Rs w (.slice A n c) xs) (hn : n * 40 ≤ 140737488355328) (hx : ∀ x ∈ xs, x.2.1.length ≤ 9223372036854775807 ∧ x.2.2.length ≤ 9223372036854775807) :
    Calls Tryd.prog 5 #[.slice A n c] w fun e w' => e = .returned (.bool true) ∧ Below w.heap.size w w' :=
  (ruleBack_core w A n c xs h hn hx).mono fun _ _ h => ⟨h.1, h.2.below⟩
end Go.Proofs.YtcomcoolmabmgaaDoor

namespace Go.Proofs.YtcomcoolmabmgaaDoor
set_option linter.unnecessarySimpa false
open Go.RowKit
set_option linter.unusedVariables false
set_option linter.unusedSimpArgs false
set_option maxRecDepth 100000

/-- Words, quoted, each behind blanks. -/
def drW (k : Nat) (ws : List (List UInt8)) : List UInt8 := ws.flatMap fun x => List.replicate k 32 ++ quoteF x
def noteF (r : List UInt8) : List UInt8 := r.filter (· ≠ 10)
/-- A line, dressed. -/
def drX (k : Nat) (note : List UInt8) (ws : List (List UInt8)) : List UInt8 := drW k ws ++ (32 :: 35 :: note)
def drL (k : Nat) (note : List UInt8) (ls : List (List UInt8)) : List UInt8 := ls.flatMap fun l => drX k note (wordsOf l) ++ [10, 10]
theorem words_blanks : ∀ (k p : Nat) (acc : List (List UInt8)) (u : List UInt8), wordsF p acc (List.replicate k 32 ++ u) = wordsF (p + k) acc u
  | 0, p, acc, u => by simp
  | k + 1, p, acc, u => by
    rw [List.replicate_succ, List.cons_append, words_sp, words_blanks k]
    congr 1; omega
theorem drX_head (k : Nat) (hk : 1 ≤ k) (note : List UInt8) (ws : List (List UInt8)) : (drX k note ws).head?.getD 32 = 32 := by
  cases ws with
  | nil => rfl
  | cons w t =>
    obtain ⟨j, rfl⟩ : ∃ j, k = j + 1 := ⟨k - 1, by omega⟩
    simp [drX, drW, List.replicate_succ]
theorem words_dress (k : Nat) (hk : 1 ≤ k) (note : List UInt8) : ∀ (ws : List (List UInt8)) (p : Nat) (acc : List (List UInt8)), wordsF p acc (drX k note ws) = .inr (acc ++ ws)
  | [], p, acc => by
    rw [show drX k note [] = 32 :: 35 :: note from rfl, words_sp, wordsF, if_pos rfl, List.append_nil]
  | w :: t, p, acc => by
    have e : drX k note (w :: t) = List.replicate k 32 ++ (quoteF w ++ drX k note t) := by simp [drX, drW]
    rw [e, words_blanks, words_quoted _ _ _ _ (drX_head k hk note t), words_dress k hk note t]
    simp
theorem wordsOf_dress (k : Nat) (hk : 1 ≤ k) (note : List UInt8) (ws : List (List UInt8)) : wordsOf (drX k note ws) = ws := by
  rw [wordsOf, words_dress k hk]; rfl
theorem drX_bytes (k : Nat) (note : List UInt8) (hn : ∀ b ∈ note, b ≠ 10) (ws : List (List UInt8)) : ∀ b ∈ drX k note ws, b ≠ 10 := by
  intro b hb
  rw [drX, List.mem_append, drW, List.mem_flatMap] at hb
  rcases hb with ⟨x, -, hb⟩ | hb
  · rw [List.mem_append] at hb
    rcases hb with hb | hb
    · rw [List.eq_of_mem_replicate hb]; decide
    · exact good_bytes _ _ (Nat.le_refl _) (good_quote x) b hb
  · rcases List.mem_cons.1 hb with rfl | hb
    · decide
    · rcases List.mem_cons.1 hb with rfl | hb
      · decide
      · exact hn b hb
theorem note_bytes (r : List UInt8) : ∀ b ∈ noteF r, b ≠ 10 := fun b hb => by
  have := (List.mem_filter.1 hb).2
  simpa using this
theorem lines_dress (k : Nat) (note : List UInt8) (hn : ∀ b ∈ note, b ≠ 10) : ∀ (ls : List (List UInt8)), linesF (drL k note ls) = ls.flatMap fun l => [drX k note (wordsOf l), []]
  | [] => linesF_nil
  | l :: t => by
    have e : drL k note (l :: t) = drX k note (wordsOf l) ++ 10 :: ([] ++ 10 :: drL k note t) := by simp [drL]
    rw [e, lines_app _ _ (drX_bytes k note hn _), lines_app [] _ (fun b hb => by cases hb), lines_dress k note hn t]
    rfl
theorem rdW_dress (k : Nat) (hk : 1 ≤ k) (note : List UInt8) : ∀ (ls : List (List UInt8)) (acc : List Rul), rdW acc ((ls.flatMap fun l => [drX k note (wordsOf l), []]).map wordsOf) = rdW acc (ls.map wordsOf)
  | [], acc => rfl
  | l :: t, acc => by
    have ih := rdW_dress k hk note t
    have e0 : wordsOf [] = [] := by rw [wordsOf, wordsF]
    rw [List.flatMap_cons, List.map_append, List.map_cons, List.map_cons, List.map_nil, wordsOf_dress k hk, e0, List.map_cons]
    cases hw : wordsOf l with
    | nil =>
      simp only [List.cons_append, List.nil_append]
      rw [rdW, rdW, rdW]; exact ih acc
    | cons w ws =>
      simp only [List.cons_append, List.nil_append]
      rw [rdW, rdW]
      cases readR (w :: ws) with
      | none => rfl
      | some x =>
        simp only
        split
        · rfl
        · rw [rdW]; exact ih _
theorem isP_nil : isP [] = true := by decide +kernel
theorem bare_ok {s : List UInt8} (h : (bareF s).2 = true) : isP (bareF s).1 = true := by
  rw [bareF] at h ⊢
  by_cases h1 : s = [47]
  · rw [if_pos h1]; exact isP_nil
  · rw [if_neg h1] at h ⊢
    simp only [Bool.and_eq_true] at h
    exact h.2
theorem readR_ok {ws : List (List UInt8)} {x : Rul} (h : readR ws = some x) : chkR x = 0 := by
  unfold readR at h
  split at h
  · split at h
    · rename_i h1
      obtain rfl := Option.some.inj h
      exact chk_zero _ _ _ (by decide) (bare_ok h1.2) isP_nil (.inr rfl)
    · split at h
      · rename_i h1
        obtain rfl := Option.some.inj h
        exact chk_zero _ _ _ (by decide) (bare_ok h1.2) isP_nil (.inr rfl)
      · cases h
  · split at h
    · rename_i h1
      obtain rfl := Option.some.inj h
      exact chk_zero _ _ _ (by decide) (bare_ok h1.2.1) (bare_ok h1.2.2) (.inl rfl)
    · cases h
  · cases h
theorem rdW_ok : ∀ (wss : List (List (List UInt8))) (acc out : List Rul), rdW acc wss = some out → (∀ x ∈ acc, chkR x = 0) → acc.length ≤ 64 → (∀ x ∈ out, chkR x = 0) ∧ out.length ≤ 64
  | [], acc, out, h, h1, h2 => by obtain rfl := Option.some.inj h; exact ⟨h1, h2⟩
  | [] :: t, acc, out, h, h1, h2 => rdW_ok t acc out h h1 h2
  | (w :: ws) :: t, acc, out, h, h1, h2 => by
    rw [rdW] at h
    cases hr : readR (w :: ws) with
    | none => rw [hr] at h; cases h
    | some x =>
      rw [hr] at h
      simp only at h
      split at h
      · cases h
      · rename_i h64
        refine rdW_ok t _ _ h (fun y hy => ?_) (by simp; omega)
        rcases List.mem_append.1 hy with hy | hy
        · exact h1 y hy
        · obtain rfl := List.mem_singleton.1 hy; exact readR_ok hr
/-- A text that is read: its lines' words, its rules; dressed, it says the same. -/
theorem read_dress {t : List UInt8} {l : List Rul} {q : Int} (h : readF t = (l, 0, q)) : q = 0 ∧ t.length ≤ 131072 ∧ (∀ x ∈ linesF t, wordsF 0 [] x = .inr (wordsOf x)) ∧ okR l = true ∧ l.length ≤ 64 ∧
    ∀ (k : Nat) (note : List UInt8), 1 ≤ k → (∀ b ∈ note, b ≠ 10) → (drL k note (linesF t)).length ≤ 131072 → readF (drL k note (linesF t)) = (l, 0, 0) := by
  rw [readF] at h
  split at h
  · cases h
  · rename_i hl
    obtain ⟨h1, h2, h3⟩ := readG_ok (linesF t) 0 [] (by rw [h])
    rw [h] at h2 h3
    simp only at h2 h3
    obtain ⟨h4, h5⟩ := rdW_ok _ _ _ h2 (fun x hx => by cases hx) (by simp)
    refine ⟨h3, by omega, h1, okR_iff.2 h4, h5, fun k note hk hn hd => ?_⟩
    rw [readF, if_neg (by omega), lines_dress k note hn]
    refine readG_of wordsOf _ 0 [] l (fun x hx => ?_) ?_
    · obtain ⟨y, -, hx⟩ := List.mem_flatMap.1 hx
      simp only [List.mem_cons, List.not_mem_nil, or_false] at hx
      rcases hx with rfl | rfl
      · rw [wordsOf_dress k hk, words_dress k hk]; rfl
      · rw [wordsOf, wordsF]
    · rw [rdW_dress k hk]; exact h2
/-! How long. -/
theorem drW_len (k : Nat) (hk : k ≤ 5) : ∀ (ws : List (List UInt8)), (∀ x ∈ ws, x.length ≤ 131072) → (drW k ws).length ≤ ws.length * 524295
  | [], _ => by simp [drW]
  | w :: t, h => by
    have ih := drW_len k hk t fun x hx => h x (.tail _ hx)
    have h1 := quoteF_le w
    have h2 := h w (.head _)
    simp only [drW, List.flatMap_cons, List.length_append, List.length_replicate, List.length_cons] at ih ⊢
    omega
theorem words_few {l : List UInt8} (h : l.length ≤ 131072) (hw : wordsF 0 [] l = .inr (wordsOf l)) : (wordsOf l).length ≤ 131072 ∧ ∀ x ∈ wordsOf l, x.length ≤ 131072 := by
  obtain ⟨h1, h2⟩ := words_size _ l (Nat.le_refl _) 0 [] _ hw
  simp only [List.length_nil] at h1
  refine ⟨by omega, fun x hx => ?_⟩
  rcases h2 x hx with h | h
  · cases h
  · omega
theorem drL_len (k : Nat) (hk : k ≤ 5) (note : List UInt8) (hn : note.length ≤ 1048576) : ∀ (ls : List (List UInt8)), (∀ l ∈ ls, l.length ≤ 131072 ∧ wordsF 0 [] l = .inr (wordsOf l)) → (drL k note ls).length ≤ ls.length * 68721606660
  | [], _ => by simp [drL]
  | l :: t, h => by
    have ih := drL_len k hk note hn t fun x hx => h x (.tail _ hx)
    obtain ⟨h1, h2⟩ := h l (.head _)
    obtain ⟨h3, h4⟩ := words_few h1 h2
    have h5 := drW_len k hk _ h4
    have h6 : (wordsOf l).length * 524295 ≤ 131072 * 524295 := Nat.mul_le_mul_right _ h3
    simp only [drL, drX, List.flatMap_cons, List.length_append, List.length_cons, List.length_nil] at ih ⊢
    omega
end Go.Proofs.YtcomcoolmabmgaaDoor

