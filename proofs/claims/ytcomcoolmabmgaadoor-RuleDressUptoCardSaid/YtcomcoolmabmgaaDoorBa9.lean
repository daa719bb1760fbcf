/-
  Rl4, Rl5, Rl6, Rl7: in one text.
-/
import Derived.Test.YtcomcoolmabmgaaDoorBa8
import Derived.Test.YtcomcoolmabmgaaDoorBa3
import Derived.Sort.QuietIn
import Derived.Test.YtcomcoolmabmgaaDoorBa4
import Derived.Test.YtcomcoolmabmgaaDoorBa6
namespace Go.Proofs.YtcomcoolmabmgaaDoor
set_option linter.unnecessarySimpa false
open Go.RowKit Go.Shelf
set_option linter.unusedVariables false
set_option linter.unusedSimpArgs false
set_option maxRecDepth 100000

attribute [local go_sem] Oper.semAt_some

theorem words_place : ∀ (n : Nat) (l : List UInt8), l.length ≤ n → ∀ (p : Nat) (acc : List (List UInt8)) (q : Nat), wordsF p acc l = .inl q → q ≤ p + l.length := by
  intro n
  induction n with
  | zero =>
    intro l hl p acc q h
    have : l = [] := List.eq_nil_of_length_eq_zero (by omega)
    subst this
    rw [words_nil] at h; cases h
  | succ n ih =>
    intro l hl p acc q h
    match l, h with
    | [], h => rw [words_nil] at h; cases h
    | c :: t, h =>
      simp only [List.length_cons] at hl ⊢
      rw [wordsF] at h
      split at h
      · cases h
      · split at h
        · have := ih t (by omega) _ _ _ h; omega
        · split at h
          · split at h
            · cases h; omega
            · rename_i k hk
              have hp := endL_pos _ t (Nat.le_refl _) k hk
              split at h
              · cases h; omega
              · split at h
                · cases h; omega
                · have := ih (t.drop k) (by rw [List.length_drop]; omega) _ _ _ h
                  rw [List.length_drop] at this; omega
          · split at h
            · have h9 := tw_len t
              have := ih (t.drop (t.takeWhile (· ≠ 32)).length) (by rw [List.length_drop]; omega) _ _ _ h
              rw [List.length_drop] at this; omega
            · cases h; omega
theorem words_size : ∀ (n : Nat) (l : List UInt8), l.length ≤ n → ∀ (p : Nat) (acc ws : List (List UInt8)), wordsF p acc l = .inr ws → ws.length ≤ acc.length + l.length ∧ ∀ x ∈ ws, x ∈ acc ∨ x.length ≤ l.length := by
  intro n
  induction n with
  | zero =>
    intro l hl p acc ws h
    have : l = [] := List.eq_nil_of_length_eq_zero (by omega)
    subst this
    rw [words_nil] at h; cases h
    exact ⟨by omega, fun x hx => .inl hx⟩
  | succ n ih =>
    intro l hl p acc ws h
    match l, h with
    | [], h => rw [words_nil] at h; cases h; exact ⟨by omega, fun x hx => .inl hx⟩
    | c :: t, h =>
      simp only [List.length_cons] at hl ⊢
      rw [wordsF] at h
      split at h
      · cases h; exact ⟨by omega, fun x hx => .inl hx⟩
      · split at h
        · obtain ⟨h1, h2⟩ := ih t (by omega) _ _ _ h
          exact ⟨by omega, fun x hx => (h2 x hx).imp id (fun h => by omega)⟩
        · split at h
          · split at h
            · cases h
            · rename_i k hk
              have hp := endL_pos _ t (Nat.le_refl _) k hk
              split at h
              · cases h
              · split at h
                · cases h
                · rename_i x0 hx0
                  obtain ⟨h1, h2⟩ := ih (t.drop k) (by rw [List.length_drop]; omega) _ _ _ h
                  have hx1 : x0.length ≤ (c :: t.take k).length := by
                    unfold unqF at hx0
                    split at hx0
                    · cases hx0
                    · rename_i y hy
                      split at hx0
                      · cases hx0; exact plainlyF_len hy
                      · cases hx0
                  rw [List.length_cons, List.length_take] at hx1
                  rw [List.length_drop] at h1 h2
                  rw [List.length_append, List.length_singleton] at h1
                  refine ⟨by omega, fun x hx => ?_⟩
                  rcases h2 x hx with h | h
                  · rcases List.mem_append.1 h with h | h
                    · exact .inl h
                    · obtain rfl := List.mem_singleton.1 h; exact .inr (by omega)
                  · exact .inr (by omega)
          · split at h
            · have h9 := tw_len t
              obtain ⟨h1, h2⟩ := ih (t.drop (t.takeWhile (· ≠ 32)).length) (by rw [List.length_drop]; omega) _ _ _ h
              rw [List.length_drop] at h1 h2
              rw [List.length_append, List.length_singleton] at h1
              refine ⟨by omega, fun x hx => ?_⟩
              rcases h2 x hx with h | h
              · rcases List.mem_append.1 h with h | h
                · exact .inl h
                · obtain rfl := List.mem_singleton.1 h; exact .inr (by rw [List.length_cons]; omega)
              · exact .inr (by omega)
            · cases h
theorem rlF.grown {w : World} {B2 B3 B4 B5 : Nat} {a : Nat} {A : Option Addr} {n c : Nat} {acc : List Rul} {W W8 : World} (h : rlF w B2 B3 B4 B5 a A n c acc W) (hg : W.grownBy W8 (Value.slice A n c).ownBlock) (hW : w.heap.size ≤ W.heap.size) : Boxed W8 B4 23 (.slice A n c) ∧ KeepsOthers W W8 ∧ Below w.heap.size W W8 :=
  ⟨h.2.2.1.kept hg (h.2.2.1.not_row (by decide) h.2.2.2.2.1), keeps_own h.2.2.2.2.1 hg, below_own h.2.2.2.2.1 hg hW⟩
theorem OwnR.chgS {S : Nat → Prop} {w w' : World} {base n : Nat} {v : Value} {l : List Rul} (h : OwnR w base v n l) (hc : Chg S w w') (hs : ∀ b, v.ownBlock = some b → ¬ S b) : OwnR w' base v n l := by
  obtain ⟨h1, h2⟩ := h
  refine ⟨h1, h2.imp id ?_⟩
  rintro ⟨g, cap, cur, rfl, hg, hh, r⟩
  exact ⟨g, cap, cur, rfl, hg, hc.heap hh (hs g rfl), r⟩
theorem map_lines (L : List (List UInt8)) : (idx 0 L).attach.map (fun y : { x : Nat × List UInt8 // x ∈ idx 0 L } => y.1.2) = L := by
  have e : ((idx 0 L).attach.map (fun y : { x : Nat × List UInt8 // x ∈ idx 0 L } => y.1)) = idx 0 L := List.attach_map_subtype_val _
  have := congrArg (List.map (·.2)) e
  rw [List.map_map, idx_snd] at this
  exact this
/-- What Read answers. -/
def ReadAllR (base : Nat) (W' : World) (e : Ending) (R : List Rul × Int × Int) : Prop := ∃ A n c, e = .returned (.tuple #[.slice A n c, .agg #[.int .i64 R.2.1, .int .i64 R.2.2]]) ∧ OwnR W' base (.slice A n c) n R.1
set_option maxHeartbeats 64000000 in
theorem readall_core (n₀ : Nat) (hn₀ : 3 ≤ n₀) (w : World) (s : ByteArray) (hs : s.size ≤ 9223372036854775807) :
    CallsIn Fence.wide n₀ Tryd.prog 9 #[.string s] w fun e W' => ReadAllR w.heap.size W' e (readF s.data.toList) ∧ Below w.heap.size w W' := by
  have h1 : 1 ≤ n₀ := by omega
  have HS := Lib.hid (size_list s)
  refine callsIn_of_wp_marks Tryd.func9 rfl trivial ?_ rfl
  simp only [Tryd.ntmps9, List.size_toArray, List.length_cons, List.length_nil, Nat.reduceAdd, Nat.reduceSub, Array.replicate_succ, Array.replicate_zero, List.push_toArray, List.append_toArray, List.nil_append, List.cons_append]
  by_cases hbig : 131072 < s.size
  · have hb : (131072 : Int) < (s.size : Int) := by omega
    have HR : Hid (readF s.data.toList = ([], 3, 0)) := by rw [Hid, readF, if_pos (by rw [HS.out]; exact hbig)]
    clear hbig
    gi_wp2
    refine ⟨.tuple #[.slice none 0 0, .agg #[.int .i64 3, .int .i64 0]], by simp [results, Tryd.f9, go_sem], ⟨none, 0, 0, by rw [HR.out], by rw [HR.out]; exact World.ownsRow_nil _ _ _ _⟩, ?_⟩
    exact ((Below.refl _ w).alloc (Nat.le_refl _) _).alloc (by simp) _
  · have hb : ¬ (131072 : Int) < (s.size : Int) := by omega
    have HR : Hid (readF s.data.toList = readG 0 [] (linesF s.data.toList)) := by rw [Hid, readF, if_neg (by rw [HS.out]; exact hbig)]
    have hcount : Hid ((linesF s.data.toList).length ≤ 131072) := by
      have := lines_count _ s.data.toList (Nat.le_refl _)
      rw [Hid]; rw [size_list] at this; omega
    have HLM : Hid (∀ x ∈ linesF s.data.toList, x.length ≤ 131072) := fun x hx => by
      have := (lines_mem _ s.data.toList (Nat.le_refl _) x hx).2
      rw [size_list] at this; omega
    have HLS : Hid (∀ (w' : World) (B : Nat), w'.cell? ⟨B, 0, none⟩ = some (.string s) → B < w'.heap.size → SeqStopsK Fence.wide (n₀ - 1) Tryd.prog 34 #[.pointer (some ⟨B, 0, none⟩)] (fun x : RN s.data.toList => lencs x.1) (Below w.heap.size) (fun xs => xs = (idx 0 (linesF s.data.toList)).attach) (fun pre => pre <+: (idx 0 (linesF s.data.toList)).attach) (idx 0 (linesF s.data.toList)).attach.length w') := fun w' B hb hB => lines_stops (fun x : RN s.data.toList => x.1) (idx 0 (linesF s.data.toList)).attach (n₀ - 1) (by omega) B s (by omega) (Below w.heap.size) w' hb hB (List.attach_map_subtype_val _)
    have HLC := Lib.hid fun W => lines_calls W s
    clear hbig
    gi_wp2_with (refine ⟨trivial, ?_⟩; gi_at_call 17; refine (callsIn_wide.2 (HLC.out _)).mono ?_; rintro e w2 ⟨rfl, rfl⟩)
    have F0 : rlF w w.heap.size (w.heap.size + 1) (w.heap.size + 1 + 1) (w.heap.size + 1 + 1 + 1) 0 none 0 0 [] (((((w.alloc (.cells #[.slice none 0 0] 23)).alloc (.cells #[.int .i64 0, .int .i64 0] 26)).alloc (.cells #[.slice none 0 0] 23)).alloc (.cells #[.int .i64 0] 3)).alloc (.cells #[.string s] 9)) := by
      have h3 := heap_alloc_new (w.alloc (.cells #[.slice none 0 0] 23)) (.cells #[.int .i64 0, .int .i64 0] 26)
      have h4 := Boxed.new ((w.alloc (.cells #[.slice none 0 0] 23)).alloc (.cells #[.int .i64 0, .int .i64 0] 26)) 23 (.slice none 0 0)
      have h5 := Boxed.new (((w.alloc (.cells #[.slice none 0 0] 23)).alloc (.cells #[.int .i64 0, .int .i64 0] 26)).alloc (.cells #[.slice none 0 0] 23)) 3 (.int .i64 0)
      simp only [World.size_alloc] at h3 h4 h5
      refine ⟨(((Boxed.new w _ _).alloc _).alloc _).alloc _ |>.alloc _, ?_, (h4.alloc _).alloc _, h5.alloc _, World.ownsRow_nil _ _ _ _, ?_⟩
      · exact (((Chg.refl No _).alloc _).alloc _ |>.alloc _).heap h3 (fun x => x)
      · exact (((((Below.refl _ w).alloc (Nat.le_refl _) _).alloc (by simp) _).alloc (by simp; omega) _).alloc (by simp; omega) _).alloc (by simp; omega) _
    have hbL : Boxed (((((w.alloc (.cells #[.slice none 0 0] 23)).alloc (.cells #[.int .i64 0, .int .i64 0] 26)).alloc (.cells #[.slice none 0 0] 23)).alloc (.cells #[.int .i64 0] 3)).alloc (.cells #[.string s] 9)) (w.heap.size + 1 + 1 + 1 + 1) 9 (.string s) := by
      have h := Boxed.new ((((w.alloc (.cells #[.slice none 0 0] 23)).alloc (.cells #[.int .i64 0, .int .i64 0] 26)).alloc (.cells #[.slice none 0 0] 23)).alloc (.cells #[.int .i64 0] 3)) 9 (.string s)
      simp only [World.size_alloc] at h
      exact h
    obtain ⟨B3, hB3⟩ : ∃ b, b = w.heap.size + 1 := ⟨_, rfl⟩
    obtain ⟨B4, hB4⟩ : ∃ b, b = w.heap.size + 1 + 1 := ⟨_, rfl⟩
    obtain ⟨B5, hB5⟩ : ∃ b, b = w.heap.size + 1 + 1 + 1 := ⟨_, rfl⟩
    obtain ⟨BL, hBL⟩ : ∃ b, b = w.heap.size + 1 + 1 + 1 + 1 := ⟨_, rfl⟩
    have hlw3 : w.heap.size ≤ B3 := by omega
    have hlw4 : w.heap.size ≤ B4 := by omega
    have hlw5 : w.heap.size ≤ B5 := by omega
    rw [← hBL] at hbL ⊢
    rw [← hB5, ← hB4, ← hB3] at F0 ⊢
    generalize (((((w.alloc (.cells #[.slice none 0 0] 23)).alloc (.cells #[.int .i64 0, .int .i64 0] 26)).alloc (.cells #[.slice none 0 0] 23)).alloc (.cells #[.int .i64 0] 3)).alloc (.cells #[.string s] 9)) = W0 at *
    have hW0 : w.heap.size ≤ W0.heap.size := F0.2.2.2.2.2.size
    have hB24 : w.heap.size ≠ B4 := by omega
    clear hB3 hB4 hB5 hBL
    refine wpIn_rangeFunc_ownF rfl h1 (gf := 34) (lb := #[.pointer (some ⟨BL, 0, none⟩)]) rfl trivial (enters_of Tryd.func34 (by kernel_rfl) rfl)
      (HLS.out W0 BL hbL.cell hbL.lt) belowK_t (belowK_b hW0) (Below.refl _ _) (fun _ => rfl)
      (fun pre W => ∃ a A n c acc, rlF w w.heap.size B3 B4 B5 a A n c acc W ∧ Hid (foldG 0 [] (pre.map (·.1.2)) = some (a, acc)) ∧ a ≤ 131073 * pre.length ∧ acc.length ≤ 64)
      (fun c' pre W => c' = .ret ∧ ∃ e q, Hid (∀ rest, readG 0 [] (pre.map (·.1.2) ++ rest) = ([], e, q)) ∧ Boxed W w.heap.size 23 (.slice none 0 0) ∧ W.heap[B3]? = some (.cells #[.int .i64 e, .int .i64 q] 26 (0, 0)) ∧ Below w.heap.size w W)
      ?own1 (fun c' => ?own2) ⟨0, none, 0, 0, [], F0, rfl, Nat.zero_le _, by simp⟩ ?frame ?assign ?body ?done ?stop
    case own1 =>
      rintro pre X Y row ⟨a, A, n, c, acc, hf, h2, h3, h4⟩ hg hr
      exact ⟨a, A, n, c, acc, rlF_own (β := Unit) hW0 () X Y row hf hg hr, h2, h3, h4⟩
    case own2 =>
      rintro pre X Y row ⟨hc, e, q, h2, h3, h4, h5⟩ hg hr
      exact ⟨hc, e, q, h2, boxed_kept h3 hg hr, cells_kept h4 hg (fun r e => (hr r e).2), h5.grown hg h5.size (fun k e => by have := (hr k e).1; omega)⟩
    case assign =>
      intro l x W K hK
      gi_wp2
      exact hK
    case body =>
      rintro l pre x W2 ⟨a, A, n, c, acc, F, HF, ha, hacc⟩ hlen
      have HX := Lib.hid (HLM.out x.1.2 (idx_mem _ _ _ x.2))
      have hpc : pre.length < 131072 := by
        rw [List.length_attach, idx_len] at hlen
        have := hcount.out; omega
      have HSN := Lib.hid (fold_snoc (pre.map (·.1.2)) x.1.2 0 [] a acc HF.out)
      have HRD : Hid (∀ rest, readG 0 [] (pre.map (·.1.2) ++ rest) = readG a acc rest) := fun rest => fold_read _ rest 0 [] a acc HF.out
      have HMP : Hid ((pre ++ [x]).map (fun y : RN s.data.toList => y.1.2) = pre.map (·.1.2) ++ [x.1.2]) := by rw [Hid, List.map_append]; rfl
      have hn := F.2.2.2.2.1.len
      have hn64 : n ≤ 64 := by omega
      obtain ⟨⟨kx, lx⟩, hxm⟩ := x
      simp only at HX HSN HMP
      generalize pre.map (fun y : RN s.data.toList => y.1.2) = pl at *
      have hll : lx.length ≤ 131072 := HX.out
      have HWC := Lib.hid (words_calls W2 (mkS lx) (by rw [mkS_size]; omega))
      rw [mkS_list] at HWC
      have hsz : (mkS lx).size = lx.length := mkS_size lx
      have HFG : Hid (foldG a acc [lx] = match wordsF 0 [] lx with | .inl _ => none | .inr [] => some (a + lx.length + 1, acc) | .inr (w :: ws) => match readR (w :: ws) with | none => none | some y => if acc.length = 64 then none else some (a + lx.length + 1, acc ++ [y])) := by
        rw [Hid, foldG]
        rfl
      have HRG : Hid (∀ rest, readG a acc (lx :: rest) = match wordsF 0 [] lx with | .inl p => ([], 150, (a : Int) + (p : Int)) | .inr [] => readG (a + lx.length + 1) acc rest | .inr (w :: ws) => match readR (w :: ws) with | none => ([], 230, (a : Int)) | some y => if acc.length = 64 then ([], 3, (a : Int)) else readG (a + lx.length + 1) (acc ++ [y]) rest) := fun rest => by rw [readG]; rfl
      have b4c := F.2.2.1.cell
      have b5c := F.2.2.2.1.cell
      have KS : ∀ {X Y : World}, Chg No X Y → KeepsOthers X Y := fun {X Y} h => ⟨h.size, fun k o ho _ => h.heap ho (fun x => x)⟩
      have F2w : w.heap.size ≤ W2.heap.size := F.2.2.2.2.2.size
      have HPBg := Lib.hid fun q (h : wordsF 0 [] lx = .inl q) => words_place _ lx (Nat.le_refl _) 0 [] q h
      have HWSg := Lib.hid fun ws (h : wordsF 0 [] lx = .inr ws) => words_size _ lx (Nat.le_refl _) 0 [] ws h
      generalize wordsF 0 [] lx = V at *
      rcases V with p | V
      · have hcase : ∀ rest, readG 0 [] ((pre ++ [(⟨(kx, lx), hxm⟩ : RN s.data.toList)]).map (fun y : RN s.data.toList => y.1.2) ++ rest) = ([], 150, (p : Int) + (a : Int)) := fun rest => by rw [HMP.out, List.append_assoc, HRD.out, List.singleton_append, HRG.out]; simp only [Int.add_comm]
        have HIX := Lib.hid hcase
        have HPB : Hid (p ≤ 131072) := by have := HPBg.out p rfl; rw [Hid]; omega
        clear hcase HRG HFG HSN
        gi_wp2_with (refine ⟨trivial, (fun h => by cases h), ?_⟩; gi_at_call 18; refine (CallsIn.inRound l (callsIn_wide.2 HWC.out)).mono ?_; rintro e w3 ⟨he, hc3⟩; have he : e = .returned (.tuple #[.slice none 0 0, .agg #[.int .i64 150, .int .i64 (p : Int)]]) := he; subst he; refine Hid.out ?_)
        refine Lib.hid ?_
        have F3 := F.no hc3
        have HK3 := KS hc3
        have hp1 := HPB.out
        clear F hc3 HWC
        have F3a : ∀ o, rlF w w.heap.size B3 B4 B5 a A n c acc (w3.alloc o) := fun o => F3.no ((Chg.refl No w3).alloc o)
        have c5a := fun o => (F3a o).2.2.2.1.cell
        gi_wp2
        obtain ⟨W4, hW4⟩ : ∃ W4, W4 = (w3.alloc (.cells #[.int .i64 150, .int .i64 ((p : Int) + (a : Int))] 26)).drew := ⟨_, rfl⟩
        have HC4 : Chg No w3 W4 := by rw [hW4]; exact ((Chg.refl No w3).alloc _).drew
        have F4 := F3.no HC4
        have HK4 : KeepsOthers W2 W4 := HK3.trans (KS HC4)
        have c5 := F4.2.2.2.1.cell
        have c2 := F4.1.cell
        have f2 := F4.1.frozen
        obtain ⟨c30, c31⟩ := heap2 F4.2.1
        have f3 := fun i => frzAt F4.2.1 i
        have hne1 := F3.1.lt
        have hne2 : B3 < w3.heap.size := (Array.getElem?_eq_some_iff.1 F3.2.1).1
        have hne3 : ¬ w.heap.size = w3.heap.size := by omega
        have hne4 : ¬ B3 = w3.heap.size := by omega
        have hne5 : ¬ w3.heap.size = w.heap.size := by omega
        have hne6 : ¬ w3.heap.size = B3 := by omega
        obtain ⟨n1, n2, n3, n4, n5⟩ := F4.ne
        have FE1 : Boxed (((W4.setCell ⟨w.heap.size, 0, none⟩ (.slice none 0 0)).setCell ⟨B3, 0, none⟩ (.int .i64 150)).setCell ⟨B3, 1, none⟩ (.int .i64 ((p : Int) + (a : Int)))) w.heap.size 23 (.slice none 0 0) := (Chg.put _ B3 1 _).heap ((Chg.put _ B3 0 _).heap (F4.1.set _) n1) n1
        have FE2 : (((W4.setCell ⟨w.heap.size, 0, none⟩ (.slice none 0 0)).setCell ⟨B3, 0, none⟩ (.int .i64 150)).setCell ⟨B3, 1, none⟩ (.int .i64 ((p : Int) + (a : Int)))).heap[B3]? = some (.cells #[.int .i64 150, .int .i64 ((p : Int) + (a : Int))] 26 (0, 0)) := heap_set (heap_set ((Chg.put W4 w.heap.size 0 _).heap F4.2.1 (fun h => n1 h.symm)) 0 _) 1 _
        have FE3 : Below w.heap.size w (((W4.setCell ⟨w.heap.size, 0, none⟩ (.slice none 0 0)).setCell ⟨B3, 0, none⟩ (.int .i64 150)).setCell ⟨B3, 1, none⟩ (.int .i64 ((p : Int) + (a : Int)))) := ((F4.2.2.2.2.2.setCell (p := ⟨w.heap.size, 0, none⟩) (Nat.le_refl _) _).setCell (p := ⟨B3, 0, none⟩) hlw3 _).setCell (p := ⟨B3, 1, none⟩) hlw3 _
        have hsp : W4.heap[w3.heap.size]? = some (.cells #[.int .i64 150, .int .i64 ((p : Int) + (a : Int))] 26) := by rw [hW4]; exact heap_alloc_new w3 _
        obtain ⟨u0, u1⟩ := heap2 hsp
        refine wpIn_region_any (by kernel_rfl) ?_
        rw [show ∀ W : World, ({ W with drawn := W.drawn + 1 } : World) = W.drew from fun _ => rfl, ← hW4]
        clear c5a F3a hW4
        refine wpAnyIn_ready (rs := [0, 1]) (by kernel_rfl) (by simp) ?_
        refine AllReadyIn.cons rfl (fun K hK => ?_) (AllReadyIn.cons rfl (fun K hK => ?_) AllReadyIn.nil)
        · rw [if_pos (by rfl)]
          gi_wp2
          try (refine hK _ _ ?_; clear hK K)
          refine wpAnyIn_ready (rs := [1]) (by kernel_rfl) (by simp) ?_
          refine AllReadyIn.cons rfl (fun K hK => ?_) AllReadyIn.nil
          · rw [if_pos (by rfl)]
            gi_wp2
            try (refine hK _ _ ?_; clear hK K)
            refine wpAnyIn_ready (rs := [2]) (by kernel_rfl) (by simp) ?_
            refine AllReadyIn.cons rfl (fun K hK => ?_) AllReadyIn.nil
            · rw [if_pos (by rfl)]
              gi_wp2
              try (refine hK _ _ ?_; clear hK K)
              refine wpAnyIn_done (by kernel_rfl) ?_ _
              gi_wp2
              exact ⟨HK4.trans ((KeepsOthers.setCell _ _ _).trans ((KeepsOthers.setCell _ _ _).trans (KeepsOthers.setCell _ _ _))), rfl, _, _, HIX.out, FE1, FE2, FE3⟩
        · rw [if_pos (by rfl)]
          gi_wp2
          try (refine hK _ _ ?_; clear hK K)
          refine wpAnyIn_ready (rs := [0]) (by kernel_rfl) (by simp) ?_
          refine AllReadyIn.cons rfl (fun K hK => ?_) AllReadyIn.nil
          · rw [if_pos (by rfl)]
            gi_wp2
            try (refine hK _ _ ?_; clear hK K)
            refine wpAnyIn_ready (rs := [2]) (by kernel_rfl) (by simp) ?_
            refine AllReadyIn.cons rfl (fun K hK => ?_) AllReadyIn.nil
            · rw [if_pos (by rfl)]
              gi_wp2
              try (refine hK _ _ ?_; clear hK K)
              refine wpAnyIn_done (by kernel_rfl) ?_ _
              gi_wp2
              exact ⟨HK4.trans ((KeepsOthers.setCell _ _ _).trans ((KeepsOthers.setCell _ _ _).trans (KeepsOthers.setCell _ _ _))), rfl, _, _, HIX.out, FE1, FE2, FE3⟩
      · match V, HFG, HRG, HWC, HWSg with
        | [], HFG, HRG, HWC, HWSg =>
          clear HRG HRD HWSg HPBg
          gi_wp2_with (refine ⟨trivial, (fun h => by cases h), ?_⟩; gi_at_call 18; refine (CallsIn.inRound l (callsIn_wide.2 HWC.out)).mono ?_; rintro e w3 ⟨he, hc3⟩; obtain ⟨A1, m1, c1, he, hm1, ho1⟩ : WordsR _ _ _ (.inr []) := he; subst he; subst hm1; refine Hid.out ?_)
          refine Lib.hid ?_
          have F3 := F.no hc3
          have HK3 := KS hc3
          have HB3 : Below w.heap.size W2 w3 := (Chg.below hc3).mono F2w
          clear F hc3 HWC ho1
          have F3a : ∀ o, rlF w w.heap.size B3 B4 B5 a A n c acc (w3.alloc o) := fun o => F3.no ((Chg.refl No w3).alloc o)
          have c5a := fun o => (F3a o).2.2.2.1.cell
          have f5a := fun o => (F3a o).2.2.2.1.frozen
          have hne1 := F3.2.2.2.1.lt
          have hne2 : ¬ B5 = w3.heap.size := by omega
          have hne3 : ¬ w3.heap.size = B5 := by omega
          gi_wp2
          have ea : ((a : Int) + ((lx.length : Int) + 1)) = ((a + lx.length + 1 : Nat) : Int) := by omega
          rw [ea]
          have F5 := (F3.step (a' := a + lx.length + 1) hlw5).no ((Chg.refl No _).alloc (.cells #[.int .i64 0, .int .i64 0] 26))
          have hz3 := HK3.size
          refine ⟨HK3.trans ((KeepsOthers.setCell _ _ _).trans (KeepsOthers.alloc _ _)), (HB3.setCell (p := ⟨B5, 0, none⟩) hlw5 _).alloc (by rw [World.size_setCell]; omega) _, a + lx.length + 1, A, n, c, acc, F5, by rw [Hid, HMP.out, HSN.out, HFG.out], ?_, hacc⟩
          simp only [List.length_append, List.length_singleton]; omega
        | y :: ws, HFG, HRG, HWC, HWSg =>
          have HSZ := Lib.hid (HWSg.out _ rfl)
          clear HPBg HWSg
          gi_wp2_with (refine ⟨trivial, (fun h => by cases h), ?_⟩; gi_at_call 18; refine (CallsIn.inRound l (callsIn_wide.2 HWC.out)).mono ?_; rintro e w3 ⟨he, hc3⟩; obtain ⟨A1, m1, c1, he, hm1, ho1⟩ : WordsR _ _ _ (.inr (y :: ws)) := he; subst he; refine Hid.out ?_)
          refine Lib.hid ?_
          have F3 := F.no hc3
          have HK3 := KS hc3
          have HB3 : Below w.heap.size W2 w3 := (Chg.below hc3).mono F2w
          have hz3 := HK3.size
          clear F hc3 HWC
          have hm0 : (0 : Int) < (m1 : Int) := by rw [← hm1, List.length_cons]; omega
          have hm2 : m1 ≤ 131072 := by have := HSZ.out.1; rw [hm1] at this; simp only [List.length_nil] at this; omega
          have HSL : Sl strv w3 (.slice A1 m1 c1) (y :: ws) := by rw [Sl, hm1]; exact Holds.ofOwn ho1
          have HRC := Lib.hid (read_calls (w3.alloc (.cells #[.int .i64 0, .int .i64 0] 26)) A1 m1 c1 (y :: ws) (HSL.no ((Chg.refl No w3).alloc _)) (by omega) (by omega) (fun x hx => by have := HSZ.out.2 x hx; rcases this with h | h; cases h; omega))
          clear HSL ho1 hm1
          match hRR : readR (y :: ws) with
          | none =>
            have HIX : Hid (∀ rest, readG 0 [] ((pre ++ [(⟨(kx, lx), hxm⟩ : RN s.data.toList)]).map (fun y : RN s.data.toList => y.1.2) ++ rest) = ([], 230, (a : Int))) := fun rest => by rw [HMP.out, List.append_assoc, HRD.out, List.singleton_append, HRG.out]; simp only [hRR]
            have HRR := Lib.hid hRR
            clear hRR HRG HFG HSN
            gi_wp2_with (refine ⟨trivial, (fun h => by cases h), ?_⟩; gi_at_call 23; refine (CallsIn.inRound l (callsIn_wide.2 HRC.out)).mono ?_; rintro e w5 ⟨⟨x, ok, he, hr⟩, hc5⟩; obtain rfl : ok = false := (by rw [HRR.out] at hr; cases ok; rfl; cases hr); have he : e = .returned (.tuple #[.agg #[.int .i64 x.1, .string (mkS x.2.1), .string (mkS x.2.2)], .bool false]) := he; subst he; refine Hid.out ?_)
            refine Lib.hid ?_
            have F5 := (F3.no ((Chg.refl No w3).alloc (.cells #[.int .i64 0, .int .i64 0] 26))).no hc5
            have FP := F5.no ((Chg.refl No w5).alloc (.cells #[.int .i64 x.1, .string (mkS x.2.1), .string (mkS x.2.2)] 32))
            have HKP : KeepsOthers W2 (w5.alloc (.cells #[.int .i64 x.1, .string (mkS x.2.1), .string (mkS x.2.2)] 32)) := HK3.trans ((KS ((Chg.refl No w3).alloc (.cells #[.int .i64 0, .int .i64 0] 26))).trans ((KS hc5).trans (KS ((Chg.refl No w5).alloc (.cells #[.int .i64 x.1, .string (mkS x.2.1), .string (mkS x.2.2)] 32)))))
            clear F3 HK3 hc5 F5 HRC
            gi_wp2
            obtain ⟨W4, hW4⟩ : ∃ W4, W4 = (w5.alloc (.cells #[.int .i64 x.1, .string (mkS x.2.1), .string (mkS x.2.2)] 32)).drew := ⟨_, rfl⟩
            have F4 : rlF w w.heap.size B3 B4 B5 a A n c acc W4 := by rw [hW4]; exact FP.no (Chg.refl No _).drew
            have HK4 : KeepsOthers W2 W4 := by rw [hW4]; exact HKP.trans (KS (Chg.refl No _).drew)
            have c5 := F4.2.2.2.1.cell
            have c2 := F4.1.cell
            have f2 := F4.1.frozen
            obtain ⟨c30, c31⟩ := heap2 F4.2.1
            have f3 := fun i => frzAt F4.2.1 i
            obtain ⟨n1, n2, n3, n4, n5⟩ := F4.ne
            have m2 : ¬ w.heap.size = B5 := n2
            have m3 : ¬ B5 = w.heap.size := fun h => n2 h.symm
            have m4 : ¬ w.heap.size = B3 := n1
            have m5 : ¬ B3 = w.heap.size := fun h => n1 h.symm
            have FE1 : Boxed (((W4.setCell ⟨w.heap.size, 0, none⟩ (.slice none 0 0)).setCell ⟨B3, 0, none⟩ (.int .i64 230)).setCell ⟨B3, 1, none⟩ (.int .i64 (a : Int))) w.heap.size 23 (.slice none 0 0) := (Chg.put _ B3 1 _).heap ((Chg.put _ B3 0 _).heap (F4.1.set _) n1) n1
            have FE2 : (((W4.setCell ⟨w.heap.size, 0, none⟩ (.slice none 0 0)).setCell ⟨B3, 0, none⟩ (.int .i64 230)).setCell ⟨B3, 1, none⟩ (.int .i64 (a : Int))).heap[B3]? = some (.cells #[.int .i64 230, .int .i64 (a : Int)] 26 (0, 0)) := heap_set (heap_set ((Chg.put W4 w.heap.size 0 _).heap F4.2.1 (fun h => n1 h.symm)) 0 _) 1 _
            have FE3 : Below w.heap.size w (((W4.setCell ⟨w.heap.size, 0, none⟩ (.slice none 0 0)).setCell ⟨B3, 0, none⟩ (.int .i64 230)).setCell ⟨B3, 1, none⟩ (.int .i64 (a : Int))) := ((F4.2.2.2.2.2.setCell (p := ⟨w.heap.size, 0, none⟩) (Nat.le_refl _) _).setCell (p := ⟨B3, 0, none⟩) hlw3 _).setCell (p := ⟨B3, 1, none⟩) hlw3 _
            refine wpIn_region_any (by kernel_rfl) ?_
            rw [show ∀ W : World, ({ W with drawn := W.drawn + 1 } : World) = W.drew from fun _ => rfl, ← hW4]
            clear hW4
            refine wpAnyIn_ready (rs := [0, 2]) (by kernel_rfl) (by simp) ?_
            refine AllReadyIn.cons rfl (fun K hK => ?_) (AllReadyIn.cons rfl (fun K hK => ?_) AllReadyIn.nil)
            · rw [if_pos (by rfl)]
              gi_wp2
              try (refine hK _ _ ?_; clear hK K)
              refine wpAnyIn_ready (rs := [1, 2]) (by kernel_rfl) (by simp) ?_
              refine AllReadyIn.cons rfl (fun K hK => ?_) (AllReadyIn.cons rfl (fun K hK => ?_) AllReadyIn.nil)
              · rw [if_pos (by rfl)]
                gi_wp2
                try (refine hK _ _ ?_; clear hK K)
                refine wpAnyIn_ready (rs := [2]) (by kernel_rfl) (by simp) ?_
                refine AllReadyIn.cons rfl (fun K hK => ?_) AllReadyIn.nil
                · rw [if_pos (by rfl)]
                  gi_wp2
                  try (refine hK _ _ ?_; clear hK K)
                  refine wpAnyIn_ready (rs := [3]) (by kernel_rfl) (by simp) ?_
                  refine AllReadyIn.cons rfl (fun K hK => ?_) AllReadyIn.nil
                  · rw [if_pos (by rfl)]
                    gi_wp2
                    try (refine hK _ _ ?_; clear hK K)
                    refine wpAnyIn_done (by kernel_rfl) ?_ _
                    gi_wp2
                    exact ⟨HK4.trans ((KeepsOthers.setCell _ _ _).trans ((KeepsOthers.setCell _ _ _).trans (KeepsOthers.setCell _ _ _))), rfl, _, _, HIX.out, FE1, FE2, FE3⟩
              · rw [if_pos (by rfl)]
                gi_wp2
                try (refine hK _ _ ?_; clear hK K)
                refine wpAnyIn_ready (rs := [1]) (by kernel_rfl) (by simp) ?_
                refine AllReadyIn.cons rfl (fun K hK => ?_) AllReadyIn.nil
                · rw [if_pos (by rfl)]
                  gi_wp2
                  try (refine hK _ _ ?_; clear hK K)
                  refine wpAnyIn_ready (rs := [3]) (by kernel_rfl) (by simp) ?_
                  refine AllReadyIn.cons rfl (fun K hK => ?_) AllReadyIn.nil
                  · rw [if_pos (by rfl)]
                    gi_wp2
                    try (refine hK _ _ ?_; clear hK K)
                    refine wpAnyIn_done (by kernel_rfl) ?_ _
                    gi_wp2
                    exact ⟨HK4.trans ((KeepsOthers.setCell _ _ _).trans ((KeepsOthers.setCell _ _ _).trans (KeepsOthers.setCell _ _ _))), rfl, _, _, HIX.out, FE1, FE2, FE3⟩
            · rw [if_pos (by rfl)]
              gi_wp2
              try (refine hK _ _ ?_; clear hK K)
              refine wpAnyIn_ready (rs := [0]) (by kernel_rfl) (by simp) ?_
              refine AllReadyIn.cons rfl (fun K hK => ?_) AllReadyIn.nil
              · rw [if_pos (by rfl)]
                gi_wp2
                try (refine hK _ _ ?_; clear hK K)
                refine wpAnyIn_ready (rs := [1]) (by kernel_rfl) (by simp) ?_
                refine AllReadyIn.cons rfl (fun K hK => ?_) AllReadyIn.nil
                · rw [if_pos (by rfl)]
                  gi_wp2
                  try (refine hK _ _ ?_; clear hK K)
                  refine wpAnyIn_ready (rs := [3]) (by kernel_rfl) (by simp) ?_
                  refine AllReadyIn.cons rfl (fun K hK => ?_) AllReadyIn.nil
                  · rw [if_pos (by rfl)]
                    gi_wp2
                    try (refine hK _ _ ?_; clear hK K)
                    refine wpAnyIn_done (by kernel_rfl) ?_ _
                    gi_wp2
                    exact ⟨HK4.trans ((KeepsOthers.setCell _ _ _).trans ((KeepsOthers.setCell _ _ _).trans (KeepsOthers.setCell _ _ _))), rfl, _, _, HIX.out, FE1, FE2, FE3⟩
          | some x0 =>
            by_cases h64 : acc.length = 64
            · have HIX : Hid (∀ rest, readG 0 [] ((pre ++ [(⟨(kx, lx), hxm⟩ : RN s.data.toList)]).map (fun y : RN s.data.toList => y.1.2) ++ rest) = ([], 3, (a : Int))) := fun rest => by rw [HMP.out, List.append_assoc, HRD.out, List.singleton_append, HRG.out]; simp only [hRR]; rw [if_pos h64]
              have HRR := Lib.hid hRR
              have hq64 : ((n : Int) == 64) = true := by rw [beq_iff_eq]; omega
              clear hRR HRG HFG HSN h64
              gi_wp2_with (refine ⟨trivial, (fun h => by cases h), ?_⟩; gi_at_call 23; refine (CallsIn.inRound l (callsIn_wide.2 HRC.out)).mono ?_; rintro e w5 ⟨⟨x, ok, he, hr⟩, hc5⟩; obtain rfl : ok = true := (by rw [HRR.out] at hr; cases ok; cases hr; rfl); have he : e = .returned (.tuple #[.agg #[.int .i64 x.1, .string (mkS x.2.1), .string (mkS x.2.2)], .bool true]) := he; subst he; refine Hid.out ?_)
              refine Lib.hid ?_
              have F5 := (F3.no ((Chg.refl No w3).alloc (.cells #[.int .i64 0, .int .i64 0] 26))).no hc5
              have FP := F5.no ((Chg.refl No w5).alloc (.cells #[.int .i64 x.1, .string (mkS x.2.1), .string (mkS x.2.2)] 32))
              have HKP : KeepsOthers W2 (w5.alloc (.cells #[.int .i64 x.1, .string (mkS x.2.1), .string (mkS x.2.2)] 32)) := HK3.trans ((KS ((Chg.refl No w3).alloc (.cells #[.int .i64 0, .int .i64 0] 26))).trans ((KS hc5).trans (KS ((Chg.refl No w5).alloc (.cells #[.int .i64 x.1, .string (mkS x.2.1), .string (mkS x.2.2)] 32)))))
              have c4 := FP.2.2.1.cell
              clear F3 HK3 hc5 F5 HRC
              gi_wp2
              obtain ⟨W4, hW4⟩ : ∃ W4, W4 = (w5.alloc (.cells #[.int .i64 x.1, .string (mkS x.2.1), .string (mkS x.2.2)] 32)).drew := ⟨_, rfl⟩
              have F4 : rlF w w.heap.size B3 B4 B5 a A n c acc W4 := by rw [hW4]; exact FP.no (Chg.refl No _).drew
              have HK4 : KeepsOthers W2 W4 := by rw [hW4]; exact HKP.trans (KS (Chg.refl No _).drew)
              have c5 := F4.2.2.2.1.cell
              have c2 := F4.1.cell
              have f2 := F4.1.frozen
              obtain ⟨c30, c31⟩ := heap2 F4.2.1
              have f3 := fun i => frzAt F4.2.1 i
              obtain ⟨n1, n2, n3, n4, n5⟩ := F4.ne
              have m2 : ¬ w.heap.size = B5 := n2
              have m3 : ¬ B5 = w.heap.size := fun h => n2 h.symm
              have m4 : ¬ w.heap.size = B3 := n1
              have m5 : ¬ B3 = w.heap.size := fun h => n1 h.symm
              have FE1 : Boxed (((W4.setCell ⟨w.heap.size, 0, none⟩ (.slice none 0 0)).setCell ⟨B3, 0, none⟩ (.int .i64 3)).setCell ⟨B3, 1, none⟩ (.int .i64 (a : Int))) w.heap.size 23 (.slice none 0 0) := (Chg.put _ B3 1 _).heap ((Chg.put _ B3 0 _).heap (F4.1.set _) n1) n1
              have FE2 : (((W4.setCell ⟨w.heap.size, 0, none⟩ (.slice none 0 0)).setCell ⟨B3, 0, none⟩ (.int .i64 3)).setCell ⟨B3, 1, none⟩ (.int .i64 (a : Int))).heap[B3]? = some (.cells #[.int .i64 3, .int .i64 (a : Int)] 26 (0, 0)) := heap_set (heap_set ((Chg.put W4 w.heap.size 0 _).heap F4.2.1 (fun h => n1 h.symm)) 0 _) 1 _
              have FE3 : Below w.heap.size w (((W4.setCell ⟨w.heap.size, 0, none⟩ (.slice none 0 0)).setCell ⟨B3, 0, none⟩ (.int .i64 3)).setCell ⟨B3, 1, none⟩ (.int .i64 (a : Int))) := ((F4.2.2.2.2.2.setCell (p := ⟨w.heap.size, 0, none⟩) (Nat.le_refl _) _).setCell (p := ⟨B3, 0, none⟩) hlw3 _).setCell (p := ⟨B3, 1, none⟩) hlw3 _
              refine wpIn_region_any (by kernel_rfl) ?_
              rw [show ∀ W : World, ({ W with drawn := W.drawn + 1 } : World) = W.drew from fun _ => rfl, ← hW4]
              clear hW4
              refine wpAnyIn_ready (rs := [0, 2]) (by kernel_rfl) (by simp) ?_
              refine AllReadyIn.cons rfl (fun K hK => ?_) (AllReadyIn.cons rfl (fun K hK => ?_) AllReadyIn.nil)
              · rw [if_pos (by rfl)]
                gi_wp2
                try (refine hK _ _ ?_; clear hK K)
                refine wpAnyIn_ready (rs := [1, 2]) (by kernel_rfl) (by simp) ?_
                refine AllReadyIn.cons rfl (fun K hK => ?_) (AllReadyIn.cons rfl (fun K hK => ?_) AllReadyIn.nil)
                · rw [if_pos (by rfl)]
                  gi_wp2
                  try (refine hK _ _ ?_; clear hK K)
                  refine wpAnyIn_ready (rs := [2]) (by kernel_rfl) (by simp) ?_
                  refine AllReadyIn.cons rfl (fun K hK => ?_) AllReadyIn.nil
                  · rw [if_pos (by rfl)]
                    gi_wp2
                    try (refine hK _ _ ?_; clear hK K)
                    refine wpAnyIn_ready (rs := [3]) (by kernel_rfl) (by simp) ?_
                    refine AllReadyIn.cons rfl (fun K hK => ?_) AllReadyIn.nil
                    · rw [if_pos (by rfl)]
                      gi_wp2
                      try (refine hK _ _ ?_; clear hK K)
                      refine wpAnyIn_done (by kernel_rfl) ?_ _
                      gi_wp2
                      exact ⟨HK4.trans ((KeepsOthers.setCell _ _ _).trans ((KeepsOthers.setCell _ _ _).trans (KeepsOthers.setCell _ _ _))), rfl, _, _, HIX.out, FE1, FE2, FE3⟩
                · rw [if_pos (by rfl)]
                  gi_wp2
                  try (refine hK _ _ ?_; clear hK K)
                  refine wpAnyIn_ready (rs := [1]) (by kernel_rfl) (by simp) ?_
                  refine AllReadyIn.cons rfl (fun K hK => ?_) AllReadyIn.nil
                  · rw [if_pos (by rfl)]
                    gi_wp2
                    try (refine hK _ _ ?_; clear hK K)
                    refine wpAnyIn_ready (rs := [3]) (by kernel_rfl) (by simp) ?_
                    refine AllReadyIn.cons rfl (fun K hK => ?_) AllReadyIn.nil
                    · rw [if_pos (by rfl)]
                      gi_wp2
                      try (refine hK _ _ ?_; clear hK K)
                      refine wpAnyIn_done (by kernel_rfl) ?_ _
                      gi_wp2
                      exact ⟨HK4.trans ((KeepsOthers.setCell _ _ _).trans ((KeepsOthers.setCell _ _ _).trans (KeepsOthers.setCell _ _ _))), rfl, _, _, HIX.out, FE1, FE2, FE3⟩
              · rw [if_pos (by rfl)]
                gi_wp2
                try (refine hK _ _ ?_; clear hK K)
                refine wpAnyIn_ready (rs := [0]) (by kernel_rfl) (by simp) ?_
                refine AllReadyIn.cons rfl (fun K hK => ?_) AllReadyIn.nil
                · rw [if_pos (by rfl)]
                  gi_wp2
                  try (refine hK _ _ ?_; clear hK K)
                  refine wpAnyIn_ready (rs := [1]) (by kernel_rfl) (by simp) ?_
                  refine AllReadyIn.cons rfl (fun K hK => ?_) AllReadyIn.nil
                  · rw [if_pos (by rfl)]
                    gi_wp2
                    try (refine hK _ _ ?_; clear hK K)
                    refine wpAnyIn_ready (rs := [3]) (by kernel_rfl) (by simp) ?_
                    refine AllReadyIn.cons rfl (fun K hK => ?_) AllReadyIn.nil
                    · rw [if_pos (by rfl)]
                      gi_wp2
                      try (refine hK _ _ ?_; clear hK K)
                      refine wpAnyIn_done (by kernel_rfl) ?_ _
                      gi_wp2
                      exact ⟨HK4.trans ((KeepsOthers.setCell _ _ _).trans ((KeepsOthers.setCell _ _ _).trans (KeepsOthers.setCell _ _ _))), rfl, _, _, HIX.out, FE1, FE2, FE3⟩
            · have HFX : Hid (foldG a acc [lx] = some (a + lx.length + 1, acc ++ [x0])) := by rw [Hid, HFG.out]; simp only [hRR]; rw [if_neg h64]
              have HRR := Lib.hid hRR
              have hq64 : ((n : Int) == 64) = false := by rw [beq_eq_false_iff_ne]; omega
              clear hRR HRG HFG
              gi_wp2_with (first
                | (refine ⟨trivial, (fun h => by cases h), ?_⟩; gi_at_call 23; refine (CallsIn.inRound l (callsIn_wide.2 HRC.out)).mono ?_; rintro e w5 ⟨⟨x, ok, he, hr⟩, hc5⟩; obtain rfl : ok = true := (by rw [HRR.out] at hr; cases ok; cases hr; rfl); obtain rfl : x0 = x := (by rw [HRR.out] at hr; exact Option.some.inj hr); have he : e = .returned (.tuple #[.agg #[.int .i64 x0.1, .string (mkS x0.2.1), .string (mkS x0.2.2)], .bool true]) := he; subst he; refine Hid.out ?_))
              refine Lib.hid ?_
              have F5 := (F3.no ((Chg.refl No w3).alloc (.cells #[.int .i64 0, .int .i64 0] 26))).no hc5
              have FP := F5.no ((Chg.refl No w5).alloc (.cells #[.int .i64 x0.1, .string (mkS x0.2.1), .string (mkS x0.2.2)] 32))
              have HKP : KeepsOthers W2 (w5.alloc (.cells #[.int .i64 x0.1, .string (mkS x0.2.1), .string (mkS x0.2.2)] 32)) := HK3.trans ((KS ((Chg.refl No w3).alloc (.cells #[.int .i64 0, .int .i64 0] 26))).trans ((KS hc5).trans (KS ((Chg.refl No w5).alloc (.cells #[.int .i64 x0.1, .string (mkS x0.2.1), .string (mkS x0.2.2)] 32)))))
              have HB5 : Below w.heap.size W2 (w5.alloc (.cells #[.int .i64 x0.1, .string (mkS x0.2.1), .string (mkS x0.2.2)] 32)) := ((HB3.alloc (by omega) (.cells #[.int .i64 0, .int .i64 0] 26)).trans ((Chg.below hc5).mono (by rw [World.size_alloc]; omega))).alloc (by have := hc5.size; rw [World.size_alloc] at this; omega) _
              have hz5 := HKP.size
              rw [World.size_alloc] at hz5
              have c4 := FP.2.2.1.cell
              have hn63 : n ≤ 63 := by have := beq_eq_false_iff_ne.1 hq64; omega
              have FQ : ∀ o, rlF w w.heap.size B3 B4 B5 a A n c acc ((w5.alloc (.cells #[.int .i64 x0.1, .string (mkS x0.2.1), .string (mkS x0.2.2)] 32)).alloc o) := fun o => FP.no ((Chg.refl No _).alloc o)
              have HN : ∀ o, ((w5.alloc (.cells #[.int .i64 x0.1, .string (mkS x0.2.1), .string (mkS x0.2.2)] 32)).alloc o).heap[w5.heap.size + 1]? = some o := fun o => by have := heap_alloc_new (w5.alloc (.cells #[.int .i64 x0.1, .string (mkS x0.2.1), .string (mkS x0.2.2)] 32)) o; rwa [World.size_alloc] at this
              clear F3 HK3 hc5 F5 HRC
              gi_wp2_with (gi_at_builtin; refine wpListIn_app rfl (.tmp 53) (.tmp 55) 23 23 rfl w.heap.size 32 (.agg #[.int .i64 0, .string ⟨#[]⟩, .string ⟨#[]⟩]) 3 40 infoR Tryd.underlying23 rfl (by decide) (.slice A n c) (.slice (some ⟨w5.heap.size + 1, 0, none⟩) 1 1) n 1 (acc.flatMap encR) (encR x0) rfl rfl (FQ _).2.2.2.2.1 (Src.rule Tryd.underlying23 x0 (HN _)) ?b1 ?b2 ?b3 ?_; (case b1 => omega); (case b2 => unfold maxLen; omega); (case b3 => simp only [World.size_alloc]; omega); intro v8 w8 hown8 hg8; obtain ⟨A8, c8, rfl⟩ := own_form hown8; refine Hid.out ?_)
              have ho8 : OwnR w8 w.heap.size (.slice A8 (n + 1) c8) (n + 1) (acc ++ [x0]) := by rw [OwnR, List.flatMap_append]; simpa [List.flatMap_cons] using hown8
              have F8 := (FQ _).app hlw4 hB24 ho8 hg8
              have F9 := F8.step (a' := a + lx.length + 1) hlw5
              obtain ⟨b4, k8, l8⟩ := (FQ _).grown hg8 (by simp only [World.size_alloc]; omega)
              have c48 := b4.cell
              have f48 := b4.frozen
              have c58 := F8.2.2.2.1.cell
              have f58 := F8.2.2.2.1.frozen
              have HK8 := HKP.trans ((KS ((Chg.refl No _).alloc _)).trans k8)
              have HB8 := (HB5.alloc (by simp only [World.size_alloc]; omega) _).trans l8
              refine Lib.hid ?_
              obtain ⟨n1, n2, n3, n4, n5⟩ := FP.ne
              have m6 : ¬ B4 = B5 := n5
              have m7 : ¬ B5 = B4 := fun h => n5 h.symm
              clear hown8 hg8 FQ HN FP F8
              gi_wp2
              have ea : ((a : Int) + ((lx.length : Int) + 1)) = ((a + lx.length + 1 : Nat) : Int) := by omega
              rw [ea]
              refine ⟨HK8.trans ((KeepsOthers.setCell _ _ _).trans (KeepsOthers.setCell _ _ _)), (HB8.setCell (p := ⟨B4, 0, none⟩) hlw4 _).setCell (p := ⟨B5, 0, none⟩) hlw5 _, a + lx.length + 1, A8, n + 1, c8, acc ++ [x0], F9, by rw [Hid, HMP.out, HSN.out, HFX.out], ?_, ?_⟩
              · simp only [List.length_append, List.length_singleton]; omega
              · simp only [List.length_append, List.length_singleton]; omega
    case stop =>
      rintro D c' pre W hD hpre ⟨rfl, e, q, HQ, F2, F3, F4⟩ hK
      have hk9 : ∀ r, some D = some r → ∃ o : Obj, W.heap[r]? = some o ∧ o.isCells = false := fun r e => by cases e; exact ⟨_, hK, rfl⟩
      have hg9 := grownBy_putObj' W D (.deferred none)
      have c2 := cell_kept F2.cell hg9 hk9
      obtain ⟨c30, c31⟩ := heap2 (cells_kept F3 hg9 hk9)
      have HE : Hid (readF s.data.toList = ([], e, q)) := by
        obtain ⟨t, ht⟩ := hpre
        have h9 := HQ.out (t.map (fun y : RN s.data.toList => y.1.2))
        rw [← List.map_append, ht, map_lines] at h9
        rw [Hid, HR.out]; exact h9
      have HQ := Lib.hid HQ.out
      gi_wp2
      refine ⟨by simp, .inl ⟨_, _, rfl, run_takeDeferred hK, ?_⟩⟩
      refine ⟨.tuple #[.slice none 0 0, .agg #[.int .i64 e, .int .i64 q]], ?_, ⟨none, 0, 0, by rw [HE.out], by rw [HE.out]; exact World.ownsRow_nil _ _ _ _⟩, F4.trans (belowK_b (w := w) (Nat.le_refl _) _ D _ _ (by omega) hK rfl rfl)⟩
      simp [results, Tryd.f9, go_sem, c2, c30, c31]
    case done =>
      rintro D xs W hD rfl ⟨a, A, n, c, acc, F, HF, ha, hacc⟩ hK
      have HE : Hid (readF s.data.toList = (acc, 0, 0)) := by
        have h9 := fold_read _ [] 0 [] a acc HF.out
        rw [map_lines, List.append_nil] at h9
        rw [Hid, HR.out, h9]; rfl
      have c4 := F.2.2.1.cell
      have c2 := F.1.cell
      have f2 := F.1.frozen
      obtain ⟨c30, c31⟩ := heap2 F.2.1
      have f3 := fun i => frzAt F.2.1 i
      obtain ⟨n1, n2, n3, n4, n5⟩ := F.ne
      have m4 : ¬ w.heap.size = B3 := n1
      have m5 : ¬ B3 = w.heap.size := fun h => n1 h.symm
      obtain ⟨W9, hW9⟩ : ∃ W9, W9 = (((W.setCell ⟨w.heap.size, 0, none⟩ (.slice A n c)).setCell ⟨B3, 0, none⟩ (.int .i64 0)).setCell ⟨B3, 1, none⟩ (.int .i64 0)) := ⟨_, rfl⟩
      have E1 : Boxed W9 w.heap.size 23 (.slice A n c) := by rw [hW9]; exact (Chg.put _ B3 1 _).heap ((Chg.put _ B3 0 _).heap (F.1.set _) n1) n1
      have E2 : W9.heap[B3]? = some (.cells #[.int .i64 0, .int .i64 0] 26 (0, 0)) := by rw [hW9]; exact heap_set (heap_set ((Chg.put W w.heap.size 0 _).heap F.2.1 (fun h => n1 h.symm)) 0 _) 1 _
      have E3 : Below w.heap.size w W9 := by rw [hW9]; exact ((F.2.2.2.2.2.setCell (p := ⟨w.heap.size, 0, none⟩) (Nat.le_refl _) _).setCell (p := ⟨B3, 0, none⟩) hlw3 _).setCell (p := ⟨B3, 1, none⟩) hlw3 _
      have r2 := F.1.not_row (by decide) F.2.2.2.2.1
      have r3 := cells_not_row F.2.1 (by decide) F.2.2.2.2.1
      have E4 : OwnR W9 w.heap.size (.slice A n c) n acc := by
        rw [hW9]
        have s3 : ∀ b, (Value.slice A n c).ownBlock = some b → ¬ b = B3 := fun b h e => r3 (by rw [h, e])
        exact ((F.2.2.2.2.1.chgS (Chg.put W w.heap.size 0 _) (fun b h e => r2 (by rw [h, e]))).chgS (Chg.put _ B3 0 _) s3).chgS (Chg.put _ B3 1 _) s3
      have k9 : W9.heap[D]? = some (.deferred (some [])) := by
        rw [hW9]
        exact ((KeepsOthers.setCell W ⟨w.heap.size, 0, none⟩ (.slice A n c)).trans ((KeepsOthers.setCell _ ⟨B3, 0, none⟩ (.int .i64 0)).trans (KeepsOthers.setCell _ ⟨B3, 1, none⟩ (.int .i64 0)))).same D _ hK rfl
      have hk9 : ∀ r, some D = some r → ∃ o : Obj, W9.heap[r]? = some o ∧ o.isCells = false := fun r e => by cases e; exact ⟨_, k9, rfl⟩
      have hg9 := grownBy_putObj' W9 D (.deferred none)
      have d2 := cell_kept E1.cell hg9 hk9
      obtain ⟨d30, d31⟩ := heap2 (cells_kept E2 hg9 hk9)
      have E5 := OwnR.kept E4 hg9 hk9
      have HF := Lib.hid HF.out
      clear E1 E2 E4
      have HH := Lib.hid (And.intro d2 (And.intro d30 (And.intro d31 (And.intro E5 (And.intro E3 (And.intro k9 hW9))))))
      clear d2 d30 d31 E5 E3 k9 hk9 hg9 hW9
      gi_wp2
      obtain ⟨d2, d30, d31, E5, E3, k9, hW9⟩ := HH.out
      rw [← hW9]
      refine ⟨by simp, .inl ⟨_, _, rfl, run_takeDeferred k9, ?_⟩⟩
      refine ⟨.tuple #[.slice A n c, .agg #[.int .i64 0, .int .i64 0]], ?_, ⟨A, n, c, by rw [HE.out], by rw [HE.out]; exact E5⟩, E3.trans (belowK_b (w := w) (Nat.le_refl _) _ D _ _ (by omega) k9 rfl rfl)⟩
      simp [results, Tryd.f9, go_sem, d2, d30, d31]

theorem readall_calls (w : World) (s : ByteArray) (hs : s.size ≤ 9223372036854775807) :
    Calls Tryd.prog 9 #[.string s] w fun e w' => ReadAllR w.heap.size w' e (readF s.data.toList) ∧ Chg No w w' :=
  (callsIn_wide.1 (readall_core 3 (Nat.le_refl _) w s hs)).mono fun e w' h => ⟨h.1, Chg.ofBelow h.2⟩
end Go.Proofs.YtcomcoolmabmgaaDoor

namespace Go.Proofs.YtcomcoolmabmgaaDoor
set_option linter.unnecessarySimpa false
open Go.RowKit Go.Shelf
set_option linter.unusedVariables false
set_option linter.unusedSimpArgs false
set_option maxRecDepth 100000

/-- What the reference's Read answers. -/
def RefAllR (W' : World) (e : Ending) (R : List Rul × Int × Int) : Prop := ∃ A n c, e = .returned (.tuple #[.slice A n c, .agg #[.int .i64 R.2.1, .int .i64 R.2.2]]) ∧ Rs W' (.slice A n c) R.1
theorem ReadAllR.ref {base : Nat} {W' : World} {e : Ending} {R : List Rul × Int × Int} (h : ReadAllR base W' e R) : RefAllR W' e R := by
  obtain ⟨A, n, c, he, ho⟩ := h
  exact ⟨A, n, c, he, ho.rs⟩
theorem Rs_nil (w : World) : Rs w (.slice none 0 0) [] := OwnR.rs (base := 0) (n := 0) (World.ownsRow_nil _ _ _ _)
set_option maxHeartbeats 64000000 in
theorem rreadall_calls (w : World) (s : ByteArray) (hs : s.size ≤ 9223372036854775807) :
    Calls Tryd.prog 10 #[.string s] w fun e w' => RefAllR w' e (readF s.data.toList) ∧ Chg No w w' := by
  have HS := Lib.hid (size_list s)
  by_cases hbig : 131072 < s.size
  · have hb : (131072 : Int) < (s.size : Int) := by omega
    have HU : Hid (readF s.data.toList = ([], 3, 0)) := by rw [Hid, readF, if_pos (by rw [HS.out]; exact hbig)]
    clear hbig
    have CS : (w.alloc (.cells #[.int .i64 0, .int .i64 0] 26)).heap[w.heap.size]? = some (.cells #[.int .i64 0, .int .i64 0] 26 (0, 0)) := heap_alloc_new w _
    have HCW : Chg No w (w.alloc (.cells #[.int .i64 0, .int .i64 0] 26)) := (Chg.refl No w).alloc _
    go_enter Tryd.func10, Tryd.ntmps10
    go_wp2
    exact bodyPost_ret (v := .tuple #[.slice none 0 0, .agg #[.int .i64 3, .int .i64 0]]) (by simp [results, Tryd.results10, go_sem]) rfl ⟨by rw [HU.out]; exact ⟨none, 0, 0, rfl, Rs_nil _⟩, (Chg.refl No w).alloc _⟩
  · have hb : ¬ (131072 : Int) < (s.size : Int) := by omega
    have HR : Hid (readF s.data.toList = readG 0 [] (linesF s.data.toList)) := by rw [Hid, readF, if_neg (by rw [HS.out]; exact hbig)]
    have hcount : Hid ((linesF s.data.toList).length ≤ 131072) := by
      have := lines_count _ s.data.toList (Nat.le_refl _)
      rw [Hid]; rw [size_list] at this; omega
    have HLM : Hid (∀ x ∈ linesF s.data.toList, x.length ≤ 131072) := fun x hx => by
      have := (lines_mem _ s.data.toList (Nat.le_refl _) x hx).2
      rw [size_list] at this; omega
    have HLC := Lib.hid (rlines_calls (w.alloc (.cells #[.int .i64 0, .int .i64 0] 26)) s (by omega))
    have CS1 : (w.alloc (.cells #[.int .i64 0, .int .i64 0] 26)).heap[w.heap.size]? = some (.cells #[.int .i64 0, .int .i64 0] 26 (0, 0)) := heap_alloc_new w _
    generalize linesF s.data.toList = L at HR hcount HLM HLC
    clear hbig
    go_enter Tryd.func10, Tryd.ntmps10
    go_wp2_with (go_at_call 24; refine Hid.out ?_)
    refine Lib.hid ?_
    refine HLC.out.mono ?_
    rintro e w2 ⟨⟨AL, nl, cl, rfl, hnl, hol⟩, hc2⟩
    have HSL : Hid (Sl strv w2 (.slice AL nl cl) L) := by rw [Hid, Sl, hnl]; exact Holds.ofOwn hol
    have CS2 : Hid (w2.heap[w.heap.size]? = some (.cells #[.int .i64 0, .int .i64 0] 26 (0, 0))) := hc2.heap CS1 (fun x => x)
    have HC2 : Hid (Chg No w w2) := ((Chg.refl No w).alloc _).no hc2
    have hz2 : w.heap.size < w2.heap.size := by have := hc2.size; rw [World.size_alloc] at this; omega
    have hnl2 : nl ≤ 131072 := by rw [← hnl]; exact hcount.out
    have HNL := Lib.hid hnl
    clear hol hc2 CS1 hnl HLC
    go_wp2
    go_loopw [4, 5, 7] (fun v a i wr => ∃ (k am n : Nat) (A : Option Addr) (c : Nat) (acc : List Rul), k ≤ nl ∧ i = .int .i64 (k : Int) ∧ a = .int .i64 (am : Int) ∧ v = .slice A n c ∧ n ≤ 64 ∧ am ≤ 131073 * k ∧ Hid (OwnR wr w2.heap.size (.slice A n c) n acc) ∧ Hid (readF s.data.toList = readG am acc (L.drop k)) ∧ Hid (Chg No w2 wr)) (fun _ _ i _ => nl - (intOf i).toNat)
    case atStart => exact ⟨0, 0, 0, none, 0, [], Nat.zero_le _, rfl, rfl, rfl, Nat.zero_le _, Nat.zero_le _, World.ownsRow_nil _ _ _ _, HR, Chg.refl _ _⟩
    case round =>
      obtain ⟨k, am, n, A, c, acc, hk, rfl, rfl, rfl, hn64, ham, HO, HRD, HC⟩ := hrel
      have CSr : Hid (wr.heap[w.heap.size]? = some (.cells #[.int .i64 0, .int .i64 0] 26 (0, 0))) := HC.out.heap CS2.out (fun x => x)
      have HBKr : Hid (∀ b, (Value.slice A n c).ownBlock = some b → ¬ b = w.heap.size) := fun b hb e => by have := (World.ownsRow.lt HO.out b hb).1; omega
      have hlacc : acc.length = n := HO.out.len
      by_cases hlt : k < nl
      · have i1 : (k : Int) < (nl : Int) := by omega
        have hkl : k < L.length := by rw [HNL.out]; exact hlt
        obtain ⟨lx, hlx⟩ : ∃ lx, L[k] = lx := ⟨_, rfl⟩
        have HD : Hid (L.drop k = lx :: L.drop (k + 1)) := by rw [Hid, List.drop_eq_getElem_cons hkl, hlx]
        have hll : lx.length ≤ 131072 := by rw [← hlx]; exact HLM.out _ (List.getElem_mem hkl)
        obtain ⟨bL, oL, rfl, hcell⟩ := HSL.out.addr (by omega)
        have hcr : ∀ W, Chg No w2 W → W.cell? ⟨bL, oL + k, none⟩ = some (.string (mkS lx)) := fun W h => by
          have := h.cell (hcell k hkl) (fun x => x)
          rw [hlx] at this; exact this
        have hck := hcr wr HC.out
        have HRW := Lib.hid (rwords_calls wr (mkS lx) (by rw [mkS_size]; omega))
        rw [mkS_list] at HRW
        have hszl : (mkS lx).size = lx.length := mkS_size lx
        have HRG : Hid (readF s.data.toList = match wordsF 0 [] lx with | .inl p => ([], 150, (am : Int) + (p : Int)) | .inr [] => readG (am + lx.length + 1) acc (L.drop (k + 1)) | .inr (w :: ws) => match readR (w :: ws) with | none => ([], 230, (am : Int)) | some y => if acc.length = 64 then ([], 3, (am : Int)) else readG (am + lx.length + 1) (acc ++ [y]) (L.drop (k + 1))) := by rw [Hid, HRD.out, HD.out, readG]; rfl
        have HPBg := Lib.hid fun q (h : wordsF 0 [] lx = .inl q) => words_place _ lx (Nat.le_refl _) 0 [] q h
        have HWSg := Lib.hid fun ws (h : wordsF 0 [] lx = .inr ws) => words_size _ lx (Nat.le_refl _) 0 [] ws h
        clear HRD HD
        generalize wordsF 0 [] lx = V at HRW HRG HPBg HWSg
        have HCR := Lib.hid hcr
        clear hcr hlx hcell
        match V, HRW, HRG, HPBg, HWSg with
        | .inl p, HRW, HRG, HPBg, HWSg =>
          have HU : Hid (readF s.data.toList = ([], 150, (am : Int) + (p : Int))) := HRG
          have hp := HPBg.out p rfl
          clear HRG HPBg HWSg HO HSL
          go_wp2_with (go_at_call 25; refine Hid.out ?_)
          refine Lib.hid ?_
          refine HRW.out.mono ?_
          rintro e w3 ⟨he, hc3⟩
          have he : e = .returned (.tuple #[.slice none 0 0, .int .i64 (p : Int)]) := he
          subst he
          have CS := hc3.heap CSr.out (fun x => x)
          have HCW : Chg No w w3 := (HC2.out.no HC.out).no hc3
          clear hc3 HRW HC CSr HBKr hck HCR
          have E2 : (((w3).setCell ⟨w.heap.size, 0, none⟩ (.int .i64 150)).setCell ⟨w.heap.size, 1, none⟩ (.int .i64 ((am : Int) + (p : Int)))).heap[w.heap.size]? = some (.cells #[.int .i64 150, .int .i64 ((am : Int) + (p : Int))] 26 (0, 0)) := heap_set (heap_set CS 0 _) 1 _
          obtain ⟨d30, d31⟩ := heap2 E2
          obtain ⟨c30, c31⟩ := heap2 CS
          have f3 := fun i => frzAt CS i
          have E3 : Chg No w (((w3).setCell ⟨w.heap.size, 0, none⟩ (.int .i64 150)).setCell ⟨w.heap.size, 1, none⟩ (.int .i64 ((am : Int) + (p : Int)))) := Chg.ofBelow (((Chg.below HCW).setCell (p := ⟨w.heap.size, 0, none⟩) (Nat.le_refl _) _).setCell (p := ⟨w.heap.size, 1, none⟩) (Nat.le_refl _) _)
          have E4 : Rs (((w3).setCell ⟨w.heap.size, 0, none⟩ (.int .i64 150)).setCell ⟨w.heap.size, 1, none⟩ (.int .i64 ((am : Int) + (p : Int)))) (.slice none 0 0) ([] : List Rul) := Rs_nil _
          have HE3 := Lib.hid E3
          have HE4 := Lib.hid E4
          clear E2 E3 E4 CS HCW
          go_wp2
          exact bodyPost_ret (v := .tuple #[.slice none 0 0, .agg #[.int .i64 150, .int .i64 ((am : Int) + (p : Int))]]) (by simp [results, Tryd.results10, go_sem, d30, d31]) rfl ⟨by rw [HU.out]; exact ⟨none, 0, 0, rfl, HE4.out⟩, HE3.out⟩
        | .inr [], HRW, HRG, HPBg, HWSg =>
          have HRD : Hid (readF s.data.toList = readG (am + lx.length + 1) acc (L.drop (k + 1))) := HRG
          clear HRG HPBg HWSg CSr HBKr
          go_wp2_with (go_at_call 25; refine Hid.out ?_)
          refine Lib.hid ?_
          refine HRW.out.mono ?_
          rintro e w3 ⟨he, hc3⟩
          obtain ⟨A1, m1, c1, he, hm1, ho1⟩ : RWordsR _ _ _ (.inr []) := he
          subst he
          subst hm1
          have HO3 := Lib.hid (HO.out.chg hc3)
          have HC3 := Lib.hid (HC.out.no hc3)
          have hck3 := HCR.out w3 HC3.out
          clear hc3 HRW HO HC ho1 hck
          go_wp2
          go_roundw
          case rel => exact ⟨k + 1, am + lx.length + 1, n, A, c, acc, by omega, by go_num, by go_num, rfl, hn64, by omega, HO3.out, HRD.out, HC3.out⟩
          case measure => simp only [intOf]; omega
        | .inr (y :: ws), HRW, HRG, HPBg, HWSg =>
          have HSZ := Lib.hid (HWSg.out _ rfl)
          clear HPBg HWSg
          go_wp2_with (go_at_call 25; refine Hid.out ?_)
          refine Lib.hid ?_
          refine HRW.out.mono ?_
          rintro e w3 ⟨he, hc3⟩
          obtain ⟨A1, m1, c1, he, hm1, ho1⟩ : RWordsR _ _ _ (.inr (y :: ws)) := he
          subst he
          have hm0 : (0 : Int) < (m1 : Int) := by rw [← hm1, List.length_cons]; omega
          have hm2 : m1 ≤ 131072 := by have := HSZ.out.1; rw [hm1] at this; simp only [List.length_nil] at this; omega
          have HSL3 : Sl strv w3 (.slice A1 m1 c1) (y :: ws) := by rw [Sl, hm1]; exact Holds.ofOwn ho1
          have HRC := Lib.hid (refrule_calls w3 A1 m1 c1 (y :: ws) HSL3 (by omega) (by omega) (fun x hx => by have := HSZ.out.2 x hx; rcases this with h | h; cases h; omega))
          have HO3 := Lib.hid (HO.out.chg hc3)
          have HC3 := Lib.hid (HC.out.no hc3)
          have CS3 := Lib.hid (hc3.heap CSr.out (fun x => x))
          clear hc3 HRW HO HC ho1 hck HSL3 hm1 CSr
          go_wp2_with (go_at_call 26; refine Hid.out ?_)
          refine Lib.hid ?_
          refine HRC.out.mono ?_
          rintro e w5 ⟨⟨x0, ok, he, hr⟩, hc5⟩
          have he : e = .returned (.tuple #[.agg #[.int .i64 x0.1, .string (mkS x0.2.1), .string (mkS x0.2.2)], .bool ok]) := he
          subst he
          have HO5 := Lib.hid (HO3.out.chg hc5)
          have HC5 := Lib.hid (HC3.out.no hc5)
          have CS5 := Lib.hid (hc5.heap CS3.out (fun x => x))
          clear hc5 HRC HO3 HC3 CS3
          cases ok with
          | false =>
            have HU : Hid (readF s.data.toList = ([], 230, (am : Int))) := by
              have hr : readR (y :: ws) = none := hr
              rw [Hid, HRG.out]; simp only [hr]
            have CS := ((Chg.refl No w5).alloc (.cells #[.int .i64 x0.1, .string (mkS x0.2.1), .string (mkS x0.2.2)] 32)).heap CS5.out (fun x => x)
            have HCW : Chg No w (w5.alloc (.cells #[.int .i64 x0.1, .string (mkS x0.2.1), .string (mkS x0.2.2)] 32)) := ((HC2.out.no HC5.out).alloc _)
            clear HRG hr HO5 HC5 HCR
            have E2 : (((w5.alloc (.cells #[.int .i64 x0.1, .string (mkS x0.2.1), .string (mkS x0.2.2)] 32)).setCell ⟨w.heap.size, 0, none⟩ (.int .i64 230)).setCell ⟨w.heap.size, 1, none⟩ (.int .i64 (am : Int))).heap[w.heap.size]? = some (.cells #[.int .i64 230, .int .i64 (am : Int)] 26 (0, 0)) := heap_set (heap_set CS 0 _) 1 _
            obtain ⟨d30, d31⟩ := heap2 E2
            obtain ⟨c30, c31⟩ := heap2 CS
            have f3 := fun i => frzAt CS i
            have E3 : Chg No w (((w5.alloc (.cells #[.int .i64 x0.1, .string (mkS x0.2.1), .string (mkS x0.2.2)] 32)).setCell ⟨w.heap.size, 0, none⟩ (.int .i64 230)).setCell ⟨w.heap.size, 1, none⟩ (.int .i64 (am : Int))) := Chg.ofBelow (((Chg.below HCW).setCell (p := ⟨w.heap.size, 0, none⟩) (Nat.le_refl _) _).setCell (p := ⟨w.heap.size, 1, none⟩) (Nat.le_refl _) _)
            have E4 : Rs (((w5.alloc (.cells #[.int .i64 x0.1, .string (mkS x0.2.1), .string (mkS x0.2.2)] 32)).setCell ⟨w.heap.size, 0, none⟩ (.int .i64 230)).setCell ⟨w.heap.size, 1, none⟩ (.int .i64 (am : Int))) (.slice none 0 0) ([] : List Rul) := Rs_nil _
            have HE3 := Lib.hid E3
            have HE4 := Lib.hid E4
            clear E2 E3 E4 CS HCW
            go_wp2
            exact bodyPost_ret (v := .tuple #[.slice none 0 0, .agg #[.int .i64 230, .int .i64 (am : Int)]]) (by simp [results, Tryd.results10, go_sem, d30, d31]) rfl ⟨by rw [HU.out]; exact ⟨none, 0, 0, rfl, HE4.out⟩, HE3.out⟩
          | true =>
            have hr : readR (y :: ws) = some x0 := hr
            by_cases h64 : acc.length = 64
            · have HU : Hid (readF s.data.toList = ([], 3, (am : Int))) := by rw [Hid, HRG.out]; simp only [hr]; rw [if_pos h64]
              have CS := ((Chg.refl No w5).alloc (.cells #[.int .i64 x0.1, .string (mkS x0.2.1), .string (mkS x0.2.2)] 32)).heap CS5.out (fun x => x)
              have HCW : Chg No w (w5.alloc (.cells #[.int .i64 x0.1, .string (mkS x0.2.1), .string (mkS x0.2.2)] 32)) := ((HC2.out.no HC5.out).alloc _)
              have hq : (64 : Int) ≤ (n : Int) := by omega
              clear HRG hr HO5 HC5 HCR
              have E2 : (((w5.alloc (.cells #[.int .i64 x0.1, .string (mkS x0.2.1), .string (mkS x0.2.2)] 32)).setCell ⟨w.heap.size, 0, none⟩ (.int .i64 3)).setCell ⟨w.heap.size, 1, none⟩ (.int .i64 (am : Int))).heap[w.heap.size]? = some (.cells #[.int .i64 3, .int .i64 (am : Int)] 26 (0, 0)) := heap_set (heap_set CS 0 _) 1 _
              obtain ⟨d30, d31⟩ := heap2 E2
              obtain ⟨c30, c31⟩ := heap2 CS
              have f3 := fun i => frzAt CS i
              have E3 : Chg No w (((w5.alloc (.cells #[.int .i64 x0.1, .string (mkS x0.2.1), .string (mkS x0.2.2)] 32)).setCell ⟨w.heap.size, 0, none⟩ (.int .i64 3)).setCell ⟨w.heap.size, 1, none⟩ (.int .i64 (am : Int))) := Chg.ofBelow (((Chg.below HCW).setCell (p := ⟨w.heap.size, 0, none⟩) (Nat.le_refl _) _).setCell (p := ⟨w.heap.size, 1, none⟩) (Nat.le_refl _) _)
              have E4 : Rs (((w5.alloc (.cells #[.int .i64 x0.1, .string (mkS x0.2.1), .string (mkS x0.2.2)] 32)).setCell ⟨w.heap.size, 0, none⟩ (.int .i64 3)).setCell ⟨w.heap.size, 1, none⟩ (.int .i64 (am : Int))) (.slice none 0 0) ([] : List Rul) := Rs_nil _
              have HE3 := Lib.hid E3
              have HE4 := Lib.hid E4
              clear E2 E3 E4 CS HCW
              go_wp2
              exact bodyPost_ret (v := .tuple #[.slice none 0 0, .agg #[.int .i64 3, .int .i64 (am : Int)]]) (by simp [results, Tryd.results10, go_sem, d30, d31]) rfl ⟨by rw [HU.out]; exact ⟨none, 0, 0, rfl, HE4.out⟩, HE3.out⟩
            · have HRD : Hid (readF s.data.toList = readG (am + lx.length + 1) (acc ++ [x0]) (L.drop (k + 1))) := by rw [Hid, HRG.out]; simp only [hr]; rw [if_neg h64]
              have hq : ¬ (64 : Int) ≤ (n : Int) := by omega
              have hz5 := HC5.out.size
              have OQ : ∀ o, OwnR ((w5.alloc (.cells #[.int .i64 x0.1, .string (mkS x0.2.1), .string (mkS x0.2.2)] 32)).alloc o) w2.heap.size (.slice A n c) n acc := fun o => HO5.out.chg (((Chg.refl No w5).alloc (.cells #[.int .i64 x0.1, .string (mkS x0.2.1), .string (mkS x0.2.2)] 32)).alloc o)
              have HN : ∀ o, ((w5.alloc (.cells #[.int .i64 x0.1, .string (mkS x0.2.1), .string (mkS x0.2.2)] 32)).alloc o).heap[w5.heap.size + 1]? = some o := fun o => by have := heap_alloc_new (w5.alloc (.cells #[.int .i64 x0.1, .string (mkS x0.2.1), .string (mkS x0.2.2)] 32)) o; rwa [World.size_alloc] at this
              have hn63 : n ≤ 63 := by omega
              have HCQ : ∀ o, Chg No w2 ((w5.alloc (.cells #[.int .i64 x0.1, .string (mkS x0.2.1), .string (mkS x0.2.2)] 32)).alloc o) := fun o => (HC5.out.alloc _).alloc o
              clear HRG hr CS5
              go_wp2_with (at_builtin; (refine wpList_app _ rfl (.tmp 55) (.tmp 57) 23 23 rfl w2.heap.size 32 (.agg #[.int .i64 0, .string ⟨#[]⟩, .string ⟨#[]⟩]) 3 40 infoR Tryd.underlying23 rfl (by decide) (.slice A n c) (.slice (some ⟨w5.heap.size + 1, 0, none⟩) 1 1) n 1 (acc.flatMap encR) (encR x0) rfl rfl (OQ _) (Src.rule Tryd.underlying23 x0 (HN _)) ?b1 ?b2 ?b3 ?_; (case b1 => omega); (case b2 => unfold maxLen; omega); (case b3 => simp only [World.size_alloc]; omega); intro v8 w8 hown8 hg8; refine Hid.out ?_))
              refine Lib.hid ?_
              obtain ⟨A8, c8, rfl⟩ := own_form hown8
              have HO8 : Hid (OwnR w8 w2.heap.size (.slice A8 (n + 1) c8) (n + 1) (acc ++ [x0])) := by rw [Hid, OwnR, List.flatMap_append]; simpa [List.flatMap_cons] using hown8
              have HC8 := Lib.hid ((HCQ _).grown hg8 (fun k hk => .inl (World.ownsRow.lt HO5.out k hk).1))
              have hck8 := HCR.out w8 HC8.out
              clear hown8 hg8 OQ HN HO5 HC5 HCQ
              go_wp2
              go_roundw
              case rel => exact ⟨k + 1, am + lx.length + 1, n + 1, A8, c8, acc ++ [x0], by omega, by go_num, by go_num, rfl, by omega, by omega, HO8.out, HRD.out, HC8.out⟩
              case measure => simp only [intOf]; omega
      · have i1 : ¬ ((k : Int) < (nl : Int)) := by omega
        have HU : Hid (readF s.data.toList = (acc, 0, 0)) := by
          rw [Hid, HRD.out, List.drop_of_length_le (by rw [HNL.out]; omega)]; rfl
        have CS := CSr.out
        have HCW : Chg No w wr := HC2.out.no HC.out
        have HBK := HBKr.out
        have E2 : (((wr).setCell ⟨w.heap.size, 0, none⟩ (.int .i64 0)).setCell ⟨w.heap.size, 1, none⟩ (.int .i64 (0))).heap[w.heap.size]? = some (.cells #[.int .i64 0, .int .i64 (0)] 26 (0, 0)) := heap_set (heap_set CS 0 _) 1 _
        obtain ⟨d30, d31⟩ := heap2 E2
        obtain ⟨c30, c31⟩ := heap2 CS
        have f3 := fun i => frzAt CS i
        have E3 : Chg No w (((wr).setCell ⟨w.heap.size, 0, none⟩ (.int .i64 0)).setCell ⟨w.heap.size, 1, none⟩ (.int .i64 (0))) := Chg.ofBelow (((Chg.below HCW).setCell (p := ⟨w.heap.size, 0, none⟩) (Nat.le_refl _) _).setCell (p := ⟨w.heap.size, 1, none⟩) (Nat.le_refl _) _)
        have E4 : Rs (((wr).setCell ⟨w.heap.size, 0, none⟩ (.int .i64 0)).setCell ⟨w.heap.size, 1, none⟩ (.int .i64 (0))) (.slice A n c) acc := (((HO.out.chgS (Chg.put (wr) w.heap.size 0 _) HBK).chgS (Chg.put _ w.heap.size 1 _) HBK)).rs
        have HE3 := Lib.hid E3
        have HE4 := Lib.hid E4
        clear E2 E3 E4 CS HCW
        go_wp2
        exact bodyPost_ret (v := .tuple #[.slice A n c, .agg #[.int .i64 0, .int .i64 (0)]]) (by simp [results, Tryd.results10, go_sem, d30, d31]) rfl ⟨by rw [HU.out]; exact ⟨A, n, c, rfl, HE4.out⟩, HE3.out⟩
end Go.Proofs.YtcomcoolmabmgaaDoor

namespace Go.Proofs.YtcomcoolmabmgaaDoor
set_option linter.unnecessarySimpa false
open Go.RowKit Go.Shelf
set_option linter.unusedVariables false
set_option linter.unusedSimpArgs false
set_option maxRecDepth 100000

theorem wake_read : readF [107, 101, 101, 112, 32, 115, 114, 99, 10, 109, 111, 118, 101, 32, 34, 97, 32, 98, 34, 32, 47, 32, 35, 32, 110, 111, 10, 10, 100, 114, 111, 112, 32, 115, 114, 99, 47, 120, 10] = ([(1, [115, 114, 99], []), (3, [97, 32, 98], []), (2, [115, 114, 99, 47, 120], [])], 0, 0) := by decide +kernel
theorem beq_bytes (a b : ByteArray) : (a.toList == b.toList) = decide (a = b) := by
  by_cases h : a = b
  · subst h; simp
  · rw [decide_eq_false h, beq_eq_false_iff_ne, Lib.toList_data, Lib.toList_data]
    intro e
    apply h
    rw [← mkS_self a, ← mkS_self b, e]
theorem rul_guard (q : BinOp) (hq : q = .eql ∨ q = .neq) (w : World) (x y : Operand) (xs ys : Array Value) : (eqGuard q 32 x y (.agg xs) (.agg ys)).run Tryd.prog w = .ok () w := by
  rcases hq with rfl | rfl
  · exact run_eqGuard_agg w _ _ _ _ _ _ (by kernel_rfl)
  · exact run_eqGuard_agg w _ _ _ _ _ _ (by kernel_rfl)
theorem rul_eql (w : World) (k k' : Int) (s s' t t' : ByteArray) : (binOp .eql 32 (.agg #[.int .i64 k, .string s, .string t]) (.agg #[.int .i64 k', .string s', .string t'])).run Tryd.prog w = .ok (.bool (decide (k = k' ∧ s = s' ∧ t = t'))) w := by
  have hs := beq_bytes s s'
  have ht := beq_bytes t t'
  rw [run_eql_struct, run_equalIn_agg w _ _ _ _ Tryd.underlying32 (by kernel_rfl)]
  go_simp
  by_cases h1 : k = k'
  · by_cases h2 : s = s'
    · by_cases h3 : t = t'
      · simp [h1, h2, h3]
      · simp [h1, h2, h3]
    · simp [h1, h2]
  · simp [h1]
theorem rul_neq (w : World) (k k' : Int) (s s' t t' : ByteArray) : (binOp .neq 32 (.agg #[.int .i64 k, .string s, .string t]) (.agg #[.int .i64 k', .string s', .string t'])).run Tryd.prog w = .ok (.bool (!decide (k = k' ∧ s = s' ∧ t = t'))) w := by
  have hs := beq_bytes s s'
  have ht := beq_bytes t t'
  rw [run_neq_struct, run_equalIn_agg w _ _ _ _ Tryd.underlying32 (by kernel_rfl)]
  go_simp
  by_cases h1 : k = k'
  · by_cases h2 : s = s'
    · by_cases h3 : t = t'
      · simp [h1, h2, h3]
      · simp [h1, h2, h3]
    · simp [h1, h2]
  · simp [h1]
set_option maxHeartbeats 6400000 in
theorem rwakes_calls (w : World) : Calls Tryd.prog 8 #[] w fun e w' => e = .returned (.bool true) ∧ Chg No w w' := by
  have sg := fun w x y xs ys => spot_guard w x y xs ys
  have se := fun w a b c d => spot_eq w a b c d
  have rg := fun w x y xs ys => rul_guard .eql (.inl rfl) w x y xs ys
  have re := fun w k k' s s' t t' => rul_eql w k k' s s' t t'
  have HRD : Hid (∀ w1, Calls Tryd.prog 9 #[.string ⟨#[107, 101, 101, 112, 32, 115, 114, 99, 10, 109, 111, 118, 101, 32, 34, 97, 32, 98, 34, 32, 47, 32, 35, 32, 110, 111, 10, 10, 100, 114, 111, 112, 32, 115, 114, 99, 47, 120, 10]⟩] w1 fun e w' => ReadAllR w1.heap.size w' e ([(1, [115, 114, 99], []), (3, [97, 32, 98], []), (2, [115, 114, 99, 47, 120], [])], 0, 0) ∧ Chg No w1 w') := by
    intro w1
    have h := readall_calls w1 ⟨#[107, 101, 101, 112, 32, 115, 114, 99, 10, 109, 111, 118, 101, 32, 34, 97, 32, 98, 34, 32, 47, 32, 35, 32, 110, 111, 10, 10, 100, 114, 111, 112, 32, 115, 114, 99, 47, 120, 10]⟩ (by decide)
    rw [show ((⟨#[107, 101, 101, 112, 32, 115, 114, 99, 10, 109, 111, 118, 101, 32, 34, 97, 32, 98, 34, 32, 47, 32, 35, 32, 110, 111, 10, 10, 100, 114, 111, 112, 32, 115, 114, 99, 47, 120, 10]⟩ : ByteArray).data.toList) = [107, 101, 101, 112, 32, 115, 114, 99, 10, 109, 111, 118, 101, 32, 34, 97, 32, 98, 34, 32, 47, 32, 35, 32, 110, 111, 10, 10, 100, 114, 111, 112, 32, 115, 114, 99, 47, 120, 10] from rfl, wake_read] at h
    exact h
  go_enter Tryd.func8, Tryd.ntmps8
  go_wp2_with fail
  refine (HRD.out _).mono ?_
  rintro e w1 ⟨⟨A, n, c, he, ho⟩, hc1⟩
  simp only at he ho
  subst he
  have hn : 3 = n := ho.len
  subst hn
  obtain ⟨b, o, rfl, hcell⟩ := ho.rs.addr (by decide)
  obtain ⟨c0, c1, c2⟩ := hcell 1 (by decide)
  simp only [List.getElem_cons_succ, List.getElem_cons_zero, Nat.one_mul] at c0 c1 c2
  have ca0 : ∀ o', (w1.alloc o').cell? ⟨b, o + 3, none⟩ = some (.int .i64 3) := fun o' => ((Chg.refl No w1).alloc o').cell c0 (fun x => x)
  have ca1 : ∀ o', (w1.alloc o').cell? ⟨b, o + 3 + 1, none⟩ = some (.string ⟨#[97, 32, 98]⟩) := fun o' => ((Chg.refl No w1).alloc o').cell c1 (fun x => x)
  have ca2 : ∀ o', (w1.alloc o').cell? ⟨b, o + 3 + 2, none⟩ = some (.string ⟨#[]⟩) := fun o' => ((Chg.refl No w1).alloc o').cell c2 (fun x => x)
  have HC1 := Lib.hid hc1
  clear hc1 hcell c0 c1 c2 ho
  go_wp2
  go_ret
  exact ⟨by simp, by first | exact HC1.out.alloc _ | exact (HC1.out.alloc _).drew⟩

set_option maxHeartbeats 6400000 in
theorem rsame_calls (w : World) (A : Option Addr) (n c : Nat) (xs : List Rul) (A' : Option Addr) (n' c' : Nat) (ys : List Rul) (h : Rs w (.slice A n c) xs) (h' : Rs w (.slice A' n' c') ys) (hn : n ≤ 9223372036854775807) :
    Calls Tryd.prog 11 #[.slice A n c, .slice A' n' c'] w fun e w' => e = .returned (.bool (decide (xs = ys))) ∧ Chg No w w' := by
  have eg := fun w x y xs ys => rul_guard .neq (.inr rfl) w x y xs ys
  have en := fun w k k' s s' t t' => rul_neq w k k' s s' t t'
  have HL := Lib.hid h.len
  have HL' := Lib.hid h'.len
  have H := Lib.hid h
  have H' := Lib.hid h'
  clear h h'
  by_cases hnn : n = n'
  · subst hnn
    go_enter Tryd.func11, Tryd.ntmps11
    go_wp2
    go_loopw [13] (fun i wr => ∃ k : Nat, k ≤ n ∧ i = .int .i64 (k : Int) ∧ Hid (xs.take k = ys.take k) ∧ Hid (Chg No w wr)) (fun i _ => n - (intOf i).toNat)
    case atStart => exact ⟨0, Nat.zero_le _, rfl, rfl, Chg.refl _ _⟩
    case round =>
      obtain ⟨k, hk, rfl, HN, HC⟩ := hrel
      by_cases hlt : k < n
      · obtain ⟨b, o, rfl, hcell⟩ := (H.out.no HC.out).addr (by rw [HL.out]; omega)
        obtain ⟨b', o', rfl, hcell'⟩ := (H'.out.no HC.out).addr (by rw [HL'.out]; omega)
        obtain ⟨c0, c1, c2⟩ := hcell k (by rw [HL.out]; exact hlt)
        obtain ⟨d0, d1, d2⟩ := hcell' k (by rw [HL'.out]; exact hlt)
        have hT : xs.take (k + 1) = xs.take k ++ [xs[k]'(by rw [HL.out]; exact hlt)] := by rw [List.take_succ_eq_append_getElem]
        have hT' : ys.take (k + 1) = ys.take k ++ [ys[k]'(by rw [HL'.out]; exact hlt)] := by rw [List.take_succ_eq_append_getElem]
        generalize xs[k]'(by rw [HL.out]; exact hlt) = x at *
        generalize ys[k]'(by rw [HL'.out]; exact hlt) = y at *
        have HT := Lib.hid hT
        have HT' := Lib.hid hT'
        obtain ⟨s, f, id⟩ := x
        obtain ⟨s', f', id'⟩ := y
        simp only at c0 c1 c2 d0 d1 d2
        clear hcell hcell' hT hT'
        by_cases hx : s = s' ∧ mkS f = mkS f' ∧ mkS id = mkS id'
        · have HX := Lib.hid hx
          have hb : decide (s = s' ∧ mkS f = mkS f' ∧ mkS id = mkS id') = true := decide_eq_true hx
          clear hx
          go_wp2
          go_quiet (fail)
          go_wp2
          go_roundw
          case rel => exact ⟨k + 1, by omega, by simp, by rw [Hid, HT.out, HT'.out, HN.out, HX.out.1, mkS_inj HX.out.2.1, mkS_inj HX.out.2.2], by first | exact HC.out | exact HC.out.drewN _⟩
          case measure => simp [intOf]; omega
        · have hb : decide (s = s' ∧ mkS f = mkS f' ∧ mkS id = mkS id') = false := decide_eq_false hx
          have HF : Hid (decide (xs = ys) = false) := by
            rw [Hid, decide_eq_false_iff_not]
            rintro rfl
            have := HT.out.symm.trans HT'.out
            rw [List.append_cancel_left_eq, List.singleton_inj] at this
            simp only [Prod.mk.injEq] at this
            exact hx ⟨this.1, by rw [this.2.1], by rw [this.2.2]⟩
          clear hx
          go_wp2
          go_quiet (fail)
          go_wp2
          go_ret
          exact ⟨by rw [HF.out]; rfl, by first | exact HC.out | exact HC.out.drewN _⟩
      · have hkn : k = n := by omega
        subst hkn
        have HF : Hid (decide (xs = ys) = true) := by
          rw [Hid, decide_eq_true_iff]
          have := HN.out
          rwa [List.take_of_length_le (by rw [HL.out]; exact Nat.le_refl _), List.take_of_length_le (by rw [HL'.out]; exact Nat.le_refl _)] at this
        go_wp2
        go_ret
        exact ⟨by rw [HF.out]; rfl, HC.out⟩
  · have hb : ((n : Int) != (n' : Int)) = true := by simp; omega
    have HF : Hid (decide (xs = ys) = false) := by
      rw [Hid, decide_eq_false_iff_not]
      rintro rfl
      exact hnn (HL.out.symm.trans HL'.out)
    clear hnn
    go_enter Tryd.func11, Tryd.ntmps11
    go_wp2
    go_ret
    exact ⟨by rw [HF.out]; rfl, Chg.refl _ _⟩
end Go.Proofs.YtcomcoolmabmgaaDoor

namespace Go.Proofs.YtcomcoolmabmgaaDoor
set_option linter.unnecessarySimpa false
open Go.RowKit Go.Shelf
set_option linter.unusedVariables false
set_option linter.unusedSimpArgs false
set_option maxRecDepth 100000

theorem list_ne {p : List UInt8} (h : p ≠ []) : (mkS p).toList.isEmpty = false := by
  rw [Lib.toList_data, mkS_list]; cases p with | nil => exact absurd rfl h | cons => rfl
theorem kword_calls (w : World) (k : Int) : Calls Tryd.prog 27 #[.int .i64 k] w fun e w' => e = .returned (.string (mkS (kw k))) ∧ w = w' := by
  by_cases h1 : k = 1
  · subst h1
    go_enter Tryd.func27, Tryd.ntmps27
    go_wp2
    go_ret
    exact ⟨rfl, rfl⟩
  by_cases h2 : k = 2
  · subst h2
    go_enter Tryd.func27, Tryd.ntmps27
    go_wp2
    go_ret
    exact ⟨rfl, rfl⟩
  by_cases h3 : k = 3
  · subst h3
    go_enter Tryd.func27, Tryd.ntmps27
    go_wp2
    go_ret
    exact ⟨rfl, rfl⟩
  have HN : Hid (kw k = []) := by rw [Hid, kw, if_neg h1, if_neg h2, if_neg h3]
  have b1 : (k == 1) = false := beq_eq_false_iff_ne.2 h1
  have b2 : (k == 2) = false := beq_eq_false_iff_ne.2 h2
  have b3 : (k == 3) = false := beq_eq_false_iff_ne.2 h3
  clear h1 h2 h3
  go_enter Tryd.func27, Tryd.ntmps27
  go_wp2
  go_ret
  exact ⟨by rw [HN.out]; rfl, rfl⟩
theorem dressed_calls (w : World) (p : List UInt8) (hp : p.length ≤ 35184372088000) : Calls Tryd.prog 28 #[.string (mkS p)] w fun e w' => e = .returned (.string (mkS (drsF p))) ∧ Chg No w w' := by
  by_cases h : p = []
  · have HN : Hid (drsF p = [47]) := by rw [Hid, drsF, if_pos h]
    have n2 : ((mkS p).toList == []) = true := by rw [Lib.toList_data, mkS_list, h]; rfl
    have n3 : (mkS p).toList = [] := by rw [Lib.toList_data, mkS_list, h]
    have n4 : (mkS p).toList.isEmpty = true := by rw [n3]; rfl
    clear h
    go_enter Tryd.func28, Tryd.ntmps28
    go_wp2
    go_ret
    exact ⟨by rw [HN.out]; rfl, Chg.refl _ _⟩
  · have HN : Hid (drsF p = wordF p) := by rw [Hid, drsF, if_neg h]
    have n2 : ((mkS p).toList == []) = false := bytes_ne (by rw [mkS_list]; exact h)
    have n4 : (mkS p).toList.isEmpty = false := list_ne h
    have n3 : ¬ (mkS p).toList = [] := by rw [Lib.toList_data, mkS_list]; exact h
    have HP := Lib.hid fun W => word_calls W (mkS p) (by rw [mkS_size]; exact hp)
    rw [mkS_list] at HP
    clear h
    go_enter Tryd.func28, Tryd.ntmps28
    go_wp2_with fail
    refine (HP.out _).mono ?_
    rintro e w1 ⟨rfl, hc1⟩
    go_wp2
    go_ret
    exact ⟨by rw [HN.out]; rfl, hc1⟩
theorem refword_calls (w : World) (p : List UInt8) (hp : p.length ≤ 35184372088000) : Calls Tryd.prog 31 #[.string (mkS p)] w fun e w' => e = .returned (.string (mkS (drsF p))) ∧ Chg No w w' := by
  by_cases h : p = []
  · have HN : Hid (drsF p = [47]) := by rw [Hid, drsF, if_pos h]
    have n2 : ((mkS p).toList == []) = true := by rw [Lib.toList_data, mkS_list, h]; rfl
    have n3 : (mkS p).toList = [] := by rw [Lib.toList_data, mkS_list, h]
    have n4 : (mkS p).toList.isEmpty = true := by rw [n3]; rfl
    clear h
    go_enter Tryd.func31, Tryd.ntmps31
    go_wp2
    go_ret
    exact ⟨by rw [HN.out]; rfl, Chg.refl _ _⟩
  · have HN : Hid (drsF p = if plainF p then p else quoteF p) := by rw [Hid, drsF, if_neg h, wordF]
    have n2 : ((mkS p).toList == []) = false := bytes_ne (by rw [mkS_list]; exact h)
    have n4 : (mkS p).toList.isEmpty = false := list_ne h
    have n3 : ¬ (mkS p).toList = [] := by rw [Lib.toList_data, mkS_list]; exact h
    have HP := Lib.hid fun W => rplain_calls W (mkS p) (by rw [mkS_size]; omega)
    have HQ := Lib.hid fun W => rquote_calls W (mkS p) (by rw [mkS_size]; exact hp)
    rw [mkS_list] at HP HQ
    clear h
    generalize hz : plainF p = z at *
    cases z with
    | true =>
      have HM : Hid (drsF p = p) := HN.out
      clear HQ hz HN
      go_enter Tryd.func31, Tryd.ntmps31
      go_wp2_with fail
      refine (HP.out _).mono ?_
      rintro e w1 ⟨rfl, hc1⟩
      go_wp2
      go_ret
      exact ⟨by rw [HM.out]; rfl, hc1⟩
    | false =>
      have HM : Hid (drsF p = quoteF p) := HN.out
      clear hz HN
      go_enter Tryd.func31, Tryd.ntmps31
      go_wp2_with fail
      refine (HP.out _).mono ?_
      rintro e w1 ⟨rfl, hc1⟩
      have HC1 := Lib.hid hc1
      clear hc1
      go_wp2_with fail
      refine (HQ.out _).mono ?_
      rintro e w2 ⟨rfl, hc2⟩
      go_wp2
      go_ret
      exact ⟨by rw [HM.out]; rfl, HC1.out.no hc2⟩
theorem chk_two (k : Int) (p q : List UInt8) (h : kw k = [] ∨ isP p = false ∨ isP q = false ∨ (k ≠ 3 ∧ q ≠ [])) : chkR (k, p, q) = 2 := by rw [chkR, if_pos h]
theorem chk_zero (k : Int) (p q : List UInt8) (h1 : kw k ≠ []) (h2 : isP p = true) (h3 : isP q = true) (h4 : k = 3 ∨ q = []) : chkR (k, p, q) = 0 := by
  rw [chkR, if_neg]
  rintro (h | h | h | ⟨h, h'⟩)
  · exact h1 h
  · rw [show ((k, p, q) : Rul).2.1 = p from rfl, h2] at h; cases h
  · rw [show ((k, p, q) : Rul).2.2 = q from rfl, h3] at h; cases h
  · rcases h4 with h4 | h4
    · exact h h4
    · exact h' h4
set_option maxHeartbeats 6400000 in
theorem rcheck_calls (w : World) (k : Int) (p q : List UInt8) (hp : p.length ≤ 9223372036854775807) (hq : q.length ≤ 9223372036854775807) :
    Calls Tryd.prog 14 #[.agg #[.int .i64 k, .string (mkS p), .string (mkS q)]] w fun e w' => e = .returned (.int .i64 (chkR (k, p, q))) ∧ Chg No w w' := by
  have HK := Lib.hid fun W => kword_calls W k
  have HP := Lib.hid fun W => rpath_calls W p hp
  have HQ := Lib.hid fun W => rpath_calls W q hq
  by_cases h1 : kw k = []
  · have HN : Hid (chkR (k, p, q) = 2) := chk_two k p q (.inl h1)
    rw [h1, mkS_nil] at HK
    go_enter Tryd.func14, Tryd.ntmps14
    have G0 := heap_alloc_new w (.cells #[.int .i64 k, .string (mkS p), .string (mkS q)] 32)
    have HC0 : Hid (Chg No w (w.alloc (.cells #[.int .i64 k, .string (mkS p), .string (mkS q)] 32))) := (Chg.refl No w).alloc _
    go_wp2_with fail
    refine (HK.out _).mono ?_
    rintro e w9 ⟨rfl, hw9⟩
    subst hw9
    go_wp2
    go_ret
    exact ⟨by rw [HN.out]; try rfl, HC0.out⟩
  have h1' := h1
  have n2 : ((mkS (kw k)).toList == []) = false := bytes_ne (by rw [mkS_list]; exact h1)
  have n4 : (mkS (kw k)).toList.isEmpty = false := list_ne h1
  have n3 : ¬ (mkS (kw k)).toList = [] := by rw [Lib.toList_data, mkS_list]; exact h1
  generalize hp1 : isP p = zp at HP
  generalize hq1 : isP q = zq at HQ
  cases zp with
  | false =>
    have HN : Hid (chkR (k, p, q) = 2) := chk_two k p q (.inr (.inl hp1))
    clear h1 h1' hp1 hq1
    go_enter Tryd.func14, Tryd.ntmps14
    have G0 := heap_alloc_new w (.cells #[.int .i64 k, .string (mkS p), .string (mkS q)] 32)
    have HC0 : Hid (Chg No w (w.alloc (.cells #[.int .i64 k, .string (mkS p), .string (mkS q)] 32))) := (Chg.refl No w).alloc _
    go_wp2_with fail
    refine (HK.out _).mono ?_
    rintro e w9 ⟨rfl, hw9⟩
    subst hw9
    go_wp2_with fail
    refine (HP.out _).mono ?_
    rintro e w1 ⟨rfl, hc1⟩
    have G1 := hc1.heap G0 (fun x => x)
    have HC1 := Lib.hid (HC0.out.no hc1)
    clear hc1
    obtain ⟨c10, c11, c12⟩ := heap3 G1
    go_wp2
    go_ret
    exact ⟨by rw [HN.out]; try rfl, HC1.out⟩
  | true =>
    cases zq with
    | false =>
      have HN : Hid (chkR (k, p, q) = 2) := chk_two k p q (.inr (.inr (.inl hq1)))
      clear h1 h1' hp1 hq1
      go_enter Tryd.func14, Tryd.ntmps14
      have G0 := heap_alloc_new w (.cells #[.int .i64 k, .string (mkS p), .string (mkS q)] 32)
      have HC0 : Hid (Chg No w (w.alloc (.cells #[.int .i64 k, .string (mkS p), .string (mkS q)] 32))) := (Chg.refl No w).alloc _
      go_wp2_with fail
      refine (HK.out _).mono ?_
      rintro e w9 ⟨rfl, hw9⟩
      subst hw9
      go_wp2_with fail
      refine (HP.out _).mono ?_
      rintro e w1 ⟨rfl, hc1⟩
      have G1 := hc1.heap G0 (fun x => x)
      have HC1 := Lib.hid (HC0.out.no hc1)
      clear hc1
      obtain ⟨c10, c11, c12⟩ := heap3 G1
      go_wp2_with fail
      refine (HQ.out _).mono ?_
      rintro e w2 ⟨rfl, hc2⟩
      have G2 := hc2.heap G1 (fun x => x)
      have HC2 := Lib.hid (HC1.out.no hc2)
      clear hc2
      obtain ⟨c20, c21, c22⟩ := heap3 G2
      go_wp2
      go_ret
      exact ⟨by rw [HN.out]; try rfl, HC2.out⟩
    | true =>
      by_cases h3 : k = 3
      · have HN : Hid (chkR (k, p, q) = 0) := chk_zero k p q h1 hp1 hq1 (.inl h3)
        have b3 : (k != 3) = false := by simp [h3]
        clear h1 h1' hp1 hq1 h3
        go_enter Tryd.func14, Tryd.ntmps14
        have G0 := heap_alloc_new w (.cells #[.int .i64 k, .string (mkS p), .string (mkS q)] 32)
        have HC0 : Hid (Chg No w (w.alloc (.cells #[.int .i64 k, .string (mkS p), .string (mkS q)] 32))) := (Chg.refl No w).alloc _
        go_wp2_with fail
        refine (HK.out _).mono ?_
        rintro e w9 ⟨rfl, hw9⟩
        subst hw9
        go_wp2_with fail
        refine (HP.out _).mono ?_
        rintro e w1 ⟨rfl, hc1⟩
        have G1 := hc1.heap G0 (fun x => x)
        have HC1 := Lib.hid (HC0.out.no hc1)
        clear hc1
        obtain ⟨c10, c11, c12⟩ := heap3 G1
        go_wp2_with fail
        refine (HQ.out _).mono ?_
        rintro e w2 ⟨rfl, hc2⟩
        have G2 := hc2.heap G1 (fun x => x)
        have HC2 := Lib.hid (HC1.out.no hc2)
        clear hc2
        obtain ⟨c20, c21, c22⟩ := heap3 G2
        go_wp2
        go_ret
        exact ⟨by rw [HN.out]; try rfl, HC2.out⟩
      · have b3 : (k != 3) = true := bne_iff_ne.2 h3
        by_cases h4 : q = []
        · have HN : Hid (chkR (k, p, q) = 0) := chk_zero k p q h1 hp1 hq1 (.inr h4)
          have m2 : ((mkS q).toList == []) = true := by rw [Lib.toList_data, mkS_list, h4]; rfl
          have m3 : (mkS q).toList = [] := by rw [Lib.toList_data, mkS_list, h4]
          have m4 : (mkS q).toList.isEmpty = true := by rw [m3]; rfl
          clear h1 h1' hp1 hq1 h3 h4
          go_enter Tryd.func14, Tryd.ntmps14
          have G0 := heap_alloc_new w (.cells #[.int .i64 k, .string (mkS p), .string (mkS q)] 32)
          have HC0 : Hid (Chg No w (w.alloc (.cells #[.int .i64 k, .string (mkS p), .string (mkS q)] 32))) := (Chg.refl No w).alloc _
          go_wp2_with fail
          refine (HK.out _).mono ?_
          rintro e w9 ⟨rfl, hw9⟩
          subst hw9
          go_wp2_with fail
          refine (HP.out _).mono ?_
          rintro e w1 ⟨rfl, hc1⟩
          have G1 := hc1.heap G0 (fun x => x)
          have HC1 := Lib.hid (HC0.out.no hc1)
          clear hc1
          obtain ⟨c10, c11, c12⟩ := heap3 G1
          go_wp2_with fail
          refine (HQ.out _).mono ?_
          rintro e w2 ⟨rfl, hc2⟩
          have G2 := hc2.heap G1 (fun x => x)
          have HC2 := Lib.hid (HC1.out.no hc2)
          clear hc2
          obtain ⟨c20, c21, c22⟩ := heap3 G2
          go_wp2
          go_ret
          exact ⟨by rw [HN.out]; try rfl, HC2.out⟩
        · have HN : Hid (chkR (k, p, q) = 2) := chk_two k p q (.inr (.inr (.inr ⟨h3, h4⟩)))
          have m2 : ((mkS q).toList == []) = false := bytes_ne (by rw [mkS_list]; exact h4)
          have m4 : (mkS q).toList.isEmpty = false := list_ne h4
          have m3 : ¬ (mkS q).toList = [] := by rw [Lib.toList_data, mkS_list]; exact h4
          clear h1 h1' hp1 hq1 h3 h4
          go_enter Tryd.func14, Tryd.ntmps14
          have G0 := heap_alloc_new w (.cells #[.int .i64 k, .string (mkS p), .string (mkS q)] 32)
          have HC0 : Hid (Chg No w (w.alloc (.cells #[.int .i64 k, .string (mkS p), .string (mkS q)] 32))) := (Chg.refl No w).alloc _
          go_wp2_with fail
          refine (HK.out _).mono ?_
          rintro e w9 ⟨rfl, hw9⟩
          subst hw9
          go_wp2_with fail
          refine (HP.out _).mono ?_
          rintro e w1 ⟨rfl, hc1⟩
          have G1 := hc1.heap G0 (fun x => x)
          have HC1 := Lib.hid (HC0.out.no hc1)
          clear hc1
          obtain ⟨c10, c11, c12⟩ := heap3 G1
          go_wp2_with fail
          refine (HQ.out _).mono ?_
          rintro e w2 ⟨rfl, hc2⟩
          have G2 := hc2.heap G1 (fun x => x)
          have HC2 := Lib.hid (HC1.out.no hc2)
          clear hc2
          obtain ⟨c20, c21, c22⟩ := heap3 G2
          go_wp2
          go_ret
          exact ⟨by rw [HN.out]; try rfl, HC2.out⟩
end Go.Proofs.YtcomcoolmabmgaaDoor

