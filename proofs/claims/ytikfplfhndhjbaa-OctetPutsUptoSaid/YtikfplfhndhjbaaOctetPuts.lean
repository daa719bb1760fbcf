/-
  The walk of OctetPuts: any bytes, number, text.
-/
import Derived.Test.YtikfplfhndhjbaaLaw01w
import Derived.Test.YtikfplfhndhjbaaRef1c
namespace Go.Proofs.Ytikfplfhndhjbaa
open Go.RowKit
set_option linter.unusedVariables false
set_option linter.unusedSimpArgs false

theorem OwnB.form {w : World} {base : Nat} {v : Value} {xs : List UInt8} (h : OwnB w base v xs) : ∃ A n c, v = .slice A n c ∧ Hid (xs.length = n) ∧ Hid (OwnB w base (.slice A n c) xs) := by
  obtain ⟨A, c, rfl, -, -⟩ := h.bytes.form
  exact ⟨A, _, c, rfl, rfl, h⟩

set_option maxRecDepth 100000 in
set_option maxHeartbeats 1600000 in
theorem octetPuts_core (w0 : World) (A0 : Option Addr) (n0 c0 : Nat) (xs : List UInt8) (x : Nat) (hx : x < 18446744073709551616) (s : ByteArray) (hb : Bytes w0 (.slice A0 n0 c0) xs) (hl : xs.length = n0) (hn : n0 ≤ 1048576) (hs : s.size ≤ 1048576) :
    Calls Try.prog 3 #[.slice A0 n0 c0, .int .u64 (x : Int), .string s] w0 fun e w' => e = .returned (.bool true) ∧ Chg No w0 w' := by
  have HB_b := Lib.hid hb
  have HL_b := Lib.hid hl
  have HX := Lib.hid hx
  have HLEB := Lib.hid (leb_len10 x hx)
  have HLES := Lib.hid (leb_len10 s.size (by omega))
  clear hb hl hx
  go_enter Try.func3, Try.ntmps3
  go_wp2_with fail
  refine (wakes_calls _).mono ?_
  rintro e w1 ⟨rfl, hc1⟩
  have HC1 := Lib.hid hc1
  clear hc1
  go_wp2_with fail
  refine (both_calls _ _ _ _ xs none 0 0 [] (HB_b.out.no HC1.out) HL_b.out (Bytes.nil _) rfl (by omega)).mono ?_
  rintro e w2 ⟨v_c, rfl, ho2, hc2⟩
  obtain ⟨A_c, n_c, c_c, rfl, HL_c, HO_c⟩ := ho2.form
  have HC2 := Lib.hid hc2
  have HB_c := Lib.hid HO_c.out.bytes
  clear hc2 ho2
  go_wp2_with fail
  refine (putuint_calls _ _ _ _ xs (HB_b.out.no (HC1.out.no HC2.out)) HL_b.out x _ rfl HX.out (by omega)).mono ?_
  rintro e w3 ⟨v_u, rfl, ho3, hc3⟩
  obtain ⟨A_u, n_u, c_u, rfl, HL_u, HO_u⟩ := ho3.form
  have HC3 := Lib.hid hc3
  have HB_u := Lib.hid HO_u.out.bytes
  clear hc3 ho3
  go_wp2_with fail
  refine (putword_calls _ _ _ _ xs (HB_b.out.no ((HC1.out.no HC2.out).no HC3.out)) HL_b.out x _ rfl HX.out (by omega)).mono ?_
  rintro e w4 ⟨v_w, rfl, ho4, hc4⟩
  obtain ⟨A_w, n_w, c_w, rfl, HL_w, HO_w⟩ := ho4.form
  have HC4 := Lib.hid hc4
  have HB_w := Lib.hid HO_w.out.bytes
  clear hc4 ho4
  go_wp2_with fail
  refine (puttext_calls _ _ _ _ xs (HB_b.out.no (((HC1.out.no HC2.out).no HC3.out).no HC4.out)) HL_b.out s (by omega)).mono ?_
  rintro e w5 ⟨v_t, rfl, ho5, hc5⟩
  obtain ⟨A_t, n_t, c_t, rfl, HL_t, HO_t⟩ := ho5.form
  have HC5 := Lib.hid hc5
  have HB_t := Lib.hid HO_t.out.bytes
  clear hc5 ho5
  go_wp2_with fail
  refine (refuint_calls _ x _ rfl HX.out).mono ?_
  rintro e w6 ⟨v_ru, rfl, ho6, hc6⟩
  obtain ⟨A_ru, n_ru, c_ru, rfl, HL_ru, HO_ru⟩ := ho6.form
  have HC6 := Lib.hid hc6
  have HB_ru := Lib.hid HO_ru.out.bytes
  clear hc6 ho6
  go_wp2_with fail
  refine (both_calls _ _ _ _ (xs ++ []) _ _ _ (leb x) (HB_c.out.no (((HC3.out.no HC4.out).no HC5.out).no HC6.out)) HL_c.out HB_ru.out HL_ru.out (by have h1 := HL_c.out; have h2 := HL_ru.out; have h3 := HL_b.out; have := HLEB.out; simp only [List.length_append, List.length_nil] at h1 h2; omega)).mono ?_
  rintro e w7 ⟨v_xu, rfl, ho7, hc7⟩
  obtain ⟨A_xu, n_xu, c_xu, rfl, HL_xu, HO_xu⟩ := ho7.form
  have HC7 := Lib.hid hc7
  have HB_xu := Lib.hid HO_xu.out.bytes
  clear hc7 ho7
  go_wp2_with fail
  refine (same_calls _ _ _ _ _ _ _ _ _ (HB_u.out.no (((HC4.out.no HC5.out).no HC6.out).no HC7.out)) HB_xu.out).mono ?_
  rintro e w' ⟨rfl, rfl⟩
  rw [show ((xs ++ leb x) == (xs ++ [] ++ leb x)) = true by simp]
  go_wp2_with fail
  refine (refword_calls _ x _ rfl HX.out).mono ?_
  rintro e w8 ⟨v_rw, rfl, ho8, hc8⟩
  obtain ⟨A_rw, n_rw, c_rw, rfl, HL_rw, HO_rw⟩ := ho8.form
  have HC8 := Lib.hid hc8
  have HB_rw := Lib.hid HO_rw.out.bytes
  clear hc8 ho8
  go_wp2_with fail
  refine (both_calls _ _ _ _ (xs ++ []) _ _ _ (wide x) (HB_c.out.no (((((HC3.out.no HC4.out).no HC5.out).no HC6.out).no HC7.out).no HC8.out)) HL_c.out HB_rw.out HL_rw.out (by have h1 := HL_c.out; have h2 := HL_rw.out; have h3 := HL_b.out; have := wide_len x; simp only [List.length_append, List.length_nil] at h1 h2; omega)).mono ?_
  rintro e w9 ⟨v_xw, rfl, ho9, hc9⟩
  obtain ⟨A_xw, n_xw, c_xw, rfl, HL_xw, HO_xw⟩ := ho9.form
  have HC9 := Lib.hid hc9
  have HB_xw := Lib.hid HO_xw.out.bytes
  clear hc9 ho9
  go_wp2_with fail
  refine (same_calls _ _ _ _ _ _ _ _ _ (HB_w.out.no ((((HC5.out.no HC6.out).no HC7.out).no HC8.out).no HC9.out)) HB_xw.out).mono ?_
  rintro e w' ⟨rfl, rfl⟩
  rw [show ((xs ++ wide x) == (xs ++ [] ++ wide x)) = true by simp]
  go_wp2_with fail
  refine (reftext_calls _ s (by omega)).mono ?_
  rintro e w10 ⟨v_rt, rfl, ho10, hc10⟩
  obtain ⟨A_rt, n_rt, c_rt, rfl, HL_rt, HO_rt⟩ := ho10.form
  have HC10 := Lib.hid hc10
  have HB_rt := Lib.hid HO_rt.out.bytes
  clear hc10 ho10
  go_wp2_with fail
  refine (both_calls _ _ _ _ (xs ++ []) _ _ _ ((leb s.size ++ s.data.toList)) (HB_c.out.no (((((((HC3.out.no HC4.out).no HC5.out).no HC6.out).no HC7.out).no HC8.out).no HC9.out).no HC10.out)) HL_c.out HB_rt.out HL_rt.out (by have h1 := HL_c.out; have h2 := HL_rt.out; have h3 := HL_b.out; have := HLES.out; have := size_list s; simp only [List.length_append, List.length_nil] at h1 h2; omega)).mono ?_
  rintro e w11 ⟨v_xt, rfl, ho11, hc11⟩
  obtain ⟨A_xt, n_xt, c_xt, rfl, HL_xt, HO_xt⟩ := ho11.form
  have HC11 := Lib.hid hc11
  have HB_xt := Lib.hid HO_xt.out.bytes
  clear hc11 ho11
  go_wp2_with fail
  refine (same_calls _ _ _ _ _ _ _ _ _ (HB_t.out.no (((((HC6.out.no HC7.out).no HC8.out).no HC9.out).no HC10.out).no HC11.out)) HB_xt.out).mono ?_
  rintro e w' ⟨rfl, rfl⟩
  rw [show ((xs ++ (leb s.size ++ s.data.toList)) == (xs ++ [] ++ (leb s.size ++ s.data.toList))) = true by simp]
  go_wp2_with fail
  refine (same_calls _ _ _ _ _ _ _ _ _ (HB_b.out.no ((((((((((HC1.out.no HC2.out).no HC3.out).no HC4.out).no HC5.out).no HC6.out).no HC7.out).no HC8.out).no HC9.out).no HC10.out).no HC11.out)) (HB_c.out.no ((((((((HC3.out.no HC4.out).no HC5.out).no HC6.out).no HC7.out).no HC8.out).no HC9.out).no HC10.out).no HC11.out))).mono ?_
  rintro e w' ⟨rfl, rfl⟩
  rw [show (xs == xs ++ []) = true by simp]
  go_wp2_with fail
  refine (wakes_calls _).mono ?_
  rintro e w12 ⟨rfl, hc12⟩
  have HC12 := Lib.hid hc12
  clear hc12
  go_wp2
  go_ret
  exact ⟨rfl, (((((((((((HC1.out.no HC2.out).no HC3.out).no HC4.out).no HC5.out).no HC6.out).no HC7.out).no HC8.out).no HC9.out).no HC10.out).no HC11.out).no HC12.out)⟩

theorem octetPuts_walk (w : World) (A0 : Option Addr) (n0 c0 : Nat) (xs : List UInt8) (hb : Bytes w (.slice A0 n0 c0) xs) (hl : xs.length = n0) (hn : n0 ≤ 1048576)
    (a1 : Int) (w1 : (Lit.int .u64 a1).wf = true) (s : ByteArray) (hs : s.size ≤ 1048576) :
    Calls Try.prog 3 #[.slice A0 n0 c0, .int .u64 a1, .string s] w fun e w' => e = .returned (.bool true) ∧ Below w.heap.size w w' := by
  have hb1 : 0 ≤ a1 ∧ a1 ≤ 18446744073709551615 := by simpa [Lit.wf, IntKind.min, IntKind.max, IntKind.signed, IntKind.bits] using w1
  obtain ⟨x, rfl⟩ := Int.eq_ofNat_of_zero_le hb1.1
  exact (octetPuts_core w A0 n0 c0 xs x (by omega) s hb hl hn hs).mono fun e w' h => ⟨h.1, h.2.below⟩
end Go.Proofs.Ytikfplfhndhjbaa
