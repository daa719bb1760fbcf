/-
  The walk of OctetBack in the form that the statement's closing takes.
-/
import Derived.Test.YtikfplfhndhjbaaOctetBack
import Derived.Test.YtikfplfhndhjbaaBulk
namespace Go.Proofs.Ytikfplfhndhjbaa
open Go.RowKit
set_option linter.unusedVariables false
set_option linter.unusedSimpArgs false

theorem encT_bulk {H : Type} (ts : List (List UInt8)) (h : Rows.uptoBulkAll (ts.map fun s => (DataW.lit (.string s) : DataW H)) ≤ 1048576) : (encT ts).length ≤ 11 * Rows.uptoBulkAll (ts.map fun s => (DataW.lit (.string s) : DataW H)) := by
  induction ts with
  | nil => simp [encT]
  | cons s t ih =>
    simp only [List.map_cons, Rows.uptoBulkAll, bulks.string_eq] at h ⊢
    have h1 := ih (by omega)
    have h2 := leb_len10 s.length (by omega)
    rw [encT_cons]
    simp only [List.length_append]
    omega
theorem texts_bound {H : Type} {d : DataW H} {ts : List (List UInt8)} {n : Nat} (hl : ts.length = n) (hd : ts = [] ∨ ∃ spare, d = .slice (ts.map fun s => .lit (.string s)) spare) (hb : Rows.uptoBulk d ≤ 1048576) : n ≤ 1048576 ∧ (encT ts).length ≤ 16777216 := by
  rcases hd with rfl | ⟨spare, rfl⟩
  · subst hl; exact ⟨by simp, by simp [encT]⟩
  · rw [bulks.slice_eq] at hb
    have h1 := encT_bulk (H := H) ts (by omega)
    have h2 := bulks.all_ge (H := H) (ts.map fun s => .lit (.string s))
    rw [List.length_map] at h2
    exact ⟨by omega, by omega⟩

theorem octetBack_walk (w : World)
    (An : Option Addr) (nn cn : Nat) (ns : List Nat) (hns : Sl u64v w (.slice An nn cn) ns) (hnx : ∀ x ∈ ns, x < 18446744073709551616) (hnn : nn ≤ 1048576)
    (At : Option Addr) (nt ct : Nat) (ts : List (List UInt8)) (hts : Sl strv w (.slice At nt ct) ts) (ht : nt ≤ 1048576 ∧ (encT ts).length ≤ 16777216) (cut : Int) (hc : (Lit.int .i64 cut).wf = true) :
    Calls Try.prog 9 #[.slice An nn cn, .slice At nt ct, .int .i64 cut] w fun e w' => e = .returned (.bool true) ∧ Below w.heap.size w w' := by
  have hb : -9223372036854775808 ≤ cut ∧ cut ≤ 9223372036854775807 := by simpa [Lit.wf, IntKind.min, IntKind.max, IntKind.signed, IntKind.bits] using hc
  exact (octetBack_core w An nn cn ns hns hnx At nt ct ts hts hnn ht.1 ht.2 cut hb.2).mono fun e w' h => ⟨h.1, h.2.below⟩
end Go.Proofs.Ytikfplfhndhjbaa
