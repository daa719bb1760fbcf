/-
  A map of one text's bytes, or of none: look-up and store.
-/
import Derived.Test.YtbbfjnfmfigcfaaRep
import Derived.RangeFuncBox
import Derived.MapKept
namespace Go.Proofs.Ytbbfjnfmfigcfaa
open Go.RowKit Go.MapKept
set_option linter.unusedVariables false
set_option linter.unusedSimpArgs false
set_option maxRecDepth 100000

/-- A map that has one file, or none. -/
def mapObj : Option (ByteArray × Value) → Obj
  | none => .map #[] 0
  | some (k, v) => .map #[{ key := .string k, val := v, born := 0 }] 1

theorem zeroBytes (w : World) : Sem.run Try.prog (zeroValue 22) w = .ok (.slice none 0 0) w := by
  first | rfl | (simp [go_sem]; done) | exact Try.zeroValue22 w

theorem ck (w : World) (k : ByteArray) (em : Bool) : Sem.run Try.prog (Instr.checkKey em 10000 9 (.string k)) w = .ok () w := run_checkKey (n := 9999) Try.underlying9 (by simp [IsKey]) em
theorem fk_none (w : World) (k : ByteArray) : Sem.run Try.prog (Instr.findKey 9 (.string k) []) w = .ok none w := run_findKey Try.underlying9 rfl
theorem fk_same (w : World) (k : ByteArray) (v : Value) : Sem.run Try.prog (Instr.findKey 9 (.string k) [{ key := .string k, val := v, born := 0 }]) w = .ok (some (0, v)) w := run_findKey Try.underlying9 (by
  have e : (k == k) = true := by first | exact beq_self_eq_true k | exact beq_self_eq_true k.data | (show (k.data == k.data) = true; simp) | (rw [RowKit.beq_bytes]; simp) | exact decide_eq_true rfl
  simp [Instr.findNow, Instr.sameNow, e])
theorem kts (w : World) (k : ByteArray) : Sem.run Try.prog (Instr.keyThatStays (.string k) (.string k)) w = .ok (.string k) w := run_keyThatStays (d := .string) (by simp [IsKey])

theorem look_none (w : World) (m : Nat) (k : ByteArray) (h : w.heap[m]? = some (mapObj none)) :
    Sem.run Try.prog (Instr.lookup 65 (.map (some m)) (.string k) true) w = .ok (.tuple #[.slice none 0 0, .bool false]) w := by
  have hb := Go.MapKept.run_getObj_map (P := Try.prog) (show w.heap[m]? = some (.map #[] 0) from h)
  simp [Instr.lookup, run_underlying Try.underlying65, hb, ck, fk_none, zeroBytes, Sem.run_bind, Sem.run_pure, Result.andThen]
theorem look_none1 (w : World) (m : Nat) (k : ByteArray) (h : w.heap[m]? = some (mapObj none)) :
    Sem.run Try.prog (Instr.lookup 65 (.map (some m)) (.string k) false) w = .ok (.slice none 0 0) w := by
  have hb := Go.MapKept.run_getObj_map (P := Try.prog) (show w.heap[m]? = some (.map #[] 0) from h)
  simp [Instr.lookup, run_underlying Try.underlying65, hb, ck, fk_none, zeroBytes, Sem.run_bind, Sem.run_pure, Result.andThen]
theorem look_same (w : World) (m : Nat) (k : ByteArray) (v : Value) (h : w.heap[m]? = some (mapObj (some (k, v)))) :
    Sem.run Try.prog (Instr.lookup 65 (.map (some m)) (.string k) true) w = .ok (.tuple #[v, .bool true]) w := by
  have hb := Go.MapKept.run_getObj_map (P := Try.prog) (show w.heap[m]? = some (.map #[{ key := .string k, val := v, born := 0 }] 1) from h)
  simp [Instr.lookup, run_underlying Try.underlying65, hb, ck, fk_same, Sem.run_bind, Sem.run_pure, Result.andThen]
theorem look_same1 (w : World) (m : Nat) (k : ByteArray) (v : Value) (h : w.heap[m]? = some (mapObj (some (k, v)))) :
    Sem.run Try.prog (Instr.lookup 65 (.map (some m)) (.string k) false) w = .ok v w := by
  have hb := Go.MapKept.run_getObj_map (P := Try.prog) (show w.heap[m]? = some (.map #[{ key := .string k, val := v, born := 0 }] 1) from h)
  simp [Instr.lookup, run_underlying Try.underlying65, hb, ck, fk_same, Sem.run_bind, Sem.run_pure, Result.andThen]
theorem update_none (w : World) (m : Nat) (k : ByteArray) (v : Value) (h : w.heap[m]? = some (mapObj none)) :
    Sem.run Try.prog (Instr.mapUpdate 65 (.map (some m)) (.string k) v) w = .ok () (w.putObj m (mapObj (some (k, v)))) := by
  have hb := Go.MapKept.run_getObj_map (P := Try.prog) (show w.heap[m]? = some (.map #[] 0) from h)
  have hs := fun o => Go.MapKept.run_setObj_map (P := Try.prog) o (show w.heap[m]? = some (.map #[] 0) from h)
  unfold mapObj
  simp [Instr.mapUpdate, run_underlying Try.underlying65, hb, hs, World.putObj, ck, fk_none, Sem.run_bind, Sem.run_pure, Result.andThen]
theorem update_same (w : World) (m : Nat) (k : ByteArray) (v v' : Value) (h : w.heap[m]? = some (mapObj (some (k, v)))) :
    Sem.run Try.prog (Instr.mapUpdate 65 (.map (some m)) (.string k) v') w = .ok () (w.putObj m (mapObj (some (k, v')))) := by
  have hb := Go.MapKept.run_getObj_map (P := Try.prog) (show w.heap[m]? = some (.map #[{ key := .string k, val := v, born := 0 }] 1) from h)
  have hs := fun o => Go.MapKept.run_setObj_map (P := Try.prog) o (show w.heap[m]? = some (.map #[{ key := .string k, val := v, born := 0 }] 1) from h)
  unfold mapObj
  simp [Instr.mapUpdate, run_underlying Try.underlying65, hb, hs, World.putObj, ck, fk_same, kts, Sem.run_bind, Sem.run_pure, Result.andThen]
end Go.Proofs.Ytbbfjnfmfigcfaa
