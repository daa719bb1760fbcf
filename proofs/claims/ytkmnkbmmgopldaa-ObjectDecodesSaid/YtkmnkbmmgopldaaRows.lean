/-
  No cell of these rows narrows 'for every input' (looked for: loops, veiled, ifaces, maps, wideKeys, modest, calm, conditions, laid).
  DERIVED. THE GIVEN ROWS OF THIS SEAT. 10 by the template 'for every input the law returns true; each argument reads behind the call as it read before'; 0 by the template 'total and deterministic' (their statements: YtkmnkbmmgopldaaTotals.lean).
  GIVEN WITH THE SEED: the statements are not yours to turn. If you find one false, say at which input.
  Laid BY PROGRAM, IN A SANDBOX (cutbox-rows.mjs): the forced cells as the released guide's own fill.sh prints them over the translation 057e6c8b4e7d79d4… (all of the seat's roots in one cut). By AI agents, Wed Nov 11 2026. No macro, syntax, notation, axiom, sorry.
-/
import Derived.Test.YtkmnkbmmgopldaaChecked
import GoSem.Claim
import GoSem.ClaimJoined
import GoSem.ClaimMapViews
import Derived.JoinedTies
import Derived.KernelRfl
namespace Go.Proofs.Ytkmnkbmmgopldaa
/- THE CELL 'sum', in the pinned program and in every row, IS THE sha256 OF THE DUMP (.gsa) THAT YtkmnkbmmgopldaaProg.lean LOADS. Nothing in Lean hashes anything: it is a label: what it is worth is what the hold of that sum in a sandbox is worth. -/
noncomputable def Try.pinned : Pinned := { name := "ytkmnkbmmgopldaa", sum := "057e6c8b4e7d79d4d4d29231be301074082e750b5d6a8ecb2d936a1afdcf5547", checked := Try.checked }
namespace Rows
def none {H : Type} : Left H := { results := [], args := [] }

/-- 'espalierlaw06.ObjectRunes': WHATEVER THE INPUT: true; the input reads as it did. -/
def objectRunesSpec : ChangeSpec := { name := "objectRunes", fn := fun _ => fun
  | [d1, d2] => { results := [.lit (.bool true)], args := [d1, d2] }
  | _ => none }
def objectRunesRow : OpenClaim := { program := "ytkmnkbmmgopldaa", sum := "057e6c8b4e7d79d4d4d29231be301074082e750b5d6a8ecb2d936a1afdcf5547", func := "espalier/espalierlaw06.ObjectRunes", spec := "objectRunes", unfollowed := true, recurses := true, apart := false }
def ObjectRunesSaid : Prop := objectRunesRow.holds Try.pinned (OpenSpec.ofChange objectRunesSpec)

/-- ITS FALSE NEIGHBOUR: 'it returns false'. Refute it at one input. -/
def objectRunesWrong : ChangeSpec := { name := "objectRunes", fn := fun _ => fun
  | [d1, d2] => { results := [.lit (.bool false)], args := [d1, d2] }
  | _ => none }
def ObjectRunesWrongFalsely : Prop := objectRunesRow.holds Try.pinned (OpenSpec.ofChange objectRunesWrong)

/-- 'espalierlaw06.ObjectMust': WHATEVER THE INPUT: true; the input reads as it did. -/
def objectMustSpec : ChangeSpec := { name := "objectMust", fn := fun _ => fun
  | [d1, d2, d3] => { results := [.lit (.bool true)], args := [d1, d2, d3] }
  | _ => none }
def objectMustRow : OpenClaim := { program := "ytkmnkbmmgopldaa", sum := "057e6c8b4e7d79d4d4d29231be301074082e750b5d6a8ecb2d936a1afdcf5547", func := "espalier/espalierlaw06.ObjectMust", spec := "objectMust", unfollowed := true, recurses := true, apart := false }
def ObjectMustSaid : Prop := objectMustRow.holds Try.pinned (OpenSpec.ofChange objectMustSpec)

/-- ITS FALSE NEIGHBOUR: 'it returns false'. Refute it at one input. -/
def objectMustWrong : ChangeSpec := { name := "objectMust", fn := fun _ => fun
  | [d1, d2, d3] => { results := [.lit (.bool false)], args := [d1, d2, d3] }
  | _ => none }
def ObjectMustWrongFalsely : Prop := objectMustRow.holds Try.pinned (OpenSpec.ofChange objectMustWrong)

/-- 'espalierlaw06.ObjectBytes': WHATEVER THE INPUT: true; the input reads as it did. -/
def objectBytesSpec : ChangeSpec := { name := "objectBytes", fn := fun _ => fun
  | [d1, d2] => { results := [.lit (.bool true)], args := [d1, d2] }
  | _ => none }
def objectBytesRow : OpenClaim := { program := "ytkmnkbmmgopldaa", sum := "057e6c8b4e7d79d4d4d29231be301074082e750b5d6a8ecb2d936a1afdcf5547", func := "espalier/espalierlaw06.ObjectBytes", spec := "objectBytes", unfollowed := true, recurses := true, apart := false }
def ObjectBytesSaid : Prop := objectBytesRow.holds Try.pinned (OpenSpec.ofChange objectBytesSpec)

/-- ITS FALSE NEIGHBOUR: 'it returns false'. Refute it at one input. -/
def objectBytesWrong : ChangeSpec := { name := "objectBytes", fn := fun _ => fun
  | [d1, d2] => { results := [.lit (.bool false)], args := [d1, d2] }
  | _ => none }
def ObjectBytesWrongFalsely : Prop := objectBytesRow.holds Try.pinned (OpenSpec.ofChange objectBytesWrong)

/-- 'espalierlaw06.ObjectDecodes': WHATEVER THE INPUT: true; the input reads as it did. -/
def objectDecodesSpec : ChangeSpec := { name := "objectDecodes", fn := fun _ => fun
  | [d] => { results := [.lit (.bool true)], args := [d] }
  | _ => none }
def objectDecodesRow : OpenClaim := { program := "ytkmnkbmmgopldaa", sum := "057e6c8b4e7d79d4d4d29231be301074082e750b5d6a8ecb2d936a1afdcf5547", func := "espalier/espalierlaw06.ObjectDecodes", spec := "objectDecodes", unfollowed := true, recurses := true, apart := false }
def ObjectDecodesSaid : Prop := objectDecodesRow.holds Try.pinned (OpenSpec.ofChange objectDecodesSpec)

/-- ITS FALSE NEIGHBOUR: 'it returns false'. Refute it at one input. -/
def objectDecodesWrong : ChangeSpec := { name := "objectDecodes", fn := fun _ => fun
  | [d] => { results := [.lit (.bool false)], args := [d] }
  | _ => none }
def ObjectDecodesWrongFalsely : Prop := objectDecodesRow.holds Try.pinned (OpenSpec.ofChange objectDecodesWrong)

/-- 'espalierlaw06.ObjectBack': WHATEVER THE INPUT: true; the input reads as it did. -/
def objectBackSpec : ChangeSpec := { name := "objectBack", fn := fun _ => fun
  | [d1, d2, d3] => { results := [.lit (.bool true)], args := [d1, d2, d3] }
  | _ => none }
def objectBackRow : OpenClaim := { program := "ytkmnkbmmgopldaa", sum := "057e6c8b4e7d79d4d4d29231be301074082e750b5d6a8ecb2d936a1afdcf5547", func := "espalier/espalierlaw06.ObjectBack", spec := "objectBack", unfollowed := true, recurses := true, apart := false }
def ObjectBackSaid : Prop := objectBackRow.holds Try.pinned (OpenSpec.ofChange objectBackSpec)

/-- ITS FALSE NEIGHBOUR: 'it returns false'. Refute it at one input. -/
def objectBackWrong : ChangeSpec := { name := "objectBack", fn := fun _ => fun
  | [d1, d2, d3] => { results := [.lit (.bool false)], args := [d1, d2, d3] }
  | _ => none }
def ObjectBackWrongFalsely : Prop := objectBackRow.holds Try.pinned (OpenSpec.ofChange objectBackWrong)

/-- 'espalierlaw06.ObjectSame': WHATEVER THE INPUT: true; the input reads as it did. -/
def objectSameSpec : ChangeSpec := { name := "objectSame", fn := fun _ => fun
  | [d1, d2, d3] => { results := [.lit (.bool true)], args := [d1, d2, d3] }
  | _ => none }
def objectSameRow : OpenClaim := { program := "ytkmnkbmmgopldaa", sum := "057e6c8b4e7d79d4d4d29231be301074082e750b5d6a8ecb2d936a1afdcf5547", func := "espalier/espalierlaw06.ObjectSame", spec := "objectSame", unfollowed := true, recurses := true, apart := false }
def ObjectSameSaid : Prop := objectSameRow.holds Try.pinned (OpenSpec.ofChange objectSameSpec)

/-- ITS FALSE NEIGHBOUR: 'it returns false'. Refute it at one input. -/
def objectSameWrong : ChangeSpec := { name := "objectSame", fn := fun _ => fun
  | [d1, d2, d3] => { results := [.lit (.bool false)], args := [d1, d2, d3] }
  | _ => none }
def ObjectSameWrongFalsely : Prop := objectSameRow.holds Try.pinned (OpenSpec.ofChange objectSameWrong)

/-- 'espalierlaw06.ObjectBlobs': WHATEVER THE INPUT: true; the input reads as it did. -/
def objectBlobsSpec : ChangeSpec := { name := "objectBlobs", fn := fun _ => fun
  | [d] => { results := [.lit (.bool true)], args := [d] }
  | _ => none }
def objectBlobsRow : OpenClaim := { program := "ytkmnkbmmgopldaa", sum := "057e6c8b4e7d79d4d4d29231be301074082e750b5d6a8ecb2d936a1afdcf5547", func := "espalier/espalierlaw06.ObjectBlobs", spec := "objectBlobs", unfollowed := true, recurses := true, apart := false }
def ObjectBlobsSaid : Prop := objectBlobsRow.holds Try.pinned (OpenSpec.ofChange objectBlobsSpec)

/-- ITS FALSE NEIGHBOUR: 'it returns false'. Refute it at one input. -/
def objectBlobsWrong : ChangeSpec := { name := "objectBlobs", fn := fun _ => fun
  | [d] => { results := [.lit (.bool false)], args := [d] }
  | _ => none }
def ObjectBlobsWrongFalsely : Prop := objectBlobsRow.holds Try.pinned (OpenSpec.ofChange objectBlobsWrong)

/-- 'espalierlaw06.ObjectOdd': WHATEVER THE INPUT: true; the input reads as it did. -/
def objectOddSpec : ChangeSpec := { name := "objectOdd", fn := fun _ => fun
  | [d1, d2] => { results := [.lit (.bool true)], args := [d1, d2] }
  | _ => none }
def objectOddRow : OpenClaim := { program := "ytkmnkbmmgopldaa", sum := "057e6c8b4e7d79d4d4d29231be301074082e750b5d6a8ecb2d936a1afdcf5547", func := "espalier/espalierlaw06.ObjectOdd", spec := "objectOdd", unfollowed := true, recurses := true, apart := false }
def ObjectOddSaid : Prop := objectOddRow.holds Try.pinned (OpenSpec.ofChange objectOddSpec)

/-- ITS FALSE NEIGHBOUR: 'it returns false'. Refute it at one input. -/
def objectOddWrong : ChangeSpec := { name := "objectOdd", fn := fun _ => fun
  | [d1, d2] => { results := [.lit (.bool false)], args := [d1, d2] }
  | _ => none }
def ObjectOddWrongFalsely : Prop := objectOddRow.holds Try.pinned (OpenSpec.ofChange objectOddWrong)

/-- 'espalierlaw06.ObjectTrees': WHATEVER THE INPUT: true; the input reads as it did. -/
def objectTreesSpec : ChangeSpec := { name := "objectTrees", fn := fun _ => fun
  | [d] => { results := [.lit (.bool true)], args := [d] }
  | _ => none }
def objectTreesRow : OpenClaim := { program := "ytkmnkbmmgopldaa", sum := "057e6c8b4e7d79d4d4d29231be301074082e750b5d6a8ecb2d936a1afdcf5547", func := "espalier/espalierlaw06.ObjectTrees", spec := "objectTrees", unfollowed := true, recurses := true, apart := false }
def ObjectTreesSaid : Prop := objectTreesRow.holds Try.pinned (OpenSpec.ofChange objectTreesSpec)

/-- ITS FALSE NEIGHBOUR: 'it returns false'. Refute it at one input. -/
def objectTreesWrong : ChangeSpec := { name := "objectTrees", fn := fun _ => fun
  | [d] => { results := [.lit (.bool false)], args := [d] }
  | _ => none }
def ObjectTreesWrongFalsely : Prop := objectTreesRow.holds Try.pinned (OpenSpec.ofChange objectTreesWrong)

/-- 'espalierlaw06.ObjectCommits': WHATEVER THE INPUT: true; the input reads as it did. -/
def objectCommitsSpec : ChangeSpec := { name := "objectCommits", fn := fun _ => fun
  | [d] => { results := [.lit (.bool true)], args := [d] }
  | _ => none }
def objectCommitsRow : OpenClaim := { program := "ytkmnkbmmgopldaa", sum := "057e6c8b4e7d79d4d4d29231be301074082e750b5d6a8ecb2d936a1afdcf5547", func := "espalier/espalierlaw06.ObjectCommits", spec := "objectCommits", unfollowed := true, recurses := true, apart := false }
def ObjectCommitsSaid : Prop := objectCommitsRow.holds Try.pinned (OpenSpec.ofChange objectCommitsSpec)

/-- ITS FALSE NEIGHBOUR: 'it returns false'. Refute it at one input. -/
def objectCommitsWrong : ChangeSpec := { name := "objectCommits", fn := fun _ => fun
  | [d] => { results := [.lit (.bool false)], args := [d] }
  | _ => none }
def ObjectCommitsWrongFalsely : Prop := objectCommitsRow.holds Try.pinned (OpenSpec.ofChange objectCommitsWrong)

/- THE SECOND FORM. 'bulk': how many values and letters a reading holds, each counted each time it is reached (what is shared counts as often as it is met; a slice's spare places count too). A statement '..UptoSaid' is the law's where the arguments, and the package variables that the reading takes, are together of bulk at most 1048576: NARROWER than '..Said'. Prove '..Said' where nothing that the law and all that it calls make is longer than what came in: it says more and counts as full. Else prove '..UptoSaid'. A law counts once. -/
mutual
def uptoBulk {H : Type} : DataW H → Nat
  | .lit (.string bytes) => bytes.length + 1
  | .lit _ => 1
  | .nil => 1
  | .ptr d => uptoBulk d + 1
  | .slice elems spare => uptoBulkAll elems + uptoBulkAll spare + 1
  | .agg parts => uptoBulkAll parts + 1
  | .iface _ d => uptoBulk d + 1
  | .map entries => uptoBulkEntries entries + 1
  | .held _ => 1
def uptoBulkAll {H : Type} : List (DataW H) → Nat
  | [] => 0
  | d :: r => uptoBulk d + uptoBulkAll r
def uptoBulkEntries {H : Type} : List (Lit × DataW H) → Nat
  | [] => 0
  | x :: r => uptoBulkEntry x + uptoBulkEntries r
def uptoBulkEntry {H : Type} : Lit × DataW H → Nat
  | (.string bytes, d) => bytes.length + uptoBulk d + 1
  | (_, d) => uptoBulk d + 1
 end
def uptoSmall : (H : Type) → List (DataW H) → Bool := fun _ ds => decide (uptoBulkAll ds ≤ 1048576)
def OpenSpec.upto (s : _root_.Go.ChangeSpec) : _root_.Go.OpenSpec := { _root_.Go.OpenSpec.ofChange s with cond := some uptoSmall }

/-- 'espalierlaw06.ObjectRunes', WHERE WHAT IT READS IS OF BULK AT MOST 1048576: true; the input reads as it did. -/
def objectRunesUptoRow : OpenClaim := { program := "ytkmnkbmmgopldaa", sum := "057e6c8b4e7d79d4d4d29231be301074082e750b5d6a8ecb2d936a1afdcf5547", func := "espalier/espalierlaw06.ObjectRunes", spec := "objectRunes", unfollowed := true, recurses := true, apart := false, narrowed := true }
def ObjectRunesUptoSaid : Prop := objectRunesUptoRow.holds Try.pinned (OpenSpec.upto objectRunesSpec)

/-- 'espalierlaw06.ObjectMust', WHERE WHAT IT READS IS OF BULK AT MOST 1048576: true; the input reads as it did. -/
def objectMustUptoRow : OpenClaim := { program := "ytkmnkbmmgopldaa", sum := "057e6c8b4e7d79d4d4d29231be301074082e750b5d6a8ecb2d936a1afdcf5547", func := "espalier/espalierlaw06.ObjectMust", spec := "objectMust", unfollowed := true, recurses := true, apart := false, narrowed := true }
def ObjectMustUptoSaid : Prop := objectMustUptoRow.holds Try.pinned (OpenSpec.upto objectMustSpec)

/-- 'espalierlaw06.ObjectBytes', WHERE WHAT IT READS IS OF BULK AT MOST 1048576: true; the input reads as it did. -/
def objectBytesUptoRow : OpenClaim := { program := "ytkmnkbmmgopldaa", sum := "057e6c8b4e7d79d4d4d29231be301074082e750b5d6a8ecb2d936a1afdcf5547", func := "espalier/espalierlaw06.ObjectBytes", spec := "objectBytes", unfollowed := true, recurses := true, apart := false, narrowed := true }
def ObjectBytesUptoSaid : Prop := objectBytesUptoRow.holds Try.pinned (OpenSpec.upto objectBytesSpec)

/-- 'espalierlaw06.ObjectDecodes', WHERE WHAT IT READS IS OF BULK AT MOST 1048576: true; the input reads as it did. -/
def objectDecodesUptoRow : OpenClaim := { program := "ytkmnkbmmgopldaa", sum := "057e6c8b4e7d79d4d4d29231be301074082e750b5d6a8ecb2d936a1afdcf5547", func := "espalier/espalierlaw06.ObjectDecodes", spec := "objectDecodes", unfollowed := true, recurses := true, apart := false, narrowed := true }
def ObjectDecodesUptoSaid : Prop := objectDecodesUptoRow.holds Try.pinned (OpenSpec.upto objectDecodesSpec)

/-- 'espalierlaw06.ObjectBack', WHERE WHAT IT READS IS OF BULK AT MOST 1048576: true; the input reads as it did. -/
def objectBackUptoRow : OpenClaim := { program := "ytkmnkbmmgopldaa", sum := "057e6c8b4e7d79d4d4d29231be301074082e750b5d6a8ecb2d936a1afdcf5547", func := "espalier/espalierlaw06.ObjectBack", spec := "objectBack", unfollowed := true, recurses := true, apart := false, narrowed := true }
def ObjectBackUptoSaid : Prop := objectBackUptoRow.holds Try.pinned (OpenSpec.upto objectBackSpec)

/-- 'espalierlaw06.ObjectSame', WHERE WHAT IT READS IS OF BULK AT MOST 1048576: true; the input reads as it did. -/
def objectSameUptoRow : OpenClaim := { program := "ytkmnkbmmgopldaa", sum := "057e6c8b4e7d79d4d4d29231be301074082e750b5d6a8ecb2d936a1afdcf5547", func := "espalier/espalierlaw06.ObjectSame", spec := "objectSame", unfollowed := true, recurses := true, apart := false, narrowed := true }
def ObjectSameUptoSaid : Prop := objectSameUptoRow.holds Try.pinned (OpenSpec.upto objectSameSpec)

/-- 'espalierlaw06.ObjectBlobs', WHERE WHAT IT READS IS OF BULK AT MOST 1048576: true; the input reads as it did. -/
def objectBlobsUptoRow : OpenClaim := { program := "ytkmnkbmmgopldaa", sum := "057e6c8b4e7d79d4d4d29231be301074082e750b5d6a8ecb2d936a1afdcf5547", func := "espalier/espalierlaw06.ObjectBlobs", spec := "objectBlobs", unfollowed := true, recurses := true, apart := false, narrowed := true }
def ObjectBlobsUptoSaid : Prop := objectBlobsUptoRow.holds Try.pinned (OpenSpec.upto objectBlobsSpec)

/-- 'espalierlaw06.ObjectOdd', WHERE WHAT IT READS IS OF BULK AT MOST 1048576: true; the input reads as it did. -/
def objectOddUptoRow : OpenClaim := { program := "ytkmnkbmmgopldaa", sum := "057e6c8b4e7d79d4d4d29231be301074082e750b5d6a8ecb2d936a1afdcf5547", func := "espalier/espalierlaw06.ObjectOdd", spec := "objectOdd", unfollowed := true, recurses := true, apart := false, narrowed := true }
def ObjectOddUptoSaid : Prop := objectOddUptoRow.holds Try.pinned (OpenSpec.upto objectOddSpec)

/-- 'espalierlaw06.ObjectTrees', WHERE WHAT IT READS IS OF BULK AT MOST 1048576: true; the input reads as it did. -/
def objectTreesUptoRow : OpenClaim := { program := "ytkmnkbmmgopldaa", sum := "057e6c8b4e7d79d4d4d29231be301074082e750b5d6a8ecb2d936a1afdcf5547", func := "espalier/espalierlaw06.ObjectTrees", spec := "objectTrees", unfollowed := true, recurses := true, apart := false, narrowed := true }
def ObjectTreesUptoSaid : Prop := objectTreesUptoRow.holds Try.pinned (OpenSpec.upto objectTreesSpec)

/-- 'espalierlaw06.ObjectCommits', WHERE WHAT IT READS IS OF BULK AT MOST 1048576: true; the input reads as it did. -/
def objectCommitsUptoRow : OpenClaim := { program := "ytkmnkbmmgopldaa", sum := "057e6c8b4e7d79d4d4d29231be301074082e750b5d6a8ecb2d936a1afdcf5547", func := "espalier/espalierlaw06.ObjectCommits", spec := "objectCommits", unfollowed := true, recurses := true, apart := false, narrowed := true }
def ObjectCommitsUptoSaid : Prop := objectCommitsUptoRow.holds Try.pinned (OpenSpec.upto objectCommitsSpec)

end Rows
end Go.Proofs.Ytkmnkbmmgopldaa
