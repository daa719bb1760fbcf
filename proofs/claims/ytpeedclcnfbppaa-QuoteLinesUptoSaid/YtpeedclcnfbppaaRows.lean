/-
  No cell of these rows narrows 'for every input' (looked for: loops, veiled, ifaces, maps, wideKeys, modest, calm, conditions, laid).
  DERIVED. THE GIVEN ROWS OF THIS SEAT. 6 by the template 'for every input the law returns true; each argument reads behind the call as it read before'; 0 by the template 'total and deterministic' (their statements: YtpeedclcnfbppaaTotals.lean).
  GIVEN WITH THE SEED: the statements are not yours to turn. If you find one false, say at which input.
  Laid BY PROGRAM, IN A SANDBOX (cutbox-rows.mjs): the forced cells as the released guide's own fill.sh prints them over the translation 1846755e9c23ac1f… (all of the seat's roots in one cut). By AI agents, Wed Nov 11 2026. No macro, syntax, notation, axiom, sorry.
-/
import Derived.Test.YtpeedclcnfbppaaChecked
import GoSem.Claim
import GoSem.ClaimJoined
import GoSem.ClaimMapViews
import Derived.JoinedTies
import Derived.KernelRfl
namespace Go.Proofs.Ytpeedclcnfbppaa
/- THE CELL 'sum', in the pinned program and in every row, IS THE sha256 OF THE DUMP (.gsa) THAT YtpeedclcnfbppaaProg.lean LOADS. Nothing in Lean hashes anything: it is a label: what it is worth is what the hold of that sum in a sandbox is worth. -/
noncomputable def Try.pinned : Pinned := { name := "ytpeedclcnfbppaa", sum := "1846755e9c23ac1f2eaa03da9b4580fb7abf5f2a36053b30ac9a1999a316a6aa", checked := Try.checked }
namespace Rows
def none {H : Type} : Left H := { results := [], args := [] }

/-- 'espalierlaw05.QuoteWords': WHATEVER THE INPUT: true; the input reads as it did. -/
def quoteWordsSpec : ChangeSpec := { name := "quoteWords", fn := fun _ => fun
  | [d] => { results := [.lit (.bool true)], args := [d] }
  | _ => none }
def quoteWordsRow : OpenClaim := { program := "ytpeedclcnfbppaa", sum := "1846755e9c23ac1f2eaa03da9b4580fb7abf5f2a36053b30ac9a1999a316a6aa", func := "espalier/espalierlaw05.QuoteWords", spec := "quoteWords", inPlace := ["internal/bytealg.IndexByteString"], apart := false }
def QuoteWordsSaid : Prop := quoteWordsRow.holds Try.pinned (OpenSpec.ofChange quoteWordsSpec)

/-- ITS FALSE NEIGHBOUR: 'it returns false'. Refute it at one input. -/
def quoteWordsWrong : ChangeSpec := { name := "quoteWords", fn := fun _ => fun
  | [d] => { results := [.lit (.bool false)], args := [d] }
  | _ => none }
def QuoteWordsWrongFalsely : Prop := quoteWordsRow.holds Try.pinned (OpenSpec.ofChange quoteWordsWrong)

/-- 'espalierlaw05.QuoteRight': WHATEVER THE INPUT: true; the input reads as it did. -/
def quoteRightSpec : ChangeSpec := { name := "quoteRight", fn := fun _ => fun
  | [d] => { results := [.lit (.bool true)], args := [d] }
  | _ => none }
def quoteRightRow : OpenClaim := { program := "ytpeedclcnfbppaa", sum := "1846755e9c23ac1f2eaa03da9b4580fb7abf5f2a36053b30ac9a1999a316a6aa", func := "espalier/espalierlaw05.QuoteRight", spec := "quoteRight", inPlace := ["internal/bytealg.IndexByteString"], apart := false }
def QuoteRightSaid : Prop := quoteRightRow.holds Try.pinned (OpenSpec.ofChange quoteRightSpec)

/-- ITS FALSE NEIGHBOUR: 'it returns false'. Refute it at one input. -/
def quoteRightWrong : ChangeSpec := { name := "quoteRight", fn := fun _ => fun
  | [d] => { results := [.lit (.bool false)], args := [d] }
  | _ => none }
def QuoteRightWrongFalsely : Prop := quoteRightRow.holds Try.pinned (OpenSpec.ofChange quoteRightWrong)

/-- 'espalierlaw05.QuoteTexts': WHATEVER THE INPUT: true; the input reads as it did. -/
def quoteTextsSpec : ChangeSpec := { name := "quoteTexts", fn := fun _ => fun
  | [d] => { results := [.lit (.bool true)], args := [d] }
  | _ => none }
def quoteTextsRow : OpenClaim := { program := "ytpeedclcnfbppaa", sum := "1846755e9c23ac1f2eaa03da9b4580fb7abf5f2a36053b30ac9a1999a316a6aa", func := "espalier/espalierlaw05.QuoteTexts", spec := "quoteTexts", inPlace := ["internal/bytealg.IndexByteString"], apart := false }
def QuoteTextsSaid : Prop := quoteTextsRow.holds Try.pinned (OpenSpec.ofChange quoteTextsSpec)

/-- ITS FALSE NEIGHBOUR: 'it returns false'. Refute it at one input. -/
def quoteTextsWrong : ChangeSpec := { name := "quoteTexts", fn := fun _ => fun
  | [d] => { results := [.lit (.bool false)], args := [d] }
  | _ => none }
def QuoteTextsWrongFalsely : Prop := quoteTextsRow.holds Try.pinned (OpenSpec.ofChange quoteTextsWrong)

/-- 'espalierlaw05.QuoteBack': WHATEVER THE INPUT: true; the input reads as it did. -/
def quoteBackSpec : ChangeSpec := { name := "quoteBack", fn := fun _ => fun
  | [d] => { results := [.lit (.bool true)], args := [d] }
  | _ => none }
def quoteBackRow : OpenClaim := { program := "ytpeedclcnfbppaa", sum := "1846755e9c23ac1f2eaa03da9b4580fb7abf5f2a36053b30ac9a1999a316a6aa", func := "espalier/espalierlaw05.QuoteBack", spec := "quoteBack", inPlace := ["internal/bytealg.IndexByteString", "internal/abi.NoEscape", "internal/bytealg.MakeNoZero"], apart := false }
def QuoteBackSaid : Prop := quoteBackRow.holds Try.pinned (OpenSpec.ofChange quoteBackSpec)

/-- ITS FALSE NEIGHBOUR: 'it returns false'. Refute it at one input. -/
def quoteBackWrong : ChangeSpec := { name := "quoteBack", fn := fun _ => fun
  | [d] => { results := [.lit (.bool false)], args := [d] }
  | _ => none }
def QuoteBackWrongFalsely : Prop := quoteBackRow.holds Try.pinned (OpenSpec.ofChange quoteBackWrong)

/-- 'espalierlaw05.QuoteLines': WHATEVER THE INPUT: true; the input reads as it did. -/
def quoteLinesSpec : ChangeSpec := { name := "quoteLines", fn := fun _ => fun
  | [d1, d2] => { results := [.lit (.bool true)], args := [d1, d2] }
  | _ => none }
def quoteLinesRow : OpenClaim := { program := "ytpeedclcnfbppaa", sum := "1846755e9c23ac1f2eaa03da9b4580fb7abf5f2a36053b30ac9a1999a316a6aa", func := "espalier/espalierlaw05.QuoteLines", spec := "quoteLines", inPlace := ["internal/bytealg.IndexByteString", "internal/bytealg.IndexString"], unfollowed := true, recurses := true, named := ["internal/bytealg.MaxLen"], apart := false }
def QuoteLinesSaid : Prop := quoteLinesRow.holds Try.pinned (OpenSpec.ofChange quoteLinesSpec)

/-- ITS FALSE NEIGHBOUR: 'it returns false'. Refute it at one input. -/
def quoteLinesWrong : ChangeSpec := { name := "quoteLines", fn := fun _ => fun
  | [d1, d2] => { results := [.lit (.bool false)], args := [d1, d2] }
  | _ => none }
def QuoteLinesWrongFalsely : Prop := quoteLinesRow.holds Try.pinned (OpenSpec.ofChange quoteLinesWrong)

/-- 'espalierlaw05.QuoteParts': WHATEVER THE INPUT: true; the input reads as it did. -/
def quotePartsSpec : ChangeSpec := { name := "quoteParts", fn := fun _ => fun
  | [d] => { results := [.lit (.bool true)], args := [d] }
  | _ => none }
def quotePartsRow : OpenClaim := { program := "ytpeedclcnfbppaa", sum := "1846755e9c23ac1f2eaa03da9b4580fb7abf5f2a36053b30ac9a1999a316a6aa", func := "espalier/espalierlaw05.QuoteParts", spec := "quoteParts", inPlace := ["internal/bytealg.IndexByteString", "internal/bytealg.IndexString"], unfollowed := true, recurses := true, named := ["internal/bytealg.MaxLen"], apart := false }
def QuotePartsSaid : Prop := quotePartsRow.holds Try.pinned (OpenSpec.ofChange quotePartsSpec)

/-- ITS FALSE NEIGHBOUR: 'it returns false'. Refute it at one input. -/
def quotePartsWrong : ChangeSpec := { name := "quoteParts", fn := fun _ => fun
  | [d] => { results := [.lit (.bool false)], args := [d] }
  | _ => none }
def QuotePartsWrongFalsely : Prop := quotePartsRow.holds Try.pinned (OpenSpec.ofChange quotePartsWrong)

/- THE SECOND FORM. 'bulk': how many values and letters a reading holds, each counted each time it is reached (what is shared counts as often as it is met; a slice's spare places count too). A statement '..UptoSaid' is the law's where the arguments, and the package variables that the reading takes, are together of bulk at most 1048576: NARROWER than '..Said'. Prove '..Said' where nothing that the law and all that it calls make is longer than what came in: it says more and counts as full. Else prove '..UptoSaid'. A law counts once. -/
mutual
def uptoBulk {H : Type} : DataW H → Nat
  | .lit (.string bytes) => bytes.length + 1
  | .lit _ => 1
  | .nil => 1
  | .ptr d => uptoBulk d + 1
  | .slice elems spare => uptoBulkAll elems + uptoBulkAll spare + 1
  | .agg parts => uptoBulkAll parts + 1
  | .iface _ d => uptoBulk d + 1
  | .map entries => uptoBulkEntries entries + 1
  | .held _ => 1
def uptoBulkAll {H : Type} : List (DataW H) → Nat
  | [] => 0
  | d :: r => uptoBulk d + uptoBulkAll r
def uptoBulkEntries {H : Type} : List (Lit × DataW H) → Nat
  | [] => 0
  | x :: r => uptoBulkEntry x + uptoBulkEntries r
def uptoBulkEntry {H : Type} : Lit × DataW H → Nat
  | (.string bytes, d) => bytes.length + uptoBulk d + 1
  | (_, d) => uptoBulk d + 1
 end
def uptoSmall : (H : Type) → List (DataW H) → Bool := fun _ ds => decide (uptoBulkAll ds ≤ 1048576)
def OpenSpec.upto (s : _root_.Go.ChangeSpec) : _root_.Go.OpenSpec := { _root_.Go.OpenSpec.ofChange s with cond := some uptoSmall }

/-- 'espalierlaw05.QuoteWords', WHERE WHAT IT READS IS OF BULK AT MOST 1048576: true; the input reads as it did. -/
def quoteWordsUptoRow : OpenClaim := { program := "ytpeedclcnfbppaa", sum := "1846755e9c23ac1f2eaa03da9b4580fb7abf5f2a36053b30ac9a1999a316a6aa", func := "espalier/espalierlaw05.QuoteWords", spec := "quoteWords", inPlace := ["internal/bytealg.IndexByteString"], apart := false, narrowed := true }
def QuoteWordsUptoSaid : Prop := quoteWordsUptoRow.holds Try.pinned (OpenSpec.upto quoteWordsSpec)

/-- 'espalierlaw05.QuoteRight', WHERE WHAT IT READS IS OF BULK AT MOST 1048576: true; the input reads as it did. -/
def quoteRightUptoRow : OpenClaim := { program := "ytpeedclcnfbppaa", sum := "1846755e9c23ac1f2eaa03da9b4580fb7abf5f2a36053b30ac9a1999a316a6aa", func := "espalier/espalierlaw05.QuoteRight", spec := "quoteRight", inPlace := ["internal/bytealg.IndexByteString"], apart := false, narrowed := true }
def QuoteRightUptoSaid : Prop := quoteRightUptoRow.holds Try.pinned (OpenSpec.upto quoteRightSpec)

/-- 'espalierlaw05.QuoteTexts', WHERE WHAT IT READS IS OF BULK AT MOST 1048576: true; the input reads as it did. -/
def quoteTextsUptoRow : OpenClaim := { program := "ytpeedclcnfbppaa", sum := "1846755e9c23ac1f2eaa03da9b4580fb7abf5f2a36053b30ac9a1999a316a6aa", func := "espalier/espalierlaw05.QuoteTexts", spec := "quoteTexts", inPlace := ["internal/bytealg.IndexByteString"], apart := false, narrowed := true }
def QuoteTextsUptoSaid : Prop := quoteTextsUptoRow.holds Try.pinned (OpenSpec.upto quoteTextsSpec)

/-- 'espalierlaw05.QuoteBack', WHERE WHAT IT READS IS OF BULK AT MOST 1048576: true; the input reads as it did. -/
def quoteBackUptoRow : OpenClaim := { program := "ytpeedclcnfbppaa", sum := "1846755e9c23ac1f2eaa03da9b4580fb7abf5f2a36053b30ac9a1999a316a6aa", func := "espalier/espalierlaw05.QuoteBack", spec := "quoteBack", inPlace := ["internal/bytealg.IndexByteString", "internal/abi.NoEscape", "internal/bytealg.MakeNoZero"], apart := false, narrowed := true }
def QuoteBackUptoSaid : Prop := quoteBackUptoRow.holds Try.pinned (OpenSpec.upto quoteBackSpec)

/-- 'espalierlaw05.QuoteLines', WHERE WHAT IT READS IS OF BULK AT MOST 1048576: true; the input reads as it did. -/
def quoteLinesUptoRow : OpenClaim := { program := "ytpeedclcnfbppaa", sum := "1846755e9c23ac1f2eaa03da9b4580fb7abf5f2a36053b30ac9a1999a316a6aa", func := "espalier/espalierlaw05.QuoteLines", spec := "quoteLines", inPlace := ["internal/bytealg.IndexByteString", "internal/bytealg.IndexString"], unfollowed := true, recurses := true, named := ["internal/bytealg.MaxLen"], apart := false, narrowed := true }
def QuoteLinesUptoSaid : Prop := quoteLinesUptoRow.holds Try.pinned (OpenSpec.upto quoteLinesSpec)

/-- 'espalierlaw05.QuoteParts', WHERE WHAT IT READS IS OF BULK AT MOST 1048576: true; the input reads as it did. -/
def quotePartsUptoRow : OpenClaim := { program := "ytpeedclcnfbppaa", sum := "1846755e9c23ac1f2eaa03da9b4580fb7abf5f2a36053b30ac9a1999a316a6aa", func := "espalier/espalierlaw05.QuoteParts", spec := "quoteParts", inPlace := ["internal/bytealg.IndexByteString", "internal/bytealg.IndexString"], unfollowed := true, recurses := true, named := ["internal/bytealg.MaxLen"], apart := false, narrowed := true }
def QuotePartsUptoSaid : Prop := quotePartsUptoRow.holds Try.pinned (OpenSpec.upto quotePartsSpec)

end Rows
end Go.Proofs.Ytpeedclcnfbppaa
