/-
  DERIVED. GIVEN WITH THE SEED: THE CARDS: each row of YtcomcoolmabmgaaDoorRows.lean that lists a variable, with what it lists TIED to the program's text (the seventh form; the later family's looks); each row that meets fmt, with fmt's text TOLD by the authors' own Lean function (tested against real Go, not proved from fmt's source: count such statements apart). THE CARD IS WHAT COUNTS. Prove the row's statement (the work); the ties are given (YtcomcoolmabmgaaDoorTie.lean); close each card by the builder's one call (the guide's Derived/Test/ToyasCard.lean, 'card_holds'). Laid BY PROGRAM, IN A SANDBOX (cutbox-door.mjs). By AI agents, Wed Nov 11 2026. No macro, syntax, notation, axiom, sorry.
-/
import Derived.Test.YtcomcoolmabmgaaDoorRows
import GoSem.ClaimSeven
namespace Go.Proofs.YtcomcoolmabmgaaDoor
namespace Rows

/-- THE TIED CARD OF 'espalierlaw13.RuleReads'. -/
def ruleReadsCard : Claim7 := { stood := { row := ruleReadsRow, standIns := [], harness := (true, "70a02aad574eeb706440d41aba290131089a7de1101305a66e95fccd3ec926bc"), looks := true }, kinds := [], alts := [], laidByText := true, laidKinds := [.data, .pinned], laidTests := true, laidLooks := .later }
def RuleReadsCardSaid : Prop := Claim7.holds Tryd.pinned (.plain (OpenSpec.ofChange ruleReadsSpec)) ruleReadsCard

/-- THE TIED CARD OF 'espalierlaw13.RuleLines'. -/
def ruleLinesCard : Claim7 := { stood := { row := ruleLinesRow, standIns := [], harness := (true, "70a02aad574eeb706440d41aba290131089a7de1101305a66e95fccd3ec926bc"), looks := true }, kinds := [], alts := [], laidByText := true, laidKinds := [.data, .pinned], laidTests := true, laidLooks := .later }
def RuleLinesCardSaid : Prop := Claim7.holds Tryd.pinned (.plain (OpenSpec.ofChange ruleLinesSpec)) ruleLinesCard

/-- THE TIED CARD OF 'espalierlaw13.RuleBack'. -/
def ruleBackCard : Claim7 := { stood := { row := ruleBackRow, standIns := [], harness := (true, "70a02aad574eeb706440d41aba290131089a7de1101305a66e95fccd3ec926bc"), looks := true }, kinds := [], alts := [], laidByText := true, laidKinds := [.data, .pinned], laidTests := true, laidLooks := .later }
def RuleBackCardSaid : Prop := Claim7.holds Tryd.pinned (.plain (OpenSpec.ofChange ruleBackSpec)) ruleBackCard

/-- THE TIED CARD OF 'espalierlaw13.RuleDress'. -/
def ruleDressCard : Claim7 := { stood := { row := ruleDressRow, standIns := [], harness := (true, "70a02aad574eeb706440d41aba290131089a7de1101305a66e95fccd3ec926bc"), looks := true }, kinds := [], alts := [], laidByText := true, laidKinds := [.data, .pinned], laidTests := true, laidLooks := .later }
def RuleDressCardSaid : Prop := Claim7.holds Tryd.pinned (.plain (OpenSpec.ofChange ruleDressSpec)) ruleDressCard

/-- THE TIED CARD OF 'espalierlaw05.QuoteNumbers'. -/
def quoteNumbersCard : Claim7 := { stood := { row := quoteNumbersRow, standIns := [], harness := (true, "70a02aad574eeb706440d41aba290131089a7de1101305a66e95fccd3ec926bc"), looks := true }, kinds := [], alts := [], laidByText := true, laidKinds := [.data, .data, .data, .sentinel, .sentinel], laidTests := true, laidLooks := .later }
def QuoteNumbersCardSaid : Prop := Claim7.holds Tryd.pinned (.plain (OpenSpec.ofChange quoteNumbersSpec)) quoteNumbersCard

/-- THE SECOND FORM's CARD OF 'espalierlaw13.RuleReads'. -/
def ruleReadsUptoCard : Claim7 := { stood := { row := ruleReadsUptoRow, standIns := [], harness := (true, "70a02aad574eeb706440d41aba290131089a7de1101305a66e95fccd3ec926bc"), looks := true }, kinds := [], alts := [], laidByText := true, laidKinds := [.data, .pinned], laidTests := true, laidLooks := .later }
def RuleReadsUptoCardSaid : Prop := Claim7.holds Tryd.pinned (.plain (OpenSpec.upto ruleReadsSpec)) ruleReadsUptoCard

/-- THE SECOND FORM's CARD OF 'espalierlaw13.RuleLines'. -/
def ruleLinesUptoCard : Claim7 := { stood := { row := ruleLinesUptoRow, standIns := [], harness := (true, "70a02aad574eeb706440d41aba290131089a7de1101305a66e95fccd3ec926bc"), looks := true }, kinds := [], alts := [], laidByText := true, laidKinds := [.data, .pinned], laidTests := true, laidLooks := .later }
def RuleLinesUptoCardSaid : Prop := Claim7.holds Tryd.pinned (.plain (OpenSpec.upto ruleLinesSpec)) ruleLinesUptoCard

/-- THE SECOND FORM's CARD OF 'espalierlaw13.RuleBack'. -/
def ruleBackUptoCard : Claim7 := { stood := { row := ruleBackUptoRow, standIns := [], harness := (true, "70a02aad574eeb706440d41aba290131089a7de1101305a66e95fccd3ec926bc"), looks := true }, kinds := [], alts := [], laidByText := true, laidKinds := [.data, .pinned], laidTests := true, laidLooks := .later }
def RuleBackUptoCardSaid : Prop := Claim7.holds Tryd.pinned (.plain (OpenSpec.upto ruleBackSpec)) ruleBackUptoCard

/-- THE SECOND FORM's CARD OF 'espalierlaw13.RuleDress'. -/
def ruleDressUptoCard : Claim7 := { stood := { row := ruleDressUptoRow, standIns := [], harness := (true, "70a02aad574eeb706440d41aba290131089a7de1101305a66e95fccd3ec926bc"), looks := true }, kinds := [], alts := [], laidByText := true, laidKinds := [.data, .pinned], laidTests := true, laidLooks := .later }
def RuleDressUptoCardSaid : Prop := Claim7.holds Tryd.pinned (.plain (OpenSpec.upto ruleDressSpec)) ruleDressUptoCard

/-- THE SECOND FORM's CARD OF 'espalierlaw05.QuoteNumbers'. -/
def quoteNumbersUptoCard : Claim7 := { stood := { row := quoteNumbersUptoRow, standIns := [], harness := (true, "70a02aad574eeb706440d41aba290131089a7de1101305a66e95fccd3ec926bc"), looks := true }, kinds := [], alts := [], laidByText := true, laidKinds := [.data, .data, .data, .sentinel, .sentinel], laidTests := true, laidLooks := .later }
def QuoteNumbersUptoCardSaid : Prop := Claim7.holds Tryd.pinned (.plain (OpenSpec.upto quoteNumbersSpec)) quoteNumbersUptoCard
end Rows
end Go.Proofs.YtcomcoolmabmgaaDoor
