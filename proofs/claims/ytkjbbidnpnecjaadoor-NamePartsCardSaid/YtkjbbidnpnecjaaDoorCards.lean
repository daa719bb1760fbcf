/-
  DERIVED. GIVEN WITH THE SEED: THE CARDS: each row of YtkjbbidnpnecjaaDoorRows.lean that lists a variable, with what it lists TIED to the program's text (the seventh form; the later family's looks); each row that meets fmt, with fmt's text TOLD by the authors' own Lean function (tested against real Go, not proved from fmt's source: count such statements apart). THE CARD IS WHAT COUNTS. Prove the row's statement (the work); the ties are given (YtkjbbidnpnecjaaDoorTie.lean); close each card by the builder's one call (the guide's Derived/Test/ToyasCard.lean, 'card_holds'). Laid BY PROGRAM, IN A SANDBOX (cutbox-door.mjs). By AI agents, Wed Nov 11 2026. No macro, syntax, notation, axiom, sorry.
-/
import Derived.Test.YtkjbbidnpnecjaaDoorRows
import GoSem.ClaimSeven
namespace Go.Proofs.YtkjbbidnpnecjaaDoor
namespace Rows

/-- THE TIED CARD OF 'espalierlaw04.NameGo'. -/
def nameGoCard : Claim7 := { stood := { row := nameGoRow, standIns := [], harness := (true, "3f896c6799875cb80ca1995810817d712fd1134a143a9afd36ecde0fb33d3f81"), looks := false }, kinds := [], alts := [], laidByText := true, laidKinds := [.data, .pinned], laidTests := true, laidLooks := .later }
def NameGoCardSaid : Prop := Claim7.holds Tryd.pinned (.plain (OpenSpec.ofChange nameGoSpec)) nameGoCard

/-- THE TIED CARD OF 'espalierlaw04.NameChecks'. -/
def nameChecksCard : Claim7 := { stood := { row := nameChecksRow, standIns := [], harness := (true, "3f896c6799875cb80ca1995810817d712fd1134a143a9afd36ecde0fb33d3f81"), looks := false }, kinds := [], alts := [], laidByText := true, laidKinds := [.data, .pinned], laidTests := true, laidLooks := .later }
def NameChecksCardSaid : Prop := Claim7.holds Tryd.pinned (.plain (OpenSpec.ofChange nameChecksSpec)) nameChecksCard

/-- THE TIED CARD OF 'espalierlaw04.NameMakes'. -/
def nameMakesCard : Claim7 := { stood := { row := nameMakesRow, standIns := [], harness := (true, "3f896c6799875cb80ca1995810817d712fd1134a143a9afd36ecde0fb33d3f81"), looks := false }, kinds := [], alts := [], laidByText := true, laidKinds := [.data, .pinned], laidTests := true, laidLooks := .later }
def NameMakesCardSaid : Prop := Claim7.holds Tryd.pinned (.plain (OpenSpec.ofChange nameMakesSpec)) nameMakesCard

/-- THE TIED CARD OF 'espalierlaw04.NameMoves'. -/
def nameMovesCard : Claim7 := { stood := { row := nameMovesRow, standIns := [], harness := (true, "3f896c6799875cb80ca1995810817d712fd1134a143a9afd36ecde0fb33d3f81"), looks := false }, kinds := [], alts := [], laidByText := true, laidKinds := [.data, .pinned], laidTests := true, laidLooks := .later }
def NameMovesCardSaid : Prop := Claim7.holds Tryd.pinned (.plain (OpenSpec.ofChange nameMovesSpec)) nameMovesCard

/-- THE TIED CARD OF 'espalierlaw04.NameLies'. -/
def nameLiesCard : Claim7 := { stood := { row := nameLiesRow, standIns := [], harness := (true, "3f896c6799875cb80ca1995810817d712fd1134a143a9afd36ecde0fb33d3f81"), looks := false }, kinds := [], alts := [], laidByText := true, laidKinds := [.data, .pinned], laidTests := true, laidLooks := .later }
def NameLiesCardSaid : Prop := Claim7.holds Tryd.pinned (.plain (OpenSpec.ofChange nameLiesSpec)) nameLiesCard

/-- THE TIED CARD OF 'espalierlaw04.NameJoins'. -/
def nameJoinsCard : Claim7 := { stood := { row := nameJoinsRow, standIns := [], harness := (true, "3f896c6799875cb80ca1995810817d712fd1134a143a9afd36ecde0fb33d3f81"), looks := false }, kinds := [], alts := [], laidByText := true, laidKinds := [.data, .pinned], laidTests := true, laidLooks := .later }
def NameJoinsCardSaid : Prop := Claim7.holds Tryd.pinned (.plain (OpenSpec.ofChange nameJoinsSpec)) nameJoinsCard

/-- THE TIED CARD OF 'espalierlaw04.NameThere'. -/
def nameThereCard : Claim7 := { stood := { row := nameThereRow, standIns := [], harness := (true, "3f896c6799875cb80ca1995810817d712fd1134a143a9afd36ecde0fb33d3f81"), looks := false }, kinds := [], alts := [], laidByText := true, laidKinds := [.data, .pinned], laidTests := true, laidLooks := .later }
def NameThereCardSaid : Prop := Claim7.holds Tryd.pinned (.plain (OpenSpec.ofChange nameThereSpec)) nameThereCard

/-- THE TIED CARD OF 'espalierlaw04.NameParts'. -/
def namePartsCard : Claim7 := { stood := { row := namePartsRow, standIns := [], harness := (true, "3f896c6799875cb80ca1995810817d712fd1134a143a9afd36ecde0fb33d3f81"), looks := false }, kinds := [], alts := [], laidByText := true, laidKinds := [.data, .pinned], laidTests := true, laidLooks := .later }
def NamePartsCardSaid : Prop := Claim7.holds Tryd.pinned (.plain (OpenSpec.ofChange namePartsSpec)) namePartsCard

/-- THE TIED CARD OF 'espalierlaw04.NameOrders'. -/
def nameOrdersCard : Claim7 := { stood := { row := nameOrdersRow, standIns := [], harness := (true, "3f896c6799875cb80ca1995810817d712fd1134a143a9afd36ecde0fb33d3f81"), looks := false }, kinds := [], alts := [], laidByText := true, laidKinds := [.data, .pinned], laidTests := true, laidLooks := .later }
def NameOrdersCardSaid : Prop := Claim7.holds Tryd.pinned (.plain (OpenSpec.ofChange nameOrdersSpec)) nameOrdersCard

/-- THE TIED CARD OF 'espalierlaw04.NameOrder'. -/
def nameOrderCard : Claim7 := { stood := { row := nameOrderRow, standIns := [], harness := (true, "3f896c6799875cb80ca1995810817d712fd1134a143a9afd36ecde0fb33d3f81"), looks := false }, kinds := [], alts := [], laidByText := true, laidKinds := [.data, .pinned], laidTests := true, laidLooks := .later }
def NameOrderCardSaid : Prop := Claim7.holds Tryd.pinned (.plain (OpenSpec.ofChange nameOrderSpec)) nameOrderCard

/-- THE SECOND FORM's CARD OF 'espalierlaw04.NameGo'. -/
def nameGoUptoCard : Claim7 := { stood := { row := nameGoUptoRow, standIns := [], harness := (true, "3f896c6799875cb80ca1995810817d712fd1134a143a9afd36ecde0fb33d3f81"), looks := false }, kinds := [], alts := [], laidByText := true, laidKinds := [.data, .pinned], laidTests := true, laidLooks := .later }
def NameGoUptoCardSaid : Prop := Claim7.holds Tryd.pinned (.plain (OpenSpec.upto nameGoSpec)) nameGoUptoCard

/-- THE SECOND FORM's CARD OF 'espalierlaw04.NameChecks'. -/
def nameChecksUptoCard : Claim7 := { stood := { row := nameChecksUptoRow, standIns := [], harness := (true, "3f896c6799875cb80ca1995810817d712fd1134a143a9afd36ecde0fb33d3f81"), looks := false }, kinds := [], alts := [], laidByText := true, laidKinds := [.data, .pinned], laidTests := true, laidLooks := .later }
def NameChecksUptoCardSaid : Prop := Claim7.holds Tryd.pinned (.plain (OpenSpec.upto nameChecksSpec)) nameChecksUptoCard

/-- THE SECOND FORM's CARD OF 'espalierlaw04.NameMakes'. -/
def nameMakesUptoCard : Claim7 := { stood := { row := nameMakesUptoRow, standIns := [], harness := (true, "3f896c6799875cb80ca1995810817d712fd1134a143a9afd36ecde0fb33d3f81"), looks := false }, kinds := [], alts := [], laidByText := true, laidKinds := [.data, .pinned], laidTests := true, laidLooks := .later }
def NameMakesUptoCardSaid : Prop := Claim7.holds Tryd.pinned (.plain (OpenSpec.upto nameMakesSpec)) nameMakesUptoCard

/-- THE SECOND FORM's CARD OF 'espalierlaw04.NameMoves'. -/
def nameMovesUptoCard : Claim7 := { stood := { row := nameMovesUptoRow, standIns := [], harness := (true, "3f896c6799875cb80ca1995810817d712fd1134a143a9afd36ecde0fb33d3f81"), looks := false }, kinds := [], alts := [], laidByText := true, laidKinds := [.data, .pinned], laidTests := true, laidLooks := .later }
def NameMovesUptoCardSaid : Prop := Claim7.holds Tryd.pinned (.plain (OpenSpec.upto nameMovesSpec)) nameMovesUptoCard

/-- THE SECOND FORM's CARD OF 'espalierlaw04.NameLies'. -/
def nameLiesUptoCard : Claim7 := { stood := { row := nameLiesUptoRow, standIns := [], harness := (true, "3f896c6799875cb80ca1995810817d712fd1134a143a9afd36ecde0fb33d3f81"), looks := false }, kinds := [], alts := [], laidByText := true, laidKinds := [.data, .pinned], laidTests := true, laidLooks := .later }
def NameLiesUptoCardSaid : Prop := Claim7.holds Tryd.pinned (.plain (OpenSpec.upto nameLiesSpec)) nameLiesUptoCard

/-- THE SECOND FORM's CARD OF 'espalierlaw04.NameJoins'. -/
def nameJoinsUptoCard : Claim7 := { stood := { row := nameJoinsUptoRow, standIns := [], harness := (true, "3f896c6799875cb80ca1995810817d712fd1134a143a9afd36ecde0fb33d3f81"), looks := false }, kinds := [], alts := [], laidByText := true, laidKinds := [.data, .pinned], laidTests := true, laidLooks := .later }
def NameJoinsUptoCardSaid : Prop := Claim7.holds Tryd.pinned (.plain (OpenSpec.upto nameJoinsSpec)) nameJoinsUptoCard

/-- THE SECOND FORM's CARD OF 'espalierlaw04.NameThere'. -/
def nameThereUptoCard : Claim7 := { stood := { row := nameThereUptoRow, standIns := [], harness := (true, "3f896c6799875cb80ca1995810817d712fd1134a143a9afd36ecde0fb33d3f81"), looks := false }, kinds := [], alts := [], laidByText := true, laidKinds := [.data, .pinned], laidTests := true, laidLooks := .later }
def NameThereUptoCardSaid : Prop := Claim7.holds Tryd.pinned (.plain (OpenSpec.upto nameThereSpec)) nameThereUptoCard

/-- THE SECOND FORM's CARD OF 'espalierlaw04.NameParts'. -/
def namePartsUptoCard : Claim7 := { stood := { row := namePartsUptoRow, standIns := [], harness := (true, "3f896c6799875cb80ca1995810817d712fd1134a143a9afd36ecde0fb33d3f81"), looks := false }, kinds := [], alts := [], laidByText := true, laidKinds := [.data, .pinned], laidTests := true, laidLooks := .later }
def NamePartsUptoCardSaid : Prop := Claim7.holds Tryd.pinned (.plain (OpenSpec.upto namePartsSpec)) namePartsUptoCard

/-- THE SECOND FORM's CARD OF 'espalierlaw04.NameOrders'. -/
def nameOrdersUptoCard : Claim7 := { stood := { row := nameOrdersUptoRow, standIns := [], harness := (true, "3f896c6799875cb80ca1995810817d712fd1134a143a9afd36ecde0fb33d3f81"), looks := false }, kinds := [], alts := [], laidByText := true, laidKinds := [.data, .pinned], laidTests := true, laidLooks := .later }
def NameOrdersUptoCardSaid : Prop := Claim7.holds Tryd.pinned (.plain (OpenSpec.upto nameOrdersSpec)) nameOrdersUptoCard

/-- THE SECOND FORM's CARD OF 'espalierlaw04.NameOrder'. -/
def nameOrderUptoCard : Claim7 := { stood := { row := nameOrderUptoRow, standIns := [], harness := (true, "3f896c6799875cb80ca1995810817d712fd1134a143a9afd36ecde0fb33d3f81"), looks := false }, kinds := [], alts := [], laidByText := true, laidKinds := [.data, .pinned], laidTests := true, laidLooks := .later }
def NameOrderUptoCardSaid : Prop := Claim7.holds Tryd.pinned (.plain (OpenSpec.upto nameOrderSpec)) nameOrderUptoCard
end Rows
end Go.Proofs.YtkjbbidnpnecjaaDoor
