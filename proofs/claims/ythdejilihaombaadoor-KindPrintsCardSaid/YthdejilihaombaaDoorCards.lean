/-
  DERIVED. GIVEN WITH THE SEED: THE CARDS: each row of YthdejilihaombaaDoorRows.lean that lists a variable, with what it lists TIED to the program's text (the seventh form; the later family's looks); each row that meets fmt, with fmt's text TOLD by the authors' own Lean function (tested against real Go, not proved from fmt's source: count such statements apart). THE CARD IS WHAT COUNTS. Prove the row's statement (the work); the ties are given (YthdejilihaombaaDoorTie.lean); close each card by the builder's one call (the guide's Derived/Test/ToyasCard.lean, 'card_holds'). Laid BY PROGRAM, IN A SANDBOX (cutbox-door.mjs). By AI agents, Wed Nov 11 2026. No macro, syntax, notation, axiom, sorry.
-/
import Derived.Test.YthdejilihaombaaDoorRows
import GoSem.ClaimSeven
namespace Go.Proofs.YthdejilihaombaaDoor
namespace Rows

/-- THE TIED CARD OF 'colonnadelaw04.ValueOrder'. -/
def valueOrderCard : Claim7 := { stood := { row := valueOrderRow, standIns := [], harness := (true, "7e35798ec860282136be698cd4fc24ae50187b4a752d23608082632d3ee5a7ab"), looks := false }, kinds := [], alts := [], laidByText := true, laidKinds := [.data, .data, .pinned], laidTests := true, laidLooks := .later }
def ValueOrderCardSaid : Prop := Claim7.holds Tryd.pinned (.plain (OpenSpec.ofChange valueOrderSpec)) valueOrderCard

/-- THE TIED CARD OF 'colonnadelaw04.ValueRanks'. -/
def valueRanksCard : Claim7 := { stood := { row := valueRanksRow, standIns := [], harness := (true, "7e35798ec860282136be698cd4fc24ae50187b4a752d23608082632d3ee5a7ab"), looks := false }, kinds := [], alts := [], laidByText := true, laidKinds := [.data, .data, .pinned], laidTests := true, laidLooks := .later }
def ValueRanksCardSaid : Prop := Claim7.holds Tryd.pinned (.plain (OpenSpec.ofChange valueRanksSpec)) valueRanksCard

/-- THE TIED CARD OF 'colonnadelaw03.KindNames'. -/
def kindNamesCard : Claim7 := { stood := { row := kindNamesRow, standIns := [], harness := (true, "7e35798ec860282136be698cd4fc24ae50187b4a752d23608082632d3ee5a7ab"), looks := false }, kinds := [], alts := [], laidByText := true, laidKinds := [.data, .data, .data, .data], laidTests := true, laidLooks := .later }
def KindNamesCardSaid : Prop := Claim7.holds Tryd.pinned (.plain (OpenSpec.ofChange kindNamesSpec)) kindNamesCard

/-- THE TIED CARD OF 'colonnadelaw03.KindChecks'. -/
def kindChecksCard : Claim7 := { stood := { row := kindChecksRow, standIns := [], harness := (true, "7e35798ec860282136be698cd4fc24ae50187b4a752d23608082632d3ee5a7ab"), looks := false }, kinds := [], alts := [], laidByText := true, laidKinds := [.data, .data, .data, .data], laidTests := true, laidLooks := .later }
def KindChecksCardSaid : Prop := Claim7.holds Tryd.pinned (.plain (OpenSpec.ofChange kindChecksSpec)) kindChecksCard

/-- THE TIED CARD OF 'colonnadelaw03.KindLess'. -/
def kindLessCard : Claim7 := { stood := { row := kindLessRow, standIns := [], harness := (true, "7e35798ec860282136be698cd4fc24ae50187b4a752d23608082632d3ee5a7ab"), looks := false }, kinds := [], alts := [], laidByText := true, laidKinds := [.data, .data, .data, .data], laidTests := true, laidLooks := .later }
def KindLessCardSaid : Prop := Claim7.holds Tryd.pinned (.plain (OpenSpec.ofChange kindLessSpec)) kindLessCard

/-- THE TIED CARD OF 'colonnadelaw03.KindSchemas'. -/
def kindSchemasCard : Claim7 := { stood := { row := kindSchemasRow, standIns := [], harness := (true, "7e35798ec860282136be698cd4fc24ae50187b4a752d23608082632d3ee5a7ab"), looks := false }, kinds := [], alts := [], laidByText := true, laidKinds := [.data, .data, .data, .data], laidTests := true, laidLooks := .later }
def KindSchemasCardSaid : Prop := Claim7.holds Tryd.pinned (.plain (OpenSpec.ofChange kindSchemasSpec)) kindSchemasCard

/-- THE TIED CARD OF 'colonnadelaw03.KindPrints'. -/
def kindPrintsCard : Claim7 := { stood := { row := kindPrintsRow, standIns := [], harness := (true, "7e35798ec860282136be698cd4fc24ae50187b4a752d23608082632d3ee5a7ab"), looks := false }, kinds := [], alts := [], laidByText := true, laidKinds := [.data, .data, .data, .data], laidTests := true, laidLooks := .later }
def KindPrintsCardSaid : Prop := Claim7.holds Tryd.pinned (.plain (OpenSpec.ofChange kindPrintsSpec)) kindPrintsCard

/-- THE SECOND FORM's CARD OF 'colonnadelaw04.ValueOrder'. -/
def valueOrderUptoCard : Claim7 := { stood := { row := valueOrderUptoRow, standIns := [], harness := (true, "7e35798ec860282136be698cd4fc24ae50187b4a752d23608082632d3ee5a7ab"), looks := false }, kinds := [], alts := [], laidByText := true, laidKinds := [.data, .data, .pinned], laidTests := true, laidLooks := .later }
def ValueOrderUptoCardSaid : Prop := Claim7.holds Tryd.pinned (.plain (OpenSpec.upto valueOrderSpec)) valueOrderUptoCard

/-- THE SECOND FORM's CARD OF 'colonnadelaw04.ValueRanks'. -/
def valueRanksUptoCard : Claim7 := { stood := { row := valueRanksUptoRow, standIns := [], harness := (true, "7e35798ec860282136be698cd4fc24ae50187b4a752d23608082632d3ee5a7ab"), looks := false }, kinds := [], alts := [], laidByText := true, laidKinds := [.data, .data, .pinned], laidTests := true, laidLooks := .later }
def ValueRanksUptoCardSaid : Prop := Claim7.holds Tryd.pinned (.plain (OpenSpec.upto valueRanksSpec)) valueRanksUptoCard

/-- THE SECOND FORM's CARD OF 'colonnadelaw03.KindNames'. -/
def kindNamesUptoCard : Claim7 := { stood := { row := kindNamesUptoRow, standIns := [], harness := (true, "7e35798ec860282136be698cd4fc24ae50187b4a752d23608082632d3ee5a7ab"), looks := false }, kinds := [], alts := [], laidByText := true, laidKinds := [.data, .data, .data, .data], laidTests := true, laidLooks := .later }
def KindNamesUptoCardSaid : Prop := Claim7.holds Tryd.pinned (.plain (OpenSpec.upto kindNamesSpec)) kindNamesUptoCard

/-- THE SECOND FORM's CARD OF 'colonnadelaw03.KindChecks'. -/
def kindChecksUptoCard : Claim7 := { stood := { row := kindChecksUptoRow, standIns := [], harness := (true, "7e35798ec860282136be698cd4fc24ae50187b4a752d23608082632d3ee5a7ab"), looks := false }, kinds := [], alts := [], laidByText := true, laidKinds := [.data, .data, .data, .data], laidTests := true, laidLooks := .later }
def KindChecksUptoCardSaid : Prop := Claim7.holds Tryd.pinned (.plain (OpenSpec.upto kindChecksSpec)) kindChecksUptoCard

/-- THE SECOND FORM's CARD OF 'colonnadelaw03.KindLess'. -/
def kindLessUptoCard : Claim7 := { stood := { row := kindLessUptoRow, standIns := [], harness := (true, "7e35798ec860282136be698cd4fc24ae50187b4a752d23608082632d3ee5a7ab"), looks := false }, kinds := [], alts := [], laidByText := true, laidKinds := [.data, .data, .data, .data], laidTests := true, laidLooks := .later }
def KindLessUptoCardSaid : Prop := Claim7.holds Tryd.pinned (.plain (OpenSpec.upto kindLessSpec)) kindLessUptoCard

/-- THE SECOND FORM's CARD OF 'colonnadelaw03.KindSchemas'. -/
def kindSchemasUptoCard : Claim7 := { stood := { row := kindSchemasUptoRow, standIns := [], harness := (true, "7e35798ec860282136be698cd4fc24ae50187b4a752d23608082632d3ee5a7ab"), looks := false }, kinds := [], alts := [], laidByText := true, laidKinds := [.data, .data, .data, .data], laidTests := true, laidLooks := .later }
def KindSchemasUptoCardSaid : Prop := Claim7.holds Tryd.pinned (.plain (OpenSpec.upto kindSchemasSpec)) kindSchemasUptoCard

/-- THE SECOND FORM's CARD OF 'colonnadelaw03.KindPrints'. -/
def kindPrintsUptoCard : Claim7 := { stood := { row := kindPrintsUptoRow, standIns := [], harness := (true, "7e35798ec860282136be698cd4fc24ae50187b4a752d23608082632d3ee5a7ab"), looks := false }, kinds := [], alts := [], laidByText := true, laidKinds := [.data, .data, .data, .data], laidTests := true, laidLooks := .later }
def KindPrintsUptoCardSaid : Prop := Claim7.holds Tryd.pinned (.plain (OpenSpec.upto kindPrintsSpec)) kindPrintsUptoCard
end Rows
end Go.Proofs.YthdejilihaombaaDoor
