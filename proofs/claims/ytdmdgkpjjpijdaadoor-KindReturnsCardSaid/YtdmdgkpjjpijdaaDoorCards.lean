/-
  DERIVED. GIVEN WITH THE SEED: THE CARDS: each row of YtdmdgkpjjpijdaaDoorRows.lean that lists a variable, with what it lists TIED to the program's text (the seventh form; the later family's looks); each row that meets fmt, with fmt's text TOLD by the authors' own Lean function (tested against real Go, not proved from fmt's source: count such statements apart). THE CARD IS WHAT COUNTS. Prove the row's statement (the work); the ties are given (YtdmdgkpjjpijdaaDoorTie.lean); close each card by the builder's one call (the guide's Derived/Test/ToyasCard.lean, 'card_holds'). Laid BY PROGRAM, IN A SANDBOX (cutbox-door.mjs). By AI agents, Wed Nov 11 2026. No macro, syntax, notation, axiom, sorry.
-/
import Derived.Test.YtdmdgkpjjpijdaaDoorRows
import GoSem.ClaimSeven
namespace Go.Proofs.YtdmdgkpjjpijdaaDoor
namespace Rows

/-- THE TIED CARD OF 'colonnadelaw03.KindReads'. -/
def kindReadsCard : Claim7 := { stood := { row := kindReadsRow, standIns := [], harness := (true, "bd9eef606ee950d25123ae2d8c07f3850913c4842cc6661856001a715d425ab1"), looks := true }, kinds := [], alts := [], laidByText := true, laidKinds := [.data, .data, .data, .sentinel, .sentinel, .data], laidTests := true, laidLooks := .later }
def KindReadsCardSaid : Prop := Claim7.holds Tryd.pinned (.plain (OpenSpec.ofChange kindReadsSpec)) kindReadsCard

/-- THE TIED CARD OF 'colonnadelaw03.KindReturns'. -/
def kindReturnsCard : Claim7 := { stood := { row := kindReturnsRow, standIns := [], harness := (true, "bd9eef606ee950d25123ae2d8c07f3850913c4842cc6661856001a715d425ab1"), looks := true }, kinds := [], alts := [], laidByText := true, laidKinds := [.data, .data, .data, .sentinel, .sentinel, .data], laidTests := true, laidLooks := .later }
def KindReturnsCardSaid : Prop := Claim7.holds Tryd.pinned (.plain (OpenSpec.ofChange kindReturnsSpec)) kindReturnsCard

/-- THE SECOND FORM's CARD OF 'colonnadelaw03.KindReads'. -/
def kindReadsUptoCard : Claim7 := { stood := { row := kindReadsUptoRow, standIns := [], harness := (true, "bd9eef606ee950d25123ae2d8c07f3850913c4842cc6661856001a715d425ab1"), looks := true }, kinds := [], alts := [], laidByText := true, laidKinds := [.data, .data, .data, .sentinel, .sentinel, .data], laidTests := true, laidLooks := .later }
def KindReadsUptoCardSaid : Prop := Claim7.holds Tryd.pinned (.plain (OpenSpec.upto kindReadsSpec)) kindReadsUptoCard

/-- THE SECOND FORM's CARD OF 'colonnadelaw03.KindReturns'. -/
def kindReturnsUptoCard : Claim7 := { stood := { row := kindReturnsUptoRow, standIns := [], harness := (true, "bd9eef606ee950d25123ae2d8c07f3850913c4842cc6661856001a715d425ab1"), looks := true }, kinds := [], alts := [], laidByText := true, laidKinds := [.data, .data, .data, .sentinel, .sentinel, .data], laidTests := true, laidLooks := .later }
def KindReturnsUptoCardSaid : Prop := Claim7.holds Tryd.pinned (.plain (OpenSpec.upto kindReturnsSpec)) kindReturnsUptoCard
end Rows
end Go.Proofs.YtdmdgkpjjpijdaaDoor
