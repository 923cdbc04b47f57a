/-
  DERIVED. GIVEN WITH THE SEED: THE CARDS: each row of YtdmdgkpjjpijdaaGreatDoorRows.lean that lists a variable, with what it lists TIED to the program's text (the seventh form; the later family's looks); each row that meets fmt, with fmt's text TOLD by the authors' own Lean function (tested against real Go, not proved from fmt's source: count such statements apart). THE CARD IS WHAT COUNTS. Prove the row's statement (the work); the ties are given (YtdmdgkpjjpijdaaGreatDoorTie.lean); close each card by the builder's one call (the guide's Derived/Test/ToyasCard.lean, 'card_holds'). Laid BY PROGRAM, IN A SANDBOX (cutbox-door.mjs). By AI agents, Wed Nov 11 2026. No macro, syntax, notation, axiom, sorry.
-/
import Derived.Test.YtdmdgkpjjpijdaaGreatDoorRows
import GoSem.ClaimSeven
namespace Go.Proofs.YtdmdgkpjjpijdaaGreatDoor
namespace Rows

/-- THE TIED CARD OF 'colonnadelaw03.KindParses'. -/
def kindParsesCard : Claim7 := { stood := { row := kindParsesRow, standIns := [], harness := (true, "12e5775d0be9a7ba58339a37088b91ca25e5fad66a24d9ef9a1e6dcd491aad74"), looks := true }, kinds := [], alts := [], laidByText := true, laidKinds := [.data, .data, .data, .sentinel, .sentinel, .data], laidTests := true, laidLooks := .later }
def KindParsesCardSaid : Prop := Claim7.holds Tryz.pinned (.plain (OpenSpec.ofChange kindParsesSpec)) kindParsesCard

/-- THE TIED CARD OF 'colonnadelaw03.KindKeeps'. -/
def kindKeepsCard : Claim7 := { stood := { row := kindKeepsRow, standIns := [], harness := (true, "12e5775d0be9a7ba58339a37088b91ca25e5fad66a24d9ef9a1e6dcd491aad74"), looks := true }, kinds := [], alts := [], laidByText := true, laidKinds := [.data, .data, .data, .sentinel, .sentinel, .data], laidTests := true, laidLooks := .later }
def KindKeepsCardSaid : Prop := Claim7.holds Tryz.pinned (.plain (OpenSpec.ofChange kindKeepsSpec)) kindKeepsCard

/-- THE SECOND FORM's CARD OF 'colonnadelaw03.KindParses'. -/
def kindParsesUptoCard : Claim7 := { stood := { row := kindParsesUptoRow, standIns := [], harness := (true, "12e5775d0be9a7ba58339a37088b91ca25e5fad66a24d9ef9a1e6dcd491aad74"), looks := true }, kinds := [], alts := [], laidByText := true, laidKinds := [.data, .data, .data, .sentinel, .sentinel, .data], laidTests := true, laidLooks := .later }
def KindParsesUptoCardSaid : Prop := Claim7.holds Tryz.pinned (.plain (OpenSpec.upto kindParsesSpec)) kindParsesUptoCard

/-- THE SECOND FORM's CARD OF 'colonnadelaw03.KindKeeps'. -/
def kindKeepsUptoCard : Claim7 := { stood := { row := kindKeepsUptoRow, standIns := [], harness := (true, "12e5775d0be9a7ba58339a37088b91ca25e5fad66a24d9ef9a1e6dcd491aad74"), looks := true }, kinds := [], alts := [], laidByText := true, laidKinds := [.data, .data, .data, .sentinel, .sentinel, .data], laidTests := true, laidLooks := .later }
def KindKeepsUptoCardSaid : Prop := Claim7.holds Tryz.pinned (.plain (OpenSpec.upto kindKeepsSpec)) kindKeepsUptoCard
end Rows
end Go.Proofs.YtdmdgkpjjpijdaaGreatDoor
