/-
  DERIVED. GIVEN WITH THE SEED: THE CARDS: each row of YtgbafmjgfbgeoaaDoorRows.lean that lists a variable, with what it lists TIED to the program's text (the seventh form; the later family's looks); each row that meets fmt, with fmt's text TOLD by the authors' own Lean function (tested against real Go, not proved from fmt's source: count such statements apart). THE CARD IS WHAT COUNTS. Prove the row's statement (the work); the ties are given (YtgbafmjgfbgeoaaDoorTie.lean); close each card by the builder's one call (the guide's Derived/Test/ToyasCard.lean, 'card_holds'). Laid BY PROGRAM, IN A SANDBOX (cutbox-door.mjs). By AI agents, Wed Nov 11 2026. No macro, syntax, notation, axiom, sorry.
-/
import Derived.Test.YtgbafmjgfbgeoaaDoorRows
import GoSem.ClaimSeven
namespace Go.Proofs.YtgbafmjgfbgeoaaDoor
namespace Rows

/-- THE TIED CARD OF 'colonnadelaw03.KindWalks'. -/
def kindWalksCard : Claim7 := { stood := { row := kindWalksRow, standIns := [], harness := (true, "64e1d29137e5a844843c0a94cec11e763b51a9b2d7558ebf1c83343453fc3316"), looks := false }, kinds := [], alts := [], laidByText := true, laidKinds := [.data, .data, .data, .data], laidTests := true, laidLooks := .later }
def KindWalksCardSaid : Prop := Claim7.holds Tryd.pinned (.plain (OpenSpec.ofChange kindWalksSpec)) kindWalksCard

/-- THE TIED CARD OF 'colonnadelaw03.KindFinds'. -/
def kindFindsCard : Claim7 := { stood := { row := kindFindsRow, standIns := [], harness := (true, "64e1d29137e5a844843c0a94cec11e763b51a9b2d7558ebf1c83343453fc3316"), looks := false }, kinds := [], alts := [], laidByText := true, laidKinds := [.data, .data, .data, .data], laidTests := true, laidLooks := .later }
def KindFindsCardSaid : Prop := Claim7.holds Tryd.pinned (.plain (OpenSpec.ofChange kindFindsSpec)) kindFindsCard

/-- THE TIED CARD OF 'colonnadelaw03.KindWays'. -/
def kindWaysCard : Claim7 := { stood := { row := kindWaysRow, standIns := [], harness := (true, "64e1d29137e5a844843c0a94cec11e763b51a9b2d7558ebf1c83343453fc3316"), looks := false }, kinds := [], alts := [], laidByText := true, laidKinds := [.data, .data, .data, .data], laidTests := true, laidLooks := .later }
def KindWaysCardSaid : Prop := Claim7.holds Tryd.pinned (.plain (OpenSpec.ofChange kindWaysSpec)) kindWaysCard

/-- THE TIED CARD OF 'colonnadelaw03.KindLikens'. -/
def kindLikensCard : Claim7 := { stood := { row := kindLikensRow, standIns := [], harness := (true, "64e1d29137e5a844843c0a94cec11e763b51a9b2d7558ebf1c83343453fc3316"), looks := false }, kinds := [], alts := [], laidByText := true, laidKinds := [.data, .data, .data, .data], laidTests := true, laidLooks := .later }
def KindLikensCardSaid : Prop := Claim7.holds Tryd.pinned (.plain (OpenSpec.ofChange kindLikensSpec)) kindLikensCard

/-- THE SECOND FORM's CARD OF 'colonnadelaw03.KindWalks'. -/
def kindWalksUptoCard : Claim7 := { stood := { row := kindWalksUptoRow, standIns := [], harness := (true, "64e1d29137e5a844843c0a94cec11e763b51a9b2d7558ebf1c83343453fc3316"), looks := false }, kinds := [], alts := [], laidByText := true, laidKinds := [.data, .data, .data, .data], laidTests := true, laidLooks := .later }
def KindWalksUptoCardSaid : Prop := Claim7.holds Tryd.pinned (.plain (OpenSpec.upto kindWalksSpec)) kindWalksUptoCard

/-- THE SECOND FORM's CARD OF 'colonnadelaw03.KindFinds'. -/
def kindFindsUptoCard : Claim7 := { stood := { row := kindFindsUptoRow, standIns := [], harness := (true, "64e1d29137e5a844843c0a94cec11e763b51a9b2d7558ebf1c83343453fc3316"), looks := false }, kinds := [], alts := [], laidByText := true, laidKinds := [.data, .data, .data, .data], laidTests := true, laidLooks := .later }
def KindFindsUptoCardSaid : Prop := Claim7.holds Tryd.pinned (.plain (OpenSpec.upto kindFindsSpec)) kindFindsUptoCard

/-- THE SECOND FORM's CARD OF 'colonnadelaw03.KindWays'. -/
def kindWaysUptoCard : Claim7 := { stood := { row := kindWaysUptoRow, standIns := [], harness := (true, "64e1d29137e5a844843c0a94cec11e763b51a9b2d7558ebf1c83343453fc3316"), looks := false }, kinds := [], alts := [], laidByText := true, laidKinds := [.data, .data, .data, .data], laidTests := true, laidLooks := .later }
def KindWaysUptoCardSaid : Prop := Claim7.holds Tryd.pinned (.plain (OpenSpec.upto kindWaysSpec)) kindWaysUptoCard

/-- THE SECOND FORM's CARD OF 'colonnadelaw03.KindLikens'. -/
def kindLikensUptoCard : Claim7 := { stood := { row := kindLikensUptoRow, standIns := [], harness := (true, "64e1d29137e5a844843c0a94cec11e763b51a9b2d7558ebf1c83343453fc3316"), looks := false }, kinds := [], alts := [], laidByText := true, laidKinds := [.data, .data, .data, .data], laidTests := true, laidLooks := .later }
def KindLikensUptoCardSaid : Prop := Claim7.holds Tryd.pinned (.plain (OpenSpec.upto kindLikensSpec)) kindLikensUptoCard
end Rows
end Go.Proofs.YtgbafmjgfbgeoaaDoor
