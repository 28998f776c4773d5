/-
  DERIVED. GIVEN WITH THE SEED: THE CARDS: each row of YtkbilipgidcgeaaGreatDoorRows.lean that lists a variable, with what it lists TIED to the program's text (the seventh form; the later family's looks); each row that meets fmt, with fmt's text TOLD by the authors' own Lean function (tested against real Go, not proved from fmt's source: count such statements apart). THE CARD IS WHAT COUNTS. Prove the row's statement (the work); the ties are given (YtkbilipgidcgeaaGreatDoorTie.lean); close each card by the builder's one call (the guide's Derived/Test/ToyasCard.lean, 'card_holds'). Laid BY PROGRAM, IN A SANDBOX (cutbox-door.mjs). By AI agents, Wed Nov 11 2026. No macro, syntax, notation, axiom, sorry.
-/
import Derived.Test.YtkbilipgidcgeaaGreatDoorRows
import GoSem.ClaimSeven
namespace Go.Proofs.YtkbilipgidcgeaaGreatDoor
namespace Rows

/-- THE TIED CARD OF 'linchpinlaw39.ConvertRuns'. -/
def convertRunsCard : Claim7 := { stood := { row := convertRunsRow, standIns := [], harness := (true, "3dfbea2848c90a7594bf8ebf6ce7e4b4024e62316055f48a4b9691049f674d8f"), looks := true }, kinds := [], alts := [], laidByText := true, laidKinds := [.widerDeep], laidTests := true, laidLooks := .later }
def ConvertRunsCardSaid : Prop := Claim7.holds Tryz.pinned (.plain (OpenSpec.ofChange convertRunsSpec)) convertRunsCard

/-- THE TIED CARD OF 'linchpinlaw38.HoldMakes'. -/
def holdMakesCard : Claim7 := { stood := { row := holdMakesRow, standIns := [], harness := (true, "3dfbea2848c90a7594bf8ebf6ce7e4b4024e62316055f48a4b9691049f674d8f"), looks := true }, kinds := [], alts := [], laidByText := true, laidKinds := [.widerDeep], laidTests := true, laidLooks := .later }
def HoldMakesCardSaid : Prop := Claim7.holds Tryz.pinned (.plain (OpenSpec.ofChange holdMakesSpec)) holdMakesCard

/-- THE TIED CARD OF 'linchpinlaw39.ConvertPieces'. -/
def convertPiecesCard : Claim7 := { stood := { row := convertPiecesRow, standIns := [], harness := (true, "3dfbea2848c90a7594bf8ebf6ce7e4b4024e62316055f48a4b9691049f674d8f"), looks := true }, kinds := [], alts := [], laidByText := true, laidKinds := [.widerDeep], laidTests := true, laidLooks := .later }
def ConvertPiecesCardSaid : Prop := Claim7.holds Tryz.pinned (.plain (OpenSpec.ofChange convertPiecesSpec)) convertPiecesCard

/-- THE SECOND FORM's CARD OF 'linchpinlaw39.ConvertRuns'. -/
def convertRunsUptoCard : Claim7 := { stood := { row := convertRunsUptoRow, standIns := [], harness := (true, "3dfbea2848c90a7594bf8ebf6ce7e4b4024e62316055f48a4b9691049f674d8f"), looks := true }, kinds := [], alts := [], laidByText := true, laidKinds := [.widerDeep], laidTests := true, laidLooks := .later }
def ConvertRunsUptoCardSaid : Prop := Claim7.holds Tryz.pinned (.plain (OpenSpec.upto convertRunsSpec)) convertRunsUptoCard

/-- THE SECOND FORM's CARD OF 'linchpinlaw38.HoldMakes'. -/
def holdMakesUptoCard : Claim7 := { stood := { row := holdMakesUptoRow, standIns := [], harness := (true, "3dfbea2848c90a7594bf8ebf6ce7e4b4024e62316055f48a4b9691049f674d8f"), looks := true }, kinds := [], alts := [], laidByText := true, laidKinds := [.widerDeep], laidTests := true, laidLooks := .later }
def HoldMakesUptoCardSaid : Prop := Claim7.holds Tryz.pinned (.plain (OpenSpec.upto holdMakesSpec)) holdMakesUptoCard

/-- THE SECOND FORM's CARD OF 'linchpinlaw39.ConvertPieces'. -/
def convertPiecesUptoCard : Claim7 := { stood := { row := convertPiecesUptoRow, standIns := [], harness := (true, "3dfbea2848c90a7594bf8ebf6ce7e4b4024e62316055f48a4b9691049f674d8f"), looks := true }, kinds := [], alts := [], laidByText := true, laidKinds := [.widerDeep], laidTests := true, laidLooks := .later }
def ConvertPiecesUptoCardSaid : Prop := Claim7.holds Tryz.pinned (.plain (OpenSpec.upto convertPiecesSpec)) convertPiecesUptoCard
end Rows
end Go.Proofs.YtkbilipgidcgeaaGreatDoor
