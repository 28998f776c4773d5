/-
  DERIVED. GIVEN WITH THE SEED: THE CARDS: each row of YtacaejpamidkcaaGreatDoorRows.lean that lists a variable, with what it lists TIED to the program's text (the seventh form; the later family's looks); each row that meets fmt, with fmt's text TOLD by the authors' own Lean function (tested against real Go, not proved from fmt's source: count such statements apart). THE CARD IS WHAT COUNTS. Prove the row's statement (the work); the ties are given (YtacaejpamidkcaaGreatDoorTie.lean); close each card by the builder's one call (the guide's Derived/Test/ToyasCard.lean, 'card_holds'). Laid BY PROGRAM, IN A SANDBOX (cutbox-door.mjs). By AI agents, Wed Nov 11 2026. No macro, syntax, notation, axiom, sorry.
-/
import Derived.Test.YtacaejpamidkcaaGreatDoorRows
import GoSem.ClaimSeven
namespace Go.Proofs.YtacaejpamidkcaaGreatDoor
namespace Rows

/-- THE TIED CARD OF 'linchpinlaw45.DumpReads'. -/
def dumpReadsCard : Claim7 := { stood := { row := dumpReadsRow, standIns := [], harness := (true, "ef7ceaafbcda764944225f403190357e1997a9e8a725d9001b6e7e1cbd6fd2b5"), looks := true }, kinds := [], alts := [], laidByText := true, laidKinds := [.data, .data, .widerDeep], laidTests := true, laidLooks := .later }
def DumpReadsCardSaid : Prop := Claim7.holds Tryz.pinned (.plain (OpenSpec.ofChange dumpReadsSpec)) dumpReadsCard

/-- THE SECOND FORM's CARD OF 'linchpinlaw45.DumpReads'. -/
def dumpReadsUptoCard : Claim7 := { stood := { row := dumpReadsUptoRow, standIns := [], harness := (true, "ef7ceaafbcda764944225f403190357e1997a9e8a725d9001b6e7e1cbd6fd2b5"), looks := true }, kinds := [], alts := [], laidByText := true, laidKinds := [.data, .data, .widerDeep], laidTests := true, laidLooks := .later }
def DumpReadsUptoCardSaid : Prop := Claim7.holds Tryz.pinned (.plain (OpenSpec.upto dumpReadsSpec)) dumpReadsUptoCard
end Rows
end Go.Proofs.YtacaejpamidkcaaGreatDoor
