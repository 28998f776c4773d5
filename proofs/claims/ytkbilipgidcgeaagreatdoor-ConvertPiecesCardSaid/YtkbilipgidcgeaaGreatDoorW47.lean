/- The closed facts of the row, the first part: each a theorem of its own (together they need too much memory). -/
import Derived.Test.YtkbilipgidcgeaaGreatDoorRows
import Derived.ProofKit
import Derived.LaidMore
import Derived.JoinedOf
set_option linter.unusedVariables false
set_option linter.unusedSimpArgs false
namespace Go.Proofs.YtkbilipgidcgeaaGreatDoor
open Go.ChangeShapes Go.WideShapes Go.ChangeAt Go.WideElems Go.RowKit

theorem piece_limb0 : (Rows.convertPiecesRow.wf (OpenSpec.ofChange Rows.convertPiecesSpec)) = true := by kernel_rfl
theorem piece_limb1 : (laidOutB Tryz.pinned.checked.prog) = true := by kernel_rfl
theorem piece_limb2 : (mapsRowed Tryz.pinned.checked.prog) = true := by kernel_rfl
theorem piece_limb3 : (Tryz.f5.params.all (Tryz.pinned.checked.prog.readableRec ·)) = true := by kernel_rfl
theorem piece_limb4 : (namedTie Tryz.pinned.checked.prog Rows.convertPiecesRow.named Rows.convertPiecesSpec.vars) = true := by kernel_rfl
theorem piece_limb5 : ((Rows.convertPiecesRow.stops == [])) = true := by kernel_rfl
theorem piece_limb6 : ((Tryz.pinned.checked.prog.stops == [])) = true := by kernel_rfl
theorem piece_limb7 : ((Rows.convertPiecesRow.knobs == [])) = true := by kernel_rfl
theorem piece_limb8 : ((Tryz.pinned.checked.prog.stopKnobs == [])) = true := by kernel_rfl
theorem piece_limb13 : ((Rows.convertPiecesRow.maps == (Tryz.f5.params.toList ++ Rows.convertPiecesSpec.plain.varTypes Tryz.pinned.checked.prog).any (Tryz.pinned.checked.prog.mapsRec ·))) = true := by kernel_rfl
theorem piece_limb14 : ((Rows.convertPiecesRow.ifaces == (Tryz.f5.params.toList ++ Rows.convertPiecesSpec.plain.varTypes Tryz.pinned.checked.prog).any (Tryz.pinned.checked.prog.ifacesRec ·))) = true := by kernel_rfl
theorem piece_limb15 : ((Rows.convertPiecesRow.mapsOut == Tryz.pinned.checked.prog.mapsAmong Tryz.f5.resultTypes.toList)) = true := by kernel_rfl
theorem piece_limb16 : ((Rows.convertPiecesRow.loops == (Tryz.f5.params.toList ++ Rows.convertPiecesSpec.plain.varTypes Tryz.pinned.checked.prog).any (Tryz.pinned.checked.prog.loopsFrom ·))) = true := by kernel_rfl
theorem piece_limb17 : ((Rows.convertPiecesRow.wideKeys == (Tryz.f5.params.toList ++ Rows.convertPiecesSpec.plain.varTypes Tryz.pinned.checked.prog ++ Tryz.f5.resultTypes.toList).any (Tryz.pinned.checked.prog.wideKeysFrom ·))) = true := by kernel_rfl
theorem piece_limb18 : (Rows.convertPiecesSpec.vars.all (Tryz.pinned.checked.prog.varReadable ·)) = true := by kernel_rfl
theorem piece_limb19 : (Tryz.f5.resultTypes.all (fun t => Tryz.pinned.checked.prog.readableRec t && decide (t < Tryz.pinned.checked.prog.types.size))) = true := by kernel_rfl
theorem piece_limb20 : ((Rows.convertPiecesRow.ifacesOut == Tryz.f5.resultTypes.toList.any (Tryz.pinned.checked.prog.ifacesRec ·))) = true := by kernel_rfl
theorem piece_limb21 : ((Rows.convertPiecesRow.loopsOut == Tryz.f5.resultTypes.toList.any (Tryz.pinned.checked.prog.loopsFrom ·))) = true := by kernel_rfl
theorem piece_limb22 : ((Rows.convertPiecesRow.plainKeys == Tryz.pinned.checked.prog.plainKeys)) = true := by kernel_rfl
theorem piece_limb23 : (Rows.convertPiecesRow.shortTexts.isNone) = true := by kernel_rfl
theorem piece_limb24 : (Tryz.pinned.checked.prog.stopsHeard) = true := by kernel_rfl
theorem piece_limb25 : (Tryz.pinned.checked.prog.mayEnter) = true := by kernel_rfl
theorem piece_limb26 : ((Rows.convertPiecesRow.lifted == Tryz.pinned.checked.prog.liftsFinal)) = true := by kernel_rfl
theorem piece_limb27 : ((Tryz.pinned.checked.prog.make == some Rows.convertPiecesRow.make)) = true := by kernel_rfl
theorem piece_limb28 : ((Rows.convertPiecesRow.kinds == (if Rows.convertPiecesRow.domain.isEmpty then [] else Tryz.f5.params.toList.map fun t => match Tryz.pinned.checked.prog.underlying t with | some (.int k) => some k | _ => none))) = true := by kernel_rfl
theorem piece_limb29 : ((Rows.convertPiecesRow.pinned == Rows.convertPiecesRow.pinnedBy)) = true := by kernel_rfl
theorem piece_limb30 : ((Rows.convertPiecesRow.veiled == (Tryz.f5.params.toList ++ Rows.convertPiecesSpec.plain.varTypes Tryz.pinned.checked.prog ++ Tryz.f5.resultTypes.toList).any (Tryz.pinned.checked.prog.veiledRec ·))) = true := by kernel_rfl
theorem piece_limb31 : (Rows.convertPiecesRow.veiledFits Tryz.pinned.checked.prog Tryz.f5.params.toList (Tryz.f5.params.toList ++ Rows.convertPiecesSpec.plain.varTypes Tryz.pinned.checked.prog ++ Tryz.f5.resultTypes.toList)) = true := by kernel_rfl
end Go.Proofs.YtkbilipgidcgeaaGreatDoor
