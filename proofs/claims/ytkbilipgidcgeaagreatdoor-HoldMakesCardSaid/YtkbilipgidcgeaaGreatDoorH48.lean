/- The closed facts of the row, the first part: each a theorem of its own (together they need too much memory). -/
import Derived.Test.YtkbilipgidcgeaaGreatDoorRows
import Derived.ProofKit
import Derived.LaidMore
import Derived.JoinedOf
set_option linter.unusedVariables false
set_option linter.unusedSimpArgs false
namespace Go.Proofs.YtkbilipgidcgeaaGreatDoor
open Go.ChangeShapes Go.WideShapes Go.ChangeAt Go.WideElems Go.RowKit

theorem makes_limb0 : (Rows.holdMakesRow.wf (OpenSpec.ofChange Rows.holdMakesSpec)) = true := by kernel_rfl
theorem makes_limb1 : (laidOutB Tryz.pinned.checked.prog) = true := by kernel_rfl
theorem makes_limb2 : (mapsRowed Tryz.pinned.checked.prog) = true := by kernel_rfl
theorem makes_limb3 : (Tryz.f4.params.all (Tryz.pinned.checked.prog.readableRec ·)) = true := by kernel_rfl
theorem makes_limb4 : (namedTie Tryz.pinned.checked.prog Rows.holdMakesRow.named Rows.holdMakesSpec.vars) = true := by kernel_rfl
theorem makes_limb5 : ((Rows.holdMakesRow.stops == [])) = true := by kernel_rfl
theorem makes_limb6 : ((Tryz.pinned.checked.prog.stops == [])) = true := by kernel_rfl
theorem makes_limb7 : ((Rows.holdMakesRow.knobs == [])) = true := by kernel_rfl
theorem makes_limb8 : ((Tryz.pinned.checked.prog.stopKnobs == [])) = true := by kernel_rfl
theorem makes_limb13 : ((Rows.holdMakesRow.maps == (Tryz.f4.params.toList ++ Rows.holdMakesSpec.plain.varTypes Tryz.pinned.checked.prog).any (Tryz.pinned.checked.prog.mapsRec ·))) = true := by kernel_rfl
theorem makes_limb14 : ((Rows.holdMakesRow.ifaces == (Tryz.f4.params.toList ++ Rows.holdMakesSpec.plain.varTypes Tryz.pinned.checked.prog).any (Tryz.pinned.checked.prog.ifacesRec ·))) = true := by kernel_rfl
theorem makes_limb15 : ((Rows.holdMakesRow.mapsOut == Tryz.pinned.checked.prog.mapsAmong Tryz.f4.resultTypes.toList)) = true := by kernel_rfl
theorem makes_limb16 : ((Rows.holdMakesRow.loops == (Tryz.f4.params.toList ++ Rows.holdMakesSpec.plain.varTypes Tryz.pinned.checked.prog).any (Tryz.pinned.checked.prog.loopsFrom ·))) = true := by kernel_rfl
theorem makes_limb17 : ((Rows.holdMakesRow.wideKeys == (Tryz.f4.params.toList ++ Rows.holdMakesSpec.plain.varTypes Tryz.pinned.checked.prog ++ Tryz.f4.resultTypes.toList).any (Tryz.pinned.checked.prog.wideKeysFrom ·))) = true := by kernel_rfl
theorem makes_limb18 : (Rows.holdMakesSpec.vars.all (Tryz.pinned.checked.prog.varReadable ·)) = true := by kernel_rfl
theorem makes_limb19 : (Tryz.f4.resultTypes.all (fun t => Tryz.pinned.checked.prog.readableRec t && decide (t < Tryz.pinned.checked.prog.types.size))) = true := by kernel_rfl
theorem makes_limb20 : ((Rows.holdMakesRow.ifacesOut == Tryz.f4.resultTypes.toList.any (Tryz.pinned.checked.prog.ifacesRec ·))) = true := by kernel_rfl
theorem makes_limb21 : ((Rows.holdMakesRow.loopsOut == Tryz.f4.resultTypes.toList.any (Tryz.pinned.checked.prog.loopsFrom ·))) = true := by kernel_rfl
theorem makes_limb22 : ((Rows.holdMakesRow.plainKeys == Tryz.pinned.checked.prog.plainKeys)) = true := by kernel_rfl
theorem makes_limb23 : (Rows.holdMakesRow.shortTexts.isNone) = true := by kernel_rfl
theorem makes_limb24 : (Tryz.pinned.checked.prog.stopsHeard) = true := by kernel_rfl
theorem makes_limb25 : (Tryz.pinned.checked.prog.mayEnter) = true := by kernel_rfl
theorem makes_limb26 : ((Rows.holdMakesRow.lifted == Tryz.pinned.checked.prog.liftsFinal)) = true := by kernel_rfl
theorem makes_limb27 : ((Tryz.pinned.checked.prog.make == some Rows.holdMakesRow.make)) = true := by kernel_rfl
theorem makes_limb28 : ((Rows.holdMakesRow.kinds == (if Rows.holdMakesRow.domain.isEmpty then [] else Tryz.f4.params.toList.map fun t => match Tryz.pinned.checked.prog.underlying t with | some (.int k) => some k | _ => none))) = true := by kernel_rfl
theorem makes_limb29 : ((Rows.holdMakesRow.pinned == Rows.holdMakesRow.pinnedBy)) = true := by kernel_rfl
theorem makes_limb30 : ((Rows.holdMakesRow.veiled == (Tryz.f4.params.toList ++ Rows.holdMakesSpec.plain.varTypes Tryz.pinned.checked.prog ++ Tryz.f4.resultTypes.toList).any (Tryz.pinned.checked.prog.veiledRec ·))) = true := by kernel_rfl
theorem makes_limb31 : (Rows.holdMakesRow.veiledFits Tryz.pinned.checked.prog Tryz.f4.params.toList (Tryz.f4.params.toList ++ Rows.holdMakesSpec.plain.varTypes Tryz.pinned.checked.prog ++ Tryz.f4.resultTypes.toList)) = true := by kernel_rfl
end Go.Proofs.YtkbilipgidcgeaaGreatDoor
