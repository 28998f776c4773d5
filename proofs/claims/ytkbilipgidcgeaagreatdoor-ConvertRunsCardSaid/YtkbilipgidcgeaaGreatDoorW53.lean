/- The closed facts of the row, the first part: each a theorem of its own (together they need too much memory). -/
import Derived.Test.YtkbilipgidcgeaaGreatDoorRows
import Derived.ProofKit
import Derived.LaidMore
import Derived.JoinedOf
set_option linter.unusedVariables false
set_option linter.unusedSimpArgs false
namespace Go.Proofs.YtkbilipgidcgeaaGreatDoor
open Go.ChangeShapes Go.WideShapes Go.ChangeAt Go.WideElems Go.RowKit

theorem runs_limb0 : (Rows.convertRunsRow.wf (OpenSpec.ofChange Rows.convertRunsSpec)) = true := by kernel_rfl
theorem runs_limb1 : (laidOutB Tryz.pinned.checked.prog) = true := by kernel_rfl
theorem runs_limb2 : (mapsRowed Tryz.pinned.checked.prog) = true := by kernel_rfl
theorem runs_limb3 : (Tryz.f3.params.all (Tryz.pinned.checked.prog.readableRec ·)) = true := by kernel_rfl
theorem runs_limb4 : (namedTie Tryz.pinned.checked.prog Rows.convertRunsRow.named Rows.convertRunsSpec.vars) = true := by kernel_rfl
theorem runs_limb5 : ((Rows.convertRunsRow.stops == [])) = true := by kernel_rfl
theorem runs_limb6 : ((Tryz.pinned.checked.prog.stops == [])) = true := by kernel_rfl
theorem runs_limb7 : ((Rows.convertRunsRow.knobs == [])) = true := by kernel_rfl
theorem runs_limb8 : ((Tryz.pinned.checked.prog.stopKnobs == [])) = true := by kernel_rfl
theorem runs_limb13 : ((Rows.convertRunsRow.maps == (Tryz.f3.params.toList ++ Rows.convertRunsSpec.plain.varTypes Tryz.pinned.checked.prog).any (Tryz.pinned.checked.prog.mapsRec ·))) = true := by kernel_rfl
theorem runs_limb14 : ((Rows.convertRunsRow.ifaces == (Tryz.f3.params.toList ++ Rows.convertRunsSpec.plain.varTypes Tryz.pinned.checked.prog).any (Tryz.pinned.checked.prog.ifacesRec ·))) = true := by kernel_rfl
theorem runs_limb15 : ((Rows.convertRunsRow.mapsOut == Tryz.pinned.checked.prog.mapsAmong Tryz.f3.resultTypes.toList)) = true := by kernel_rfl
theorem runs_limb16 : ((Rows.convertRunsRow.loops == (Tryz.f3.params.toList ++ Rows.convertRunsSpec.plain.varTypes Tryz.pinned.checked.prog).any (Tryz.pinned.checked.prog.loopsFrom ·))) = true := by kernel_rfl
theorem runs_limb17 : ((Rows.convertRunsRow.wideKeys == (Tryz.f3.params.toList ++ Rows.convertRunsSpec.plain.varTypes Tryz.pinned.checked.prog ++ Tryz.f3.resultTypes.toList).any (Tryz.pinned.checked.prog.wideKeysFrom ·))) = true := by kernel_rfl
theorem runs_limb18 : (Rows.convertRunsSpec.vars.all (Tryz.pinned.checked.prog.varReadable ·)) = true := by kernel_rfl
theorem runs_limb19 : (Tryz.f3.resultTypes.all (fun t => Tryz.pinned.checked.prog.readableRec t && decide (t < Tryz.pinned.checked.prog.types.size))) = true := by kernel_rfl
theorem runs_limb20 : ((Rows.convertRunsRow.ifacesOut == Tryz.f3.resultTypes.toList.any (Tryz.pinned.checked.prog.ifacesRec ·))) = true := by kernel_rfl
theorem runs_limb21 : ((Rows.convertRunsRow.loopsOut == Tryz.f3.resultTypes.toList.any (Tryz.pinned.checked.prog.loopsFrom ·))) = true := by kernel_rfl
theorem runs_limb22 : ((Rows.convertRunsRow.plainKeys == Tryz.pinned.checked.prog.plainKeys)) = true := by kernel_rfl
theorem runs_limb23 : (Rows.convertRunsRow.shortTexts.isNone) = true := by kernel_rfl
theorem runs_limb24 : (Tryz.pinned.checked.prog.stopsHeard) = true := by kernel_rfl
theorem runs_limb25 : (Tryz.pinned.checked.prog.mayEnter) = true := by kernel_rfl
theorem runs_limb26 : ((Rows.convertRunsRow.lifted == Tryz.pinned.checked.prog.liftsFinal)) = true := by kernel_rfl
theorem runs_limb27 : ((Tryz.pinned.checked.prog.make == some Rows.convertRunsRow.make)) = true := by kernel_rfl
theorem runs_limb28 : ((Rows.convertRunsRow.kinds == (if Rows.convertRunsRow.domain.isEmpty then [] else Tryz.f3.params.toList.map fun t => match Tryz.pinned.checked.prog.underlying t with | some (.int k) => some k | _ => none))) = true := by kernel_rfl
theorem runs_limb29 : ((Rows.convertRunsRow.pinned == Rows.convertRunsRow.pinnedBy)) = true := by kernel_rfl
theorem runs_limb30 : ((Rows.convertRunsRow.veiled == (Tryz.f3.params.toList ++ Rows.convertRunsSpec.plain.varTypes Tryz.pinned.checked.prog ++ Tryz.f3.resultTypes.toList).any (Tryz.pinned.checked.prog.veiledRec ·))) = true := by kernel_rfl
theorem runs_limb31 : (Rows.convertRunsRow.veiledFits Tryz.pinned.checked.prog Tryz.f3.params.toList (Tryz.f3.params.toList ++ Rows.convertRunsSpec.plain.varTypes Tryz.pinned.checked.prog ++ Tryz.f3.resultTypes.toList)) = true := by kernel_rfl
end Go.Proofs.YtkbilipgidcgeaaGreatDoor
