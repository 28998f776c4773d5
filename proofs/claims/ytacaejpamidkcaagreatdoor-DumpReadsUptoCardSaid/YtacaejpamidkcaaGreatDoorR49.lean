/- The closed facts of the row, the first part: each a theorem of its own (together they need too much memory). -/
import Derived.Test.YtacaejpamidkcaaGreatDoorRows
import Derived.ProofKit
import Derived.LaidMore
set_option linter.unusedVariables false
set_option linter.unusedSimpArgs false
namespace Go.Proofs.YtacaejpamidkcaaGreatDoor
section
open Go.ChangeShapes Go.WideShapes Go.ChangeAt Go.WideElems Go.RowKit
theorem ps_ : (Rows.dumpReadsUptoRow.wf (OpenSpec.ofChange (Rows.OpenSpec.upto Rows.dumpReadsSpec).bare)) = true := by kernel_rfl
theorem pt_ : (laidOutB Tryz.pinned.checked.prog) = true := by kernel_rfl
theorem pu_ : (mapsRowed Tryz.pinned.checked.prog) = true := by kernel_rfl
theorem pv_ : (Tryz.f3.params.all (Tryz.pinned.checked.prog.readableRec ·)) = true := by kernel_rfl
theorem pw_ : (namedTie Tryz.pinned.checked.prog Rows.dumpReadsUptoRow.named (Rows.OpenSpec.upto Rows.dumpReadsSpec).bare.vars) = true := by kernel_rfl
theorem px_ : ((Rows.dumpReadsUptoRow.stops == [])) = true := by kernel_rfl
theorem py_ : ((Tryz.pinned.checked.prog.stops == [])) = true := by kernel_rfl
theorem pz_ : ((Rows.dumpReadsUptoRow.knobs == [])) = true := by kernel_rfl
theorem p0_ : ((Tryz.pinned.checked.prog.stopKnobs == [])) = true := by kernel_rfl
theorem nw_ : ((Rows.dumpReadsUptoRow.maps == (Tryz.f3.params.toList ++ (Rows.OpenSpec.upto Rows.dumpReadsSpec).bare.plain.varTypes Tryz.pinned.checked.prog).any (Tryz.pinned.checked.prog.mapsRec ·))) = true := by kernel_rfl
theorem nx_ : ((Rows.dumpReadsUptoRow.ifaces == (Tryz.f3.params.toList ++ (Rows.OpenSpec.upto Rows.dumpReadsSpec).bare.plain.varTypes Tryz.pinned.checked.prog).any (Tryz.pinned.checked.prog.ifacesRec ·))) = true := by kernel_rfl
theorem ny_ : ((Rows.dumpReadsUptoRow.mapsOut == Tryz.pinned.checked.prog.mapsAmong Tryz.f3.resultTypes.toList)) = true := by kernel_rfl
theorem nz_ : ((Rows.dumpReadsUptoRow.loops == (Tryz.f3.params.toList ++ (Rows.OpenSpec.upto Rows.dumpReadsSpec).bare.plain.varTypes Tryz.pinned.checked.prog).any (Tryz.pinned.checked.prog.loopsFrom ·))) = true := by kernel_rfl
theorem n0_ : ((Rows.dumpReadsUptoRow.wideKeys == (Tryz.f3.params.toList ++ (Rows.OpenSpec.upto Rows.dumpReadsSpec).bare.plain.varTypes Tryz.pinned.checked.prog ++ Tryz.f3.resultTypes.toList).any (Tryz.pinned.checked.prog.wideKeysFrom ·))) = true := by kernel_rfl
theorem n1_ : ((Rows.OpenSpec.upto Rows.dumpReadsSpec).bare.vars.all (Tryz.pinned.checked.prog.varReadable ·)) = true := by kernel_rfl
theorem n2_ : (Tryz.f3.resultTypes.all (fun t => Tryz.pinned.checked.prog.readableRec t && decide (t < Tryz.pinned.checked.prog.types.size))) = true := by kernel_rfl
theorem n3_ : ((Rows.dumpReadsUptoRow.ifacesOut == Tryz.f3.resultTypes.toList.any (Tryz.pinned.checked.prog.ifacesRec ·))) = true := by kernel_rfl
theorem n4_ : ((Rows.dumpReadsUptoRow.loopsOut == Tryz.f3.resultTypes.toList.any (Tryz.pinned.checked.prog.loopsFrom ·))) = true := by kernel_rfl
theorem n5_ : ((Rows.dumpReadsUptoRow.plainKeys == Tryz.pinned.checked.prog.plainKeys)) = true := by kernel_rfl
theorem n6_ : (Rows.dumpReadsUptoRow.shortTexts.isNone) = true := by kernel_rfl
theorem n7_ : (Tryz.pinned.checked.prog.stopsHeard) = true := by kernel_rfl
theorem n8_ : (Tryz.pinned.checked.prog.mayEnter) = true := by kernel_rfl
theorem n9_ : ((Rows.dumpReadsUptoRow.lifted == Tryz.pinned.checked.prog.liftsFinal)) = true := by kernel_rfl
theorem oa_ : ((Tryz.pinned.checked.prog.make == some Rows.dumpReadsUptoRow.make)) = true := by kernel_rfl
theorem ob_ : ((Rows.dumpReadsUptoRow.kinds == (if Rows.dumpReadsUptoRow.domain.isEmpty then [] else Tryz.f3.params.toList.map fun t => match Tryz.pinned.checked.prog.underlying t with | some (.int k) => some k | _ => none))) = true := by kernel_rfl
theorem oc_ : ((Rows.dumpReadsUptoRow.pinned == Rows.dumpReadsUptoRow.pinnedBy)) = true := by kernel_rfl
theorem od_ : ((Rows.dumpReadsUptoRow.veiled == (Tryz.f3.params.toList ++ (Rows.OpenSpec.upto Rows.dumpReadsSpec).bare.plain.varTypes Tryz.pinned.checked.prog ++ Tryz.f3.resultTypes.toList).any (Tryz.pinned.checked.prog.veiledRec ·))) = true := by kernel_rfl
theorem oe_ : (Rows.dumpReadsUptoRow.veiledFits Tryz.pinned.checked.prog Tryz.f3.params.toList (Tryz.f3.params.toList ++ (Rows.OpenSpec.upto Rows.dumpReadsSpec).bare.plain.varTypes Tryz.pinned.checked.prog ++ Tryz.f3.resultTypes.toList)) = true := by kernel_rfl
end
end Go.Proofs.YtacaejpamidkcaaGreatDoor
