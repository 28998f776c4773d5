/- The closed facts of the row, the second part, and all of them together. -/
import Derived.Test.YtacaejpamidkcaaGreatDoorR49
set_option linter.unusedVariables false
set_option linter.unusedSimpArgs false
set_option maxRecDepth 100000
namespace Go.Proofs.YtacaejpamidkcaaGreatDoor
section
open Go.ChangeShapes Go.WideShapes Go.ChangeAt Go.WideElems Go.RowKit
theorem p1_ : ((Rows.dumpReadsUptoRow.inPlace == Tryz.pinned.checked.prog.inPlace 3)) = true := by kernel_rfl
theorem of_ : ((Rows.dumpReadsUptoRow.unfollowed == Tryz.pinned.checked.prog.unfollowed 3)) = true := by kernel_rfl
theorem og_ : ((Rows.dumpReadsUptoRow.recurses == Tryz.pinned.checked.prog.recurses 3)) = true := by kernel_rfl
theorem oh_ : ((Rows.dumpReadsUptoRow.named == Tryz.pinned.checked.prog.varsNamed 3)) = true := by kernel_rfl
theorem bi_ {a b : Bool} (h : a = true) (k : b = true) : (a && b) = true := by rw [h, k]; rfl
theorem oi_ : joinedFacts Tryz.pinned.checked.prog 3 Tryz.f3 (Rows.OpenSpec.upto Rows.dumpReadsSpec).bare Rows.dumpReadsUptoRow = true := by
 unfold joinedFacts
 have h0 := ps_
 have h1 := bi_ h0 pt_
 have h2 := bi_ h1 pu_
 have h3 := bi_ h2 pv_
 have h4 := bi_ h3 pw_
 have h5 := bi_ h4 px_
 have h6 := bi_ h5 py_
 have h7 := bi_ h6 pz_
 have h8 := bi_ h7 p0_
 have h9 := bi_ h8 p1_
 have h10 := bi_ h9 of_
 have h11 := bi_ h10 og_
 have h12 := bi_ h11 oh_
 have h13 := bi_ h12 nw_
 have h14 := bi_ h13 nx_
 have h15 := bi_ h14 ny_
 have h16 := bi_ h15 nz_
 have h17 := bi_ h16 n0_
 have h18 := bi_ h17 n1_
 have h19 := bi_ h18 n2_
 have h20 := bi_ h19 n3_
 have h21 := bi_ h20 n4_
 have h22 := bi_ h21 n5_
 have h23 := bi_ h22 n6_
 have h24 := bi_ h23 n7_
 have h25 := bi_ h24 n8_
 have h26 := bi_ h25 n9_
 have h27 := bi_ h26 oa_
 have h28 := bi_ h27 ob_
 have h29 := bi_ h28 oc_
 have h30 := bi_ h29 od_
 have h31 := bi_ h30 oe_
 exact h31
end
end Go.Proofs.YtacaejpamidkcaaGreatDoor
