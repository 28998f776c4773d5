/- The closed facts of the row, the second part, and all of them together. -/
import Derived.Test.YtkbilipgidcgeaaGreatDoorRows
import Derived.ProofKit
import Derived.LaidMore
import Derived.JoinedOf
import Derived.Test.YtkbilipgidcgeaaGreatDoorW47
set_option linter.unusedVariables false
set_option linter.unusedSimpArgs false
namespace Go.Proofs.YtkbilipgidcgeaaGreatDoor
open Go.ChangeShapes Go.WideShapes Go.ChangeAt Go.WideElems Go.RowKit

theorem piece_limb9 : ((Rows.convertPiecesRow.inPlace == Tryz.pinned.checked.prog.inPlace 5)) = true := by kernel_rfl
theorem piece_limb10 : ((Rows.convertPiecesRow.unfollowed == Tryz.pinned.checked.prog.unfollowed 5)) = true := by kernel_rfl
theorem piece_limb11 : ((Rows.convertPiecesRow.recurses == Tryz.pinned.checked.prog.recurses 5)) = true := by kernel_rfl
theorem piece_limb12 : ((Rows.convertPiecesRow.named == Tryz.pinned.checked.prog.varsNamed 5)) = true := by kernel_rfl

theorem and_both {a b : Bool} (h : a = true) (k : b = true) : (a && b) = true := by rw [h, k]; rfl

set_option maxRecDepth 100000 in
theorem piece_closed : joinedFacts Tryz.pinned.checked.prog 5 Tryz.f5 Rows.convertPiecesSpec Rows.convertPiecesRow = true := by
  unfold joinedFacts
  have h0 := piece_limb0
  have h1 := and_both h0 piece_limb1
  have h2 := and_both h1 piece_limb2
  have h3 := and_both h2 piece_limb3
  have h4 := and_both h3 piece_limb4
  have h5 := and_both h4 piece_limb5
  have h6 := and_both h5 piece_limb6
  have h7 := and_both h6 piece_limb7
  have h8 := and_both h7 piece_limb8
  have h9 := and_both h8 piece_limb9
  have h10 := and_both h9 piece_limb10
  have h11 := and_both h10 piece_limb11
  have h12 := and_both h11 piece_limb12
  have h13 := and_both h12 piece_limb13
  have h14 := and_both h13 piece_limb14
  have h15 := and_both h14 piece_limb15
  have h16 := and_both h15 piece_limb16
  have h17 := and_both h16 piece_limb17
  have h18 := and_both h17 piece_limb18
  have h19 := and_both h18 piece_limb19
  have h20 := and_both h19 piece_limb20
  have h21 := and_both h20 piece_limb21
  have h22 := and_both h21 piece_limb22
  have h23 := and_both h22 piece_limb23
  have h24 := and_both h23 piece_limb24
  have h25 := and_both h24 piece_limb25
  have h26 := and_both h25 piece_limb26
  have h27 := and_both h26 piece_limb27
  have h28 := and_both h27 piece_limb28
  have h29 := and_both h28 piece_limb29
  have h30 := and_both h29 piece_limb30
  have h31 := and_both h30 piece_limb31
  exact h31
end Go.Proofs.YtkbilipgidcgeaaGreatDoor
