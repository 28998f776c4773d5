/- The closed facts of the row, the second part, and all of them together. -/
import Derived.Test.YtkbilipgidcgeaaGreatDoorRows
import Derived.ProofKit
import Derived.LaidMore
import Derived.JoinedOf
import Derived.Test.YtkbilipgidcgeaaGreatDoorH48
set_option linter.unusedVariables false
set_option linter.unusedSimpArgs false
namespace Go.Proofs.YtkbilipgidcgeaaGreatDoor
open Go.ChangeShapes Go.WideShapes Go.ChangeAt Go.WideElems Go.RowKit

theorem makes_limb9 : ((Rows.holdMakesRow.inPlace == Tryz.pinned.checked.prog.inPlace 4)) = true := by kernel_rfl
theorem makes_limb10 : ((Rows.holdMakesRow.unfollowed == Tryz.pinned.checked.prog.unfollowed 4)) = true := by kernel_rfl
theorem makes_limb11 : ((Rows.holdMakesRow.recurses == Tryz.pinned.checked.prog.recurses 4)) = true := by kernel_rfl
theorem makes_limb12 : ((Rows.holdMakesRow.named == Tryz.pinned.checked.prog.varsNamed 4)) = true := by kernel_rfl

theorem makes_both {a b : Bool} (h : a = true) (k : b = true) : (a && b) = true := by rw [h, k]; rfl

set_option maxRecDepth 100000 in
theorem makes_closed : joinedFacts Tryz.pinned.checked.prog 4 Tryz.f4 Rows.holdMakesSpec Rows.holdMakesRow = true := by
  unfold joinedFacts
  have h0 := makes_limb0
  have h1 := makes_both h0 makes_limb1
  have h2 := makes_both h1 makes_limb2
  have h3 := makes_both h2 makes_limb3
  have h4 := makes_both h3 makes_limb4
  have h5 := makes_both h4 makes_limb5
  have h6 := makes_both h5 makes_limb6
  have h7 := makes_both h6 makes_limb7
  have h8 := makes_both h7 makes_limb8
  have h9 := makes_both h8 makes_limb9
  have h10 := makes_both h9 makes_limb10
  have h11 := makes_both h10 makes_limb11
  have h12 := makes_both h11 makes_limb12
  have h13 := makes_both h12 makes_limb13
  have h14 := makes_both h13 makes_limb14
  have h15 := makes_both h14 makes_limb15
  have h16 := makes_both h15 makes_limb16
  have h17 := makes_both h16 makes_limb17
  have h18 := makes_both h17 makes_limb18
  have h19 := makes_both h18 makes_limb19
  have h20 := makes_both h19 makes_limb20
  have h21 := makes_both h20 makes_limb21
  have h22 := makes_both h21 makes_limb22
  have h23 := makes_both h22 makes_limb23
  have h24 := makes_both h23 makes_limb24
  have h25 := makes_both h24 makes_limb25
  have h26 := makes_both h25 makes_limb26
  have h27 := makes_both h26 makes_limb27
  have h28 := makes_both h27 makes_limb28
  have h29 := makes_both h28 makes_limb29
  have h30 := makes_both h29 makes_limb30
  have h31 := makes_both h30 makes_limb31
  exact h31
end Go.Proofs.YtkbilipgidcgeaaGreatDoor
