/- The closed facts of the row. -/
import Derived.Test.YtkbilipgidcgeaaGreatDoorRows
import Derived.ProofKit
import Derived.LaidMore
import Derived.JoinedOf
set_option linter.unusedVariables false
set_option linter.unusedSimpArgs false
namespace Go.Proofs.YtkbilipgidcgeaaGreatDoor
open Go.ChangeShapes Go.WideShapes Go.ChangeAt Go.WideElems Go.RowKit

theorem makes_named : Tryz.pinned.checked.prog.funcNamed Rows.holdMakesRow.func = some 4 := by kernel_rfl
theorem makes_func : Tryz.pinned.checked.prog.funcs[(4 : Nat)]? = some Tryz.f4 := Tryz.func4
theorem makes_inst : Tryz.f4.isInstance Tryz.pinned.checked.prog Rows.holdMakesRow.origin Rows.holdMakesRow.targs := of_decide_eq_true (by kernel_rfl)
theorem makes_wrap : Tryz.f4.isWrapper Tryz.pinned.checked.prog Rows.holdMakesRow.wrapper Rows.holdMakesRow.mainSum := by unfold Func.isWrapper; first | (rw [if_pos (by decide +kernel)]; kernel_rfl) | (rw [if_neg (by decide +kernel)]; exact ⟨rfl, rfl⟩)
end Go.Proofs.YtkbilipgidcgeaaGreatDoor
