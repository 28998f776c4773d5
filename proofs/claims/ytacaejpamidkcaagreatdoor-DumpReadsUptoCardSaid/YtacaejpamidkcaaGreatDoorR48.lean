/- The second form holds. -/
import Derived.Test.YtacaejpamidkcaaGreatDoorR47
import Derived.Test.YtacaejpamidkcaaGreatDoorR50
set_option linter.unusedVariables false
set_option linter.unusedSimpArgs false
namespace Go.Proofs.YtacaejpamidkcaaGreatDoor
section
open Go.ChangeShapes Go.WideShapes Go.ChangeAt Go.WideElems Go.RowKit
theorem kb_ : Tryz.pinned.checked.prog.funcNamed "linchpin/linchpinlaw45.DumpReads" = some 3 := by kernel_rfl
theorem hb_ : Rows.DumpReadsUptoSaid :=
 OpenClaim.holds_of_cond 3 Tryz.f3 rfl rfl rfl rfl rfl rfl rfl ⟨rfl, rfl, rfl, rfl, rfl⟩ rfl rfl rfl rfl rfl kb_ Tryz.func3 oi_
  (of_decide_eq_true (by kernel_rfl)) (by unfold Func.isWrapper; first | (rw [if_pos (by decide +kernel)]; kernel_rfl) | (rw [if_neg (by decide +kernel)]; exact ⟨rfl, rfl⟩))
  (fun os started H enc _ F => by rw [OpenClaim.pre_eq_preRow]; exact nv_ os started H enc F)
end
end Go.Proofs.YtacaejpamidkcaaGreatDoor
