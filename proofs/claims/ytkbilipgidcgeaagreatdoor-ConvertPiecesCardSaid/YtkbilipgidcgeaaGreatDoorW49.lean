/- The closed facts of the row. The row holds. The tied card. -/
import Derived.Test.YtkbilipgidcgeaaGreatDoorRows
import Derived.ProofKit
import Derived.LaidMore
import Derived.JoinedOf
import Derived.Test.YtkbilipgidcgeaaGreatDoorW46
import Derived.Test.YtkbilipgidcgeaaGreatDoorW48
import Derived.Test.YtkbilipgidcgeaaGreatDoorTie
import Derived.Test.YtkbilipgidcgeaaGreatDoorCards
import Derived.SevenTiedAt
set_option linter.unusedVariables false
set_option linter.unusedSimpArgs false
namespace Go.Proofs.YtkbilipgidcgeaaGreatDoor
open Go.ChangeShapes Go.WideShapes Go.ChangeAt Go.WideElems Go.RowKit

theorem piece_named : Tryz.pinned.checked.prog.funcNamed Rows.convertPiecesRow.func = some 5 := by kernel_rfl
theorem piece_func : Tryz.pinned.checked.prog.funcs[(5 : Nat)]? = some Tryz.f5 := Tryz.func5
theorem piece_inst : Tryz.f5.isInstance Tryz.pinned.checked.prog Rows.convertPiecesRow.origin Rows.convertPiecesRow.targs := of_decide_eq_true (by kernel_rfl)
theorem piece_wrap : Tryz.f5.isWrapper Tryz.pinned.checked.prog Rows.convertPiecesRow.wrapper Rows.convertPiecesRow.mainSum := by unfold Func.isWrapper; first | (rw [if_pos (by decide +kernel)]; kernel_rfl) | (rw [if_neg (by decide +kernel)]; exact ⟨rfl, rfl⟩)
end Go.Proofs.YtkbilipgidcgeaaGreatDoor

namespace Go.Proofs.YtkbilipgidcgeaaGreatDoor
open Go.ChangeShapes Go.WideShapes Go.ChangeAt Go.WideElems Go.RowKit

theorem convertPieces_holds : Rows.ConvertPiecesSaid :=
  OpenClaim.holds_of_wide 5 Tryz.f5 rfl rfl rfl rfl rfl rfl rfl ⟨rfl, rfl, rfl, rfl, rfl⟩ rfl rfl rfl rfl rfl piece_named piece_func piece_closed piece_inst piece_wrap
    (fun os started H enc _ => lifted os started H enc)
end Go.Proofs.YtkbilipgidcgeaaGreatDoor

namespace Go.Proofs.YtkbilipgidcgeaaGreatDoor
open Go

theorem stand_str : Tryz.prog.wantsStandIn 9 = false := by kernel_rfl
theorem stand_pcs : Tryz.prog.wantsStandIn 22 = false := by kernel_rfl
theorem no_stand : ∀ (j : Nat) (t : TypeId), (#[9, 9, 22, 22] : Array TypeId)[j]? = some t → Tryz.prog.wantsStandIn t = false := by
  intro j t ht
  have h : t = 9 ∨ t = 22 := by
    rcases j with _ | _ | _ | _ | j
    · exact .inl (Option.some.inj ht).symm
    · exact .inl (Option.some.inj ht).symm
    · exact .inr (Option.some.inj ht).symm
    · exact .inr (Option.some.inj ht).symm
    · simp at ht
  rcases h with rfl | rfl
  · exact stand_str
  · exact stand_pcs

theorem convertPieces_card : Rows.ConvertPiecesCardSaid :=
  Claim7.holds_tied_plain_at .later [] [.widerDeep] true (true, "3dfbea2848c90a7594bf8ebf6ce7e4b4024e62316055f48a4b9691049f674d8f") true
    convertPieces_holds (fun _ h => by cases h) (by kernel_rfl) (fun _ h => by cases h) convertPieces_row_tie rfl ⟨rfl, rfl⟩ (by kernel_rfl) rfl
    (fun f fn hf hfn => by
      obtain rfl : f = 5 := (Option.some.inj (piece_named.symm.trans hf)).symm
      obtain rfl : fn = Tryz.f5 := (Option.some.inj (piece_func.symm.trans hfn)).symm
      exact ⟨by kernel_rfl, fun j t ht => by
        rw [Tryz.params5] at ht
        exact no_stand j t ht⟩)
    (by kernel_rfl)
end Go.Proofs.YtkbilipgidcgeaaGreatDoor
