/- The closed facts of the row, the second part, and all of them together. The row holds. The tied card. -/
import Derived.Test.YtkbilipgidcgeaaGreatDoorRows
import Derived.ProofKit
import Derived.LaidMore
import Derived.JoinedOf
import Derived.Test.YtkbilipgidcgeaaGreatDoorW53
import Derived.Test.YtkbilipgidcgeaaGreatDoorW52
import Derived.Test.YtkbilipgidcgeaaGreatDoorTie
import Derived.Test.YtkbilipgidcgeaaGreatDoorCards
import Derived.SevenTiedAt
set_option linter.unusedVariables false
set_option linter.unusedSimpArgs false
namespace Go.Proofs.YtkbilipgidcgeaaGreatDoor
open Go.ChangeShapes Go.WideShapes Go.ChangeAt Go.WideElems Go.RowKit

theorem runs_limb9 : ((Rows.convertRunsRow.inPlace == Tryz.pinned.checked.prog.inPlace 3)) = true := by kernel_rfl
theorem runs_limb10 : ((Rows.convertRunsRow.unfollowed == Tryz.pinned.checked.prog.unfollowed 3)) = true := by kernel_rfl
theorem runs_limb11 : ((Rows.convertRunsRow.recurses == Tryz.pinned.checked.prog.recurses 3)) = true := by kernel_rfl
theorem runs_limb12 : ((Rows.convertRunsRow.named == Tryz.pinned.checked.prog.varsNamed 3)) = true := by kernel_rfl

theorem both_true {a b : Bool} (h : a = true) (k : b = true) : (a && b) = true := by rw [h, k]; rfl

set_option maxRecDepth 100000 in
theorem runs_closed : joinedFacts Tryz.pinned.checked.prog 3 Tryz.f3 Rows.convertRunsSpec Rows.convertRunsRow = true := by
  unfold joinedFacts
  have h0 := runs_limb0
  have h1 := both_true h0 runs_limb1
  have h2 := both_true h1 runs_limb2
  have h3 := both_true h2 runs_limb3
  have h4 := both_true h3 runs_limb4
  have h5 := both_true h4 runs_limb5
  have h6 := both_true h5 runs_limb6
  have h7 := both_true h6 runs_limb7
  have h8 := both_true h7 runs_limb8
  have h9 := both_true h8 runs_limb9
  have h10 := both_true h9 runs_limb10
  have h11 := both_true h10 runs_limb11
  have h12 := both_true h11 runs_limb12
  have h13 := both_true h12 runs_limb13
  have h14 := both_true h13 runs_limb14
  have h15 := both_true h14 runs_limb15
  have h16 := both_true h15 runs_limb16
  have h17 := both_true h16 runs_limb17
  have h18 := both_true h17 runs_limb18
  have h19 := both_true h18 runs_limb19
  have h20 := both_true h19 runs_limb20
  have h21 := both_true h20 runs_limb21
  have h22 := both_true h21 runs_limb22
  have h23 := both_true h22 runs_limb23
  have h24 := both_true h23 runs_limb24
  have h25 := both_true h24 runs_limb25
  have h26 := both_true h25 runs_limb26
  have h27 := both_true h26 runs_limb27
  have h28 := both_true h27 runs_limb28
  have h29 := both_true h28 runs_limb29
  have h30 := both_true h29 runs_limb30
  have h31 := both_true h30 runs_limb31
  exact h31
end Go.Proofs.YtkbilipgidcgeaaGreatDoor

namespace Go.Proofs.YtkbilipgidcgeaaGreatDoor
open Go.ChangeShapes Go.WideShapes Go.ChangeAt Go.WideElems Go.RowKit

theorem convertRuns_holds : Rows.ConvertRunsSaid :=
  OpenClaim.holds_of_wide 3 Tryz.f3 rfl rfl rfl rfl rfl rfl rfl ⟨rfl, rfl, rfl, rfl, rfl⟩ rfl rfl rfl rfl rfl runs_named runs_func runs_closed runs_inst runs_wrap
    (fun os started H enc _ => runs_lifted os started H enc)
end Go.Proofs.YtkbilipgidcgeaaGreatDoor

namespace Go.Proofs.YtkbilipgidcgeaaGreatDoor
open Go

theorem runs_stand_str : Tryz.prog.wantsStandIn 9 = false := by kernel_rfl
theorem runs_stand_pcs : Tryz.prog.wantsStandIn 22 = false := by kernel_rfl
theorem runs_no_stand : ∀ (j : Nat) (t : TypeId), (#[9, 9, 22] : Array TypeId)[j]? = some t → Tryz.prog.wantsStandIn t = false := by
  intro j t ht
  have h : t = 9 ∨ t = 22 := by
    rcases j with _ | _ | _ | j
    · exact .inl (Option.some.inj ht).symm
    · exact .inl (Option.some.inj ht).symm
    · exact .inr (Option.some.inj ht).symm
    · simp at ht
  rcases h with rfl | rfl
  · exact runs_stand_str
  · exact runs_stand_pcs

theorem convertRuns_card : Rows.ConvertRunsCardSaid :=
  Claim7.holds_tied_plain_at .later [] [.widerDeep] true (true, "3dfbea2848c90a7594bf8ebf6ce7e4b4024e62316055f48a4b9691049f674d8f") true
    convertRuns_holds (fun _ h => by cases h) (by kernel_rfl) (fun _ h => by cases h) convertRuns_row_tie rfl ⟨rfl, rfl⟩ (by kernel_rfl) rfl
    (fun f fn hf hfn => by
      obtain rfl : f = 3 := (Option.some.inj (runs_named.symm.trans hf)).symm
      obtain rfl : fn = Tryz.f3 := (Option.some.inj (runs_func.symm.trans hfn)).symm
      exact ⟨by kernel_rfl, fun j t ht => by
        rw [Tryz.params3] at ht
        exact runs_no_stand j t ht⟩)
    (by kernel_rfl)
end Go.Proofs.YtkbilipgidcgeaaGreatDoor
