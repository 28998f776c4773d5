import Derived.Test.YtkbilipgidcgeaaGreatDoorH36
import Derived.Test.YtkbilipgidcgeaaGreatDoorH45
import Derived.Test.YtkbilipgidcgeaaGreatDoorH47
import Derived.Test.YtkbilipgidcgeaaGreatDoorH49
import Derived.Test.YtkbilipgidcgeaaGreatDoorTie
import Derived.Test.YtkbilipgidcgeaaGreatDoorCards
import Derived.SevenTiedAt
/- The row of linchpinlaw38.HoldMakes. -/
set_option linter.unusedVariables false
set_option linter.unusedSimpArgs false
namespace Go.Proofs.YtkbilipgidcgeaaGreatDoor.Tiny
open Go.ChangeShapes Go.WideShapes Go.ChangeAt Go.WideElems Go.RowKit

set_option maxRecDepth 100000 in
theorem makes_lifted (os : Os) (started : os.Started) (H : Type) (enc : TypeId × Value → H) :
    ReturnsInHanded {} Tryz.checked os 4 .any (fun w args => (Rows.holdMakesSpec.pre enc Tryz.prog Tryz.f4 [] false w args ∧ laidMetH Tryz.prog Rows.holdMakesRow.laid w) ∧ sizedMet enc Tryz.prog Tryz.f4 (OpenSpec.ofChange Rows.holdMakesSpec) false w args)
      (Rows.holdMakesSpec.post enc Tryz.prog Tryz.f4 false true false false) := by
  refine returnsInHanded_of_change_and (C := Tryz.checked) (X := fun w _ => laidMetH Tryz.prog Rows.holdMakesRow.laid w) (fun _ _ _ hh h => h.of_heap hh) own started (by kernel_rfl) Tryz.func4
    (ChangeSpec.witness_shaped (enc := enc) (C := Tryz.checked) (os := os) (X := fun w _ => laidMetH Tryz.prog Rows.holdMakesRow.laid w) false (World.doorLaid Tryz.prog 4000 os) #[.slice none 0 0] 8 rfl (World.shaped_of_RefB (by kernel_rfl) (by kernel_rfl)) (by kernel_rfl) (by kernel_rfl) (by kernel_rfl) (door_met os _)) ?_
  intro W base args ds gs before hval0 hW _ hsized hL _
  have hval : ∀ (j : Nat) t v, Tryz.f4.params[j]? = some t → args[j]? = some v → Value.okWide Tryz.prog W .any base t v := hval0
  have hW' := hW
  obtain ⟨p, q, hA0, hV, rfl, hfz, hnd⟩ := hW
  have hA : DataW.TrodAll enc Tryz.prog W 0 (fun _ => true) true Tryz.f4.params.toList args.toList ds p := hA0
  rw [Tryz.params4] at hA hval
  obtain ⟨v0, d0, rfl, rfl, h0⟩ := trodAll_one hA
  obtain ⟨rfl, rfl⟩ := trodVars_none hV
  obtain ⟨b1, l, k1, rfl, hv1, hd⟩ := ins_of_slice (hval 0 _ v0 rfl rfl) h0
  have hlen : l.length ≤ 17592186044416 := by
    rcases hd with h | ⟨elems, spare, h, he⟩
    · rw [h]; simp
    · have hsz := sized_slice hsized (j := 0) (t := 60) (e := 67) (elems := elems) (spare := spare) (by kernel_rfl) (by rw [h]; rfl) Tryz.underlying60
      rw [show Tryz.checked.prog.bytesOf 67 = 40 by kernel_rfl] at hsz
      have := reachBytes_lt
      omega
  clear hA0 hval0 hsized hd
  simp only [List.append_nil] at hW'
  have hlt : ∀ x ∈ p, x.block < W.heap.size := fun x hx => by simpa using hW'.lt x hx
  refine (makes_ok b1 k1 l W (forms_of_laid hL) hv1 hlen).mono fun e W' ⟨he, hb⟩ => ?_
  subst he
  refine ⟨_, rfl, _, _, _, [], p, [], hW', ?_, ?_, rfl, hb.frame _, fun h => by cases h⟩
  · exact trodAll_mk1 (shut_bool Tryz.underlying4 _)
  · exact trodAll_mk1 (Below.trod laidOut (by kernel_rfl) (of_decide_eq_true (by kernel_rfl)) h0 hb (fun x hx => hlt x hx))

end Go.Proofs.YtkbilipgidcgeaaGreatDoor.Tiny

/- The row holds. -/
set_option linter.unusedVariables false
set_option linter.unusedSimpArgs false
namespace Go.Proofs.YtkbilipgidcgeaaGreatDoor
open Go.ChangeShapes Go.WideShapes Go.ChangeAt Go.WideElems Go.RowKit

theorem holdMakes_holds : Rows.HoldMakesSaid :=
  OpenClaim.holds_of_wide 4 Tryz.f4 rfl rfl rfl rfl rfl rfl rfl ⟨rfl, rfl, rfl, rfl, rfl⟩ rfl rfl rfl rfl rfl makes_named makes_func makes_closed makes_inst makes_wrap
    (fun os started H enc _ => Tiny.makes_lifted os started H enc)
end Go.Proofs.YtkbilipgidcgeaaGreatDoor

/- The tied card. -/
set_option linter.unusedVariables false
set_option linter.unusedSimpArgs false
namespace Go.Proofs.YtkbilipgidcgeaaGreatDoor
open Go

theorem makes_stand : Tryz.prog.wantsStandIn 60 = false := by kernel_rfl
theorem makes_no_stand : ∀ (j : Nat) (t : TypeId), (#[60] : Array TypeId)[j]? = some t → Tryz.prog.wantsStandIn t = false := by
  intro j t ht
  rcases j with _ | j
  · obtain rfl := (Option.some.inj ht).symm
    exact makes_stand
  · simp at ht

theorem holdMakes_card : Rows.HoldMakesCardSaid :=
  Claim7.holds_tied_plain_at .later [] [.widerDeep] true (true, "3dfbea2848c90a7594bf8ebf6ce7e4b4024e62316055f48a4b9691049f674d8f") true
    holdMakes_holds (fun _ h => by cases h) (by kernel_rfl) (fun _ h => by cases h) holdMakes_row_tie rfl ⟨rfl, rfl⟩ (by kernel_rfl) rfl
    (fun f fn hf hfn => by
      obtain rfl : f = 4 := (Option.some.inj (makes_named.symm.trans hf)).symm
      obtain rfl : fn = Tryz.f4 := (Option.some.inj (makes_func.symm.trans hfn)).symm
      exact ⟨by kernel_rfl, fun j t ht => by
        rw [Tryz.params4] at ht
        exact makes_no_stand j t ht⟩)
    (by kernel_rfl)
end Go.Proofs.YtkbilipgidcgeaaGreatDoor
