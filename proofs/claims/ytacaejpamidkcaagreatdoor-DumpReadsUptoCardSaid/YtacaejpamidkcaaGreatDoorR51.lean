/- The tied card of the second form. -/
import Derived.Test.YtacaejpamidkcaaGreatDoorR48
import Derived.Test.YtacaejpamidkcaaGreatDoorTie
import Derived.Test.YtacaejpamidkcaaGreatDoorCards
set_option linter.unusedVariables false
set_option linter.unusedSimpArgs false
namespace Go.Proofs.YtacaejpamidkcaaGreatDoor
section
open Go
theorem sv_ : Tryz.prog.wantsStandIn 27 = false := by kernel_rfl
theorem v7_ : Tryz.prog.wantsStandIn 9 = false := by kernel_rfl
theorem x1_ : ∀ (j : Nat) (t : TypeId), (#[27, 27, 9] : Array TypeId)[j]? = some t → Tryz.prog.wantsStandIn t = false := by
 intro j t ht
 have h : t = 27 ∨ t = 9 := by
  rcases j with _ | _ | _ | j
  · exact .inl (Option.some.inj ht).symm
  · exact .inl (Option.some.inj ht).symm
  · exact .inr (Option.some.inj ht).symm
  · simp at ht
 rcases h with rfl | rfl
 · exact sv_
 · exact v7_
theorem ga_0 : Tryz.prog.funcs.any Func.goes = false := by kernel_rfl
theorem gn_0 {P : Program} (h : P.funcs.any Func.goes = false) (f : FuncId) : P.goes f = false := by
 unfold Program.goes
 rw [h, Bool.and_false, Bool.or_false, List.any_eq_false]
 intro g _
 rw [Array.any_eq_false] at h
 cases hg : P.funcs[g]? with
 | none => simp
 | some fn =>
  obtain ⟨hi, rfl⟩ := Array.getElem?_eq_some_iff.1 hg
  exact h g hi
theorem gb_0 {c : OpenClaim} {P : Program} (h : P.funcs.any Func.goes = false) (hs : c.start = .entering) : false = c.goesBy P := by
 unfold OpenClaim.goesBy Program.goesAt Program.goesFrom
 rw [hs]
 cases P.funcNamed c.func with
 | none => rfl
 | some f => show false = (P.goes f || false); rw [gn_0 h f]; rfl
theorem dumpReadsUpto_card : Rows.DumpReadsUptoCardSaid :=
 Claim7.holds_tied_plain_at .later [] _ _ _ _ hb_ (fun _ h => by cases h) (by kernel_rfl) (fun _ h => by cases h) dumpReadsUpto_row_tie rfl ⟨rfl, rfl⟩ (by kernel_rfl) rfl
  (fun f fn hf hfn => by
    obtain rfl : f = 3 := (Option.some.inj (kb_.symm.trans hf)).symm
    obtain rfl : fn = Tryz.f3 := (Option.some.inj (Tryz.func3.symm.trans hfn)).symm
    exact ⟨by kernel_rfl, fun j t ht => by
     rw [Tryz.params3] at ht
     exact x1_ j t ht⟩)
  (gb_0 ga_0 rfl)
end
end Go.Proofs.YtacaejpamidkcaaGreatDoor
