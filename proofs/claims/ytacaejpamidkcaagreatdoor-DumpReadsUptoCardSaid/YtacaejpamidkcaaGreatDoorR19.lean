/- graph.Loop at one node. -/
import Derived.Test.YtacaejpamidkcaaGreatDoorR17
set_option linter.unusedVariables false
set_option linter.unusedSimpArgs false
set_option maxRecDepth 100000
set_option maxHeartbeats 1000000
namespace Go.Proofs.YtacaejpamidkcaaGreatDoor
section
open Go.RowKit
attribute [local go_sem] ak_ af_ aq_ be_ bf_ bg_ a6_ a7_ a8_ cb_
theorem loop1 (w : World) : Calls Tryz.prog 216 #[.int .i64 1, .slice none 0 0] w fun e w' => e = .returned (.slice none 0 0) ∧ Below w.heap.size w w' := by
 go_enter Tryz.func216, Tryz.ntmps216
 (go_wp2_with (first | (go_at_call 154; refine (p9_ _).mono ?_; rintro e w1 ⟨go, co, g7, c7, rfl, hb1, hown, ho7⟩; have x1 := bx_ hown; have H1 := h1_ hb1; clear hb1 hown ho7) | (go_at_call 228; refine (ii_ 1 _ (by omega)).mono ?_; rintro e w2 ⟨rfl, hb2⟩; have H2 := h1_ hb2; clear hb2)); repeat (any_goals (first | (refine wp_loop_rounds 2 ?_; rw [rounds_succ]; go_wp2_with (first | (go_at_call 154; refine (p9_ _).mono ?_; rintro e w1 ⟨go, co, g7, c7, rfl, hb1, hown, ho7⟩; have x1 := bx_ hown; have H1 := h1_ hb1; clear hb1 hown ho7) | (go_at_call 228; refine (ii_ 1 _ (by omega)).mono ?_; rintro e w2 ⟨rfl, hb2⟩; have H2 := h1_ hb2; clear hb2))) | (rw [rounds_succ]; go_wp2_with (first | (go_at_call 154; refine (p9_ _).mono ?_; rintro e w1 ⟨go, co, g7, c7, rfl, hb1, hown, ho7⟩; have x1 := bx_ hown; have H1 := h1_ hb1; clear hb1 hown ho7) | (go_at_call 228; refine (ii_ 1 _ (by omega)).mono ?_; rintro e w2 ⟨rfl, hb2⟩; have H2 := h1_ hb2; clear hb2))))))
 go_ret
 exact ⟨rfl, H1.out.trans (H2.out.mono H1.out.size)⟩
end
end Go.Proofs.YtacaejpamidkcaaGreatDoor
