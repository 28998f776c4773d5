/- graph.Loop at one node. -/
import Derived.Test.YtkbilipgidcgeaaGreatDoorH18
set_option linter.unusedVariables false
set_option linter.unusedSimpArgs false
namespace Go.Proofs.YtkbilipgidcgeaaGreatDoor
open Go.RowKit
attribute [local go_sem] ext_cell ext_frozen run_store_func mk_ints0 mk_ints1 mk_ints2 mk_lists0 mk_lists1 mk_lists2 ta_ints

set_option maxRecDepth 100000 in
set_option maxHeartbeats 1000000 in
theorem loop1 (w : World) : Calls Tryz.prog 196 #[.int .i64 1, .slice none 0 0] w fun e w' => e = .returned (.slice none 0 0) ∧ Below w.heap.size w w' := by
  go_enter Tryz.func196, Tryz.ntmps196
  (go_wp2_with (first | (go_at_call 154; refine (parts1 _).mono ?_; rintro e w1 ⟨go, co, g7, c7, rfl, hb1, hown, ho7⟩; have x1 := ownsRow_cell1 hown; have H1 := Lib.hid hb1; clear hb1 hown ho7) | (go_at_call 208; refine (gright 1 _ (by omega)).mono ?_; rintro e w2 ⟨rfl, hb2⟩; have H2 := Lib.hid hb2; clear hb2)); repeat (any_goals (first | (refine wp_loop_rounds 2 ?_; rw [rounds_succ]; go_wp2_with (first | (go_at_call 154; refine (parts1 _).mono ?_; rintro e w1 ⟨go, co, g7, c7, rfl, hb1, hown, ho7⟩; have x1 := ownsRow_cell1 hown; have H1 := Lib.hid hb1; clear hb1 hown ho7) | (go_at_call 208; refine (gright 1 _ (by omega)).mono ?_; rintro e w2 ⟨rfl, hb2⟩; have H2 := Lib.hid hb2; clear hb2))) | (rw [rounds_succ]; go_wp2_with (first | (go_at_call 154; refine (parts1 _).mono ?_; rintro e w1 ⟨go, co, g7, c7, rfl, hb1, hown, ho7⟩; have x1 := ownsRow_cell1 hown; have H1 := Lib.hid hb1; clear hb1 hown ho7) | (go_at_call 208; refine (gright 1 _ (by omega)).mono ?_; rintro e w2 ⟨rfl, hb2⟩; have H2 := Lib.hid hb2; clear hb2))))))
  go_ret
  exact ⟨rfl, H1.out.trans (H2.out.mono H1.out.size)⟩
end Go.Proofs.YtkbilipgidcgeaaGreatDoor
