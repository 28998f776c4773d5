/- graph.Right, graph.next without arcs. -/
import Derived.Test.YtacaejpamidkcaaGreatDoorR11
set_option linter.unusedVariables false
set_option linter.unusedSimpArgs false
set_option maxRecDepth 100000
namespace Go.Proofs.YtacaejpamidkcaaGreatDoor
section
open Go.RowKit
attribute [local go_sem] ak_ af_ aq_ be_ bf_ bg_ a6_ a7_ a8_
theorem mg_ (f : Value) (w : World) : Calls Tryz.prog 414 #[.slice none 0 0, f] w fun e w' => e = .returned (.int .i64 (-1)) ∧ w = w' := by
 go_enter Tryz.func414, Tryz.ntmps414
 (go_wp2; repeat (any_goals (first | (refine wp_loop_rounds 2 ?_; rw [rounds_succ]; go_wp2) | (rw [rounds_succ]; go_wp2))))
 go_ret
 exact ⟨rfl, rfl⟩
theorem je_ (f : Value) (w : World) : Calls Tryz.prog 356 #[.slice none 0 0, f] w fun e w' => e = .returned (.bool false) ∧ w = w' := by
 go_enter Tryz.func356, Tryz.ntmps356
 go_wp2_with (go_at_call 414; refine (mg_ _ _).mono ?_; rintro e w1 ⟨rfl, rfl⟩)
 go_ret
 exact ⟨rfl, rfl⟩
theorem ii_ (n : Nat) (w : World) (hn : n ≤ 1000) : Calls Tryz.prog 228 #[.int .i64 n, .slice none 0 0] w fun e w' => e = .returned (.bool true) ∧ Below w.heap.size w w' := by
 have hn' : (n : Int) ≤ 262144 := by omega
 go_enter Tryz.func228, Tryz.ntmps228
 go_wp2_with (go_at_call 356; refine (je_ _ _).mono ?_; rintro e w1 ⟨rfl, rfl⟩)
 go_ret
 exact ⟨rfl, ((Below.refl _ _).alloc (Nat.le_refl _) _).alloc (by simp) _⟩
theorem jf_ (p : Option Addr) (n c k : Nat) (w : World) (hn : n ≤ 1) : Calls Tryz.prog 365 #[.slice p n c, .int .i64 0, .int .i64 n, .int .i64 k] w fun e w' => e = .returned (.tuple #[]) ∧ w = w' := by
 obtain rfl | rfl : n = 0 ∨ n = 1 := by omega
 all_goals
  go_enter Tryz.func365, Tryz.ntmps365
  (go_wp2; repeat (any_goals (first | (refine wp_loop_rounds 2 ?_; rw [rounds_succ]; go_wp2) | (rw [rounds_succ]; go_wp2))))
  go_returns
  exact ⟨rfl, rfl⟩
theorem ev_ (p : Option Addr) (n c : Nat) (w : World) (hn : n ≤ 1) : Calls Tryz.prog 242 #[.slice p n c] w fun e w' => e = .returned (.tuple #[]) ∧ w = w' := by
 obtain rfl | rfl : n = 0 ∨ n = 1 := by omega
 all_goals
  go_enter Tryz.func242, Tryz.ntmps242
  (go_wp2_with (first | (go_at_call 337; refine (Tryz.bits_Len _ _ (by omega) (by omega)).mono ?_; rintro e w1 ⟨rfl, rfl⟩) | (go_at_call 365; refine (jf_ _ _ _ _ _ (by omega)).mono ?_; rintro e w1 ⟨rfl, rfl⟩)); repeat (any_goals (first | (refine wp_loop_rounds 2 ?_; rw [rounds_succ]; go_wp2_with (first | (go_at_call 337; refine (Tryz.bits_Len _ _ (by omega) (by omega)).mono ?_; rintro e w1 ⟨rfl, rfl⟩) | (go_at_call 365; refine (jf_ _ _ _ _ _ (by omega)).mono ?_; rintro e w1 ⟨rfl, rfl⟩))) | (rw [rounds_succ]; go_wp2_with (first | (go_at_call 337; refine (Tryz.bits_Len _ _ (by omega) (by omega)).mono ?_; rintro e w1 ⟨rfl, rfl⟩) | (go_at_call 365; refine (jf_ _ _ _ _ _ (by omega)).mono ?_; rintro e w1 ⟨rfl, rfl⟩))))))
  go_end0
  exact ⟨rfl, rfl⟩
theorem gd_ (p : Option Addr) (n c : Nat) (w : World) (hn : n ≤ 1) : Calls Tryz.prog 358 #[.slice p n c] w fun e w' => e = .returned (.slice p n c) ∧ w = w' := by
 obtain rfl | rfl : n = 0 ∨ n = 1 := by omega
 all_goals
  go_enter Tryz.func358, Tryz.ntmps358
  go_wp2
  go_ret
  exact ⟨rfl, rfl⟩
theorem gnext0 (w : World) : Calls Tryz.prog 229 #[.int .i64 0, .slice none 0 0] w fun e w' => e = .returned (.slice (some ⟨w.heap.size, 0, none⟩) 0 0) ∧ Below w.heap.size w w' := by
 go_enter Tryz.func229, Tryz.ntmps229
 (go_wp2; repeat (any_goals (first | (refine wp_loop_rounds 2 ?_; rw [rounds_succ]; go_wp2) | (rw [rounds_succ]; go_wp2))))
 go_ret
 exact ⟨rfl, ((Below.refl _ _).alloc (Nat.le_refl _) _)⟩
theorem gnext1 (w : World) : Calls Tryz.prog 229 #[.int .i64 1, .slice none 0 0] w fun e w' =>
 e = .returned (.slice (some ⟨w.heap.size, 0, none⟩) 1 1) ∧ w' = w.alloc (.cells #[.slice none 0 0] 38) := by
 go_enter Tryz.func229, Tryz.ntmps229
 (go_wp2_with (first | (go_at_call 242; refine (ev_ _ _ _ _ (by omega)).mono ?_; rintro e w1 ⟨rfl, rfl⟩) | (go_at_call 358; refine (gd_ _ _ _ _ (by omega)).mono ?_; rintro e w1 ⟨rfl, rfl⟩)); repeat (any_goals (first | (refine wp_loop_rounds 2 ?_; rw [rounds_succ]; go_wp2_with (first | (go_at_call 242; refine (ev_ _ _ _ _ (by omega)).mono ?_; rintro e w1 ⟨rfl, rfl⟩) | (go_at_call 358; refine (gd_ _ _ _ _ (by omega)).mono ?_; rintro e w1 ⟨rfl, rfl⟩))) | (rw [rounds_succ]; go_wp2_with (first | (go_at_call 242; refine (ev_ _ _ _ _ (by omega)).mono ?_; rintro e w1 ⟨rfl, rfl⟩) | (go_at_call 358; refine (gd_ _ _ _ _ (by omega)).mono ?_; rintro e w1 ⟨rfl, rfl⟩))))))
 go_ret
 exact ⟨rfl, rfl⟩
end
end Go.Proofs.YtacaejpamidkcaaGreatDoor
